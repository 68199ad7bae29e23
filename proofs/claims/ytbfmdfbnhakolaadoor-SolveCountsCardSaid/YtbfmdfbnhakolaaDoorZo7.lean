/- The library: FormatUint of base 16. Numbers: plus. Numbers: times. Numbers: Add of any. Numbers: Mul of any; Pow. Numbers: Text. The library: ParseUint of base 16, of texts that are numbers of at most sixteen letters. Numbers: Parse. The reference's numbers: Trim, Text. Numbers: Pow, Sub. Numbers: Sub. The laws' small parts on numbers: To, Is, awake. The laws of numbers: what they carry along. A region that draws its order, with one store into a box of one cell of its own (a number): each operation has a shape that lasts. Counts of grids by rank: plain laws. Counts of grids: what their functions carry along. What equations say together: Judge. What equations say together: Judge, where one doesn't fit. Counts of grids: power, Spare, All, without. Counts of grids: Full, Fails. How many solutions there are: Count. The reference's Vectors. The reference's Wide. The reference's Judge. A region that draws its order, op by op: what holds of the world is told by which operations have run. -/
import Derived.Test.YtbfmdfbnhakolaaDoorZo6
import Derived.Lib.ItoaWalk
import Derived.Laws.IdiomStrings
import Derived.OwnWalk
import Derived.Lib.AtoiAllMem
import Derived.Lib.ConvBytes
import Derived.Lib.Walk
import Derived.Laws.Strings3
import Derived.Laws.Closers25
import Derived.Laws.Closers25b
import Derived.BigCall
import Derived.BigGuard
import Derived.Laws.Concat
import Derived.WalkKit
import Derived.IntWalk
namespace Go.By
open Go.RowKit
theorem idx_hex {P : Program} (t : TypeId) (ht : P.underlying t = some .string) (z : Int) (d : Nat) (hz : z = (d : Int)) (hd : d < 16) (w : World) :
    (Instr.index t (.string Lib.digits36) (.int .u64 z)).run P w = .ok (B8 (hexc d)) w := by
  subst hz
  rw [run_index_string w t Lib.digits36 _ _ ht, dif_pos ⟨by omega, by rw [Lib.digits36_size]; omega⟩]
  have e : ((d : Int)).toNat = d := by omega
  simp only [e]
  have key : ∀ d : Fin 16, Lib.digits36.data.toList[d.val]? = some (hexc d.val) := by decide +kernel
  have k := key ⟨d, hd⟩
  have hsz : d < Lib.digits36.size := by rw [Lib.digits36_size]; omega
  have : Lib.digits36[d]'hsz = hexc d := by
    rw [Array.getElem?_toList] at k
    have h2 : Lib.digits36.data[d]? = some (Lib.digits36[d]'hsz) := Array.getElem?_eq_getElem hsz
    rw [h2] at k
    exact Option.some.inj k
  rw [this]
theorem hexText_small {u : Nat} (h : u < 16) : hexText u = [hexc u] := by
  unfold hexText
  by_cases h0 : u = 0
  · subst h0; rfl
  · rw [if_neg h0, digs_pos (by decide) (by omega), Nat.div_eq_of_lt h, digs_zero, Nat.mod_eq_of_lt h]; rfl
theorem hexText_big {u : Nat} (h : 16 ≤ u) : hexText u = hexText (u / 16) ++ [hexc (u % 16)] := by
  have h1 : u / 16 ≠ 0 := by omega
  unfold hexText
  rw [if_neg (by omega), if_neg h1, digs_pos (by decide) (by omega), List.reverse_cons, List.map_append]; rfl
theorem hexText_pos (u : Nat) : 1 ≤ (hexText u).length := by
  have := hexText_ne u
  cases h : hexText u with
  | nil => exact absurd h this
  | cons _ _ => simp
theorem wr_u64 (n : Int) (h0 : 0 ≤ n) (h1 : n < 2 ^ 64) : IntKind.u64.wrap n = n := by
  rw [IntKind.wrap_u64]
  have : (2 : Int) ^ 64 = 18446744073709551616 := by decide
  omega
theorem and15 (u : Nat) (h : u < 18446744073709551616) : bits .and .u64 (u : Int) 15 = ((u % 16 : Nat) : Int) := by
  have h1 := (bits_nat .u64 64 (by decide) wr_u64 u 15 (by simpa using h) (by decide)).1
  rw [show ((15 : Int)) = ((15 : Nat) : Int) from rfl, h1]
  congr 1
  exact Nat.and_two_pow_sub_one_eq_mod u 4
end Go.By
namespace Go.Proofs.YtbfmdfbnhakolaaDoor
open Go.RowKit Go.By
/-- the one cell of the table that is read -/
def Tab (w : World) : Prop := w.cell? ⟨3, 15, none⟩ = some (.int .u8 4)
theorem Tab.keep {w w' : World} (h : Tab w) (hb : Below w.heap.size w w') : Tab w' := (hb.cell (p := ⟨3, 15, none⟩) (lt_of_cell h)).trans h
theorem Tz64 (w : World) (h : Tab w) : Calls Tryd.prog 125 #[.int .u64 16] w fun e w' => e = .returned (.int .i64 4) ∧ w' = w := by
  have hc : w.cell? ⟨3, 15, none⟩ = some (.int .u8 4) := h
  have key : IntKind.u64.wrap (bits BinOp.and IntKind.u64 16 (IntKind.u64.wrap (-16)) * 285870213051353865) / 288230376151711744 = 15 := by decide
  clear h
  go_enter Tryd.func125, Tryd.ntmps125
  go_wp2_with (simp only [key])
  go_ret
  exact ⟨rfl, rfl⟩
theorem Tz (w : World) (h : Tab w) : Calls Tryd.prog 120 #[.int .u64 16] w fun e w' => e = .returned (.int .i64 4) ∧ w' = w := by
  go_enter Tryd.func120, Tryd.ntmps120
  go_wp2_with fail
  refine Calls.mono (Tz64 w h) ?_
  rintro e w' ⟨rfl, rfl⟩
  go_wp2
  go_ret
  exact ⟨rfl, rfl⟩
theorem Pow2 (w : World) : Calls Tryd.prog 119 #[.int .i64 16] w fun e w' => e = .returned (.bool true) ∧ w' = w := by
  have key : bits BinOp.and IntKind.i64 16 15 = 0 := by decide
  go_enter Tryd.func119, Tryd.ntmps119
  go_wp2_with (simp only [key])
  go_ret
  exact ⟨rfl, rfl⟩
set_option maxRecDepth 100000 in
set_option maxHeartbeats 4000000 in
theorem formatBits_16 (n : UInt64) (w : World) (hT : Tab w) :
    Calls Tryd.prog 106 #[.slice none 0 0, W64 n, .int .i64 16, .bool false, .bool false] w fun e w' => e = .returned (.tuple #[.slice none 0 0, .string ⟨(hexText n.toNat).toArray⟩]) ∧ Below w.heap.size w w' := by
  have hA : ∀ o, Below w.heap.size w (w.alloc o) := fun o => al (Below.refl _ _) (Nat.le_refl _)
  have T1 : Hid (∀ o, Tab (w.alloc o)) := fun o => hT.keep (hA o)
  have HA := Lib.hid hA; clear hA
  have hn16 : Hid ((hexText n.toNat).length ≤ 16) := (hex_pad (k := 16) (by decide) (by have := n.toNat_lt; simpa using this)).2
  go_enter Tryd.func106, Tryd.ntmps106
  go_name_bytes_deep 40 PM hPM
  clear hPM
  go_name_bytes_deep 30 DG hDG
  have eDG : DG = Lib.digits36 := by rw [← hDG]; decide +kernel
  subst eDG
  clear hDG
  go_wp2_with fail
  refine Calls.mono (Pow2 _) ?_
  rintro e w' ⟨rfl, rfl⟩
  go_wp2_with fail
  refine Calls.mono (Tz _ (T1.out _)) ?_
  rintro e w' ⟨rfl, rfl⟩
  go_wp2
  go_loopw [1, 13] (fun uv iv wr => ∃ (u i : Nat) (L : List UInt8) (C : Array Value), uv = .int .u64 u ∧ iv = .int .i64 i ∧ u < 18446744073709551616 ∧ Hid (L.length + i = 65 ∧ C.size = 65 ∧ C.toList.drop i = L.map B8 ∧ hexText n.toNat = hexText u ++ L) ∧ Hid (wr.heap[w.heap.size]? = some (.cells C 161 (0, 0))) ∧ Hid (Below w.heap.size w wr)) (fun uv _ _ => (intOf uv).toNat)
  case atStart =>
    have h65 : Tryd.zeroCells161.size = 65 := by kernel_rfl
    exact ⟨n.toNat, 65, [], Tryd.zeroCells161, rfl, rfl, n.toNat_lt, ⟨rfl, h65, List.drop_of_length_le (by simp [h65]), by simp⟩, hnew rfl, HA.out _⟩
  case round =>
    obtain ⟨u, i, L, C, rfl, rfl, hu, hL, hh, hB⟩ := hrel
    obtain ⟨j, rfl⟩ : ∃ j, i = j + 1 := ⟨i - 1, by
      have h1 := hL.out.1; have h2 := congrArg List.length hL.out.2.2.2; have h3 := hexText_pos u; have h4 := hn16.out
      rw [List.length_append] at h2; omega⟩
    have hj65 : (j : Int) < 65 := by have := hL.out.1; omega
    have hjn : j < C.size := by have := hL.out.1; have := hL.out.2.1; omega
    obtain ⟨z, hz⟩ : ∃ z, wr.cell? ⟨w.heap.size, j, none⟩ = some z := ⟨_, by rw [cell_of_row _ _ j _ _ _ hh.out, Array.getElem?_eq_getElem hjn]⟩
    have hzf : wr.frozen? ⟨w.heap.size, j, none⟩ = false := frozen_of_row _ _ j _ _ hh.out
    have fin : Hid (∀ c : UInt8, (C.setIfInBounds j (B8 c)).size = 65 ∧ (C.setIfInBounds j (B8 c)).toList.drop j = (c :: L).map B8) := fun c => by
      refine ⟨by rw [Array.size_setIfInBounds]; exact hL.out.2.1, ?_⟩
      rw [Array.toList_setIfInBounds, List.drop_eq_getElem_cons (by simpa using hjn)]
      rw [List.getElem_set_self, List.drop_set_of_lt (by omega), hL.out.2.2.1]; rfl
    clear hjn
    by_cases h16 : 16 ≤ u
    · have hd := and15 u hu
      have hx : ∀ w, (Instr.index 9 (.string Lib.digits36) (.int .u64 ((u % 16 : Nat) : Int))).run Tryd.prog w = .ok (B8 (hexc (u % 16))) w := fun w => idx_hex _ Tryd.underlying9 _ (u % 16) rfl (Nat.mod_lt _ (by decide)) w
      have h16' : (16 : Int) ≤ (u : Int) := by omega
      obtain ⟨m, hm⟩ : ∃ m, m = u % 16 := ⟨_, rfl⟩
      rw [← hm] at hd hx
      have F : Hid ((hexc m :: L).length + j = 65 ∧ hexText n.toNat = hexText (u / 16) ++ (hexc m :: L)) := ⟨by have := hL.out.1; rw [List.length_cons]; omega, by rw [hL.out.2.2.2, hexText_big h16, hm, List.append_assoc]; rfl⟩
      obtain ⟨C', hC'⟩ : ∃ C', C' = C.setIfInBounds j (B8 (hexc m)) := ⟨_, rfl⟩
      have F2 : Hid (C'.size = 65 ∧ C'.toList.drop j = (hexc m :: L).map B8 ∧ (wr.setCell ⟨w.heap.size, j, none⟩ (B8 (hexc m))).heap[w.heap.size]? = some (.cells C' 161 (0, 0)) ∧ Below w.heap.size w (wr.setCell ⟨w.heap.size, j, none⟩ (B8 (hexc m)))) := ⟨by rw [hC']; exact (fin.out _).1, by rw [hC']; exact (fin.out _).2, by rw [hC']; exact hss hh.out, hB.out.setCell (Nat.le_refl _) _⟩
      clear hL hh hB hm h16 hC' fin
      go_wp2_with (first | simp only [hd] | simp only [hx])
      go_roundw
      case rel => exact ⟨u / 16, j, _, _, by go_num, rfl, by omega, ⟨F.out.1, F2.out.1, F2.out.2.1, F.out.2⟩, F2.out.2.2.1, F2.out.2.2.2⟩
      case measure => simp [intOf]; omega
    · have hx : ∀ w, (Instr.index 9 (.string Lib.digits36) (.int .u64 (u : Int))).run Tryd.prog w = .ok (B8 (hexc u)) w := fun w => idx_hex _ Tryd.underlying9 _ u rfl (by omega) w
      have h16' : ¬ (16 : Int) ≤ (u : Int) := by omega
      have hText : Hid (hexText n.toNat = hexc u :: L) := by show _ = _; rw [hL.out.2.2.2, hexText_small (by omega)]; rfl
      have hlen : j + (L.length + 1) = 65 := by have := hL.out.1; omega
      obtain ⟨C', hC'⟩ : ∃ C', C' = C.setIfInBounds j (B8 (hexc u)) := ⟨_, rfl⟩
      have hal : Tryd.prog.arrayLen 161 = 65 := by simp [Program.arrayLen, Tryd.underlying161]
      have hsl : ∀ W, (Instr.sliceAt 161 (.pointer (some ⟨w.heap.size, 0, none⟩)) (some (.int .i64 (j : Int))) none none).run Tryd.prog W = .ok (.slice (some ⟨w.heap.size, j, none⟩) (hexc u :: L).length (65 - j)) W := fun W => by
        rw [run_sliceAt_array_l W 161 ⟨w.heap.size, 0, none⟩ (by simp [Program.arrayLen, Program.elem, Tryd.underlying161]) .i64 (j : Int) (by omega) (by rw [hal]; omega)]
        go_simp
        omega
      have hcv : (convert 24 9 (.slice (some ⟨w.heap.size, j, none⟩) (hexc u :: L).length (65 - j))).run Tryd.prog (wr.setCell ⟨w.heap.size, j, none⟩ (B8 (hexc u))) = .ok (.string ⟨(hexc u :: L).toArray⟩) (wr.setCell ⟨w.heap.size, j, none⟩ (B8 (hexc u))) :=
        run_convert_bytes_back _ 24 9 5 ⟨w.heap.size, j, none⟩ (65 - j) (hexc u :: L) Tryd.underlying24 Tryd.underlying5 Tryd.underlying9 (fun t ht => by
          rw [Addr.add_lit, cell_of_row _ _ _ _ _ _ (hss hh.out)]
          have h2 := (fin.out (hexc u)).2
          have h3 := congrArg (fun l => l[t]?) h2
          simp only [List.getElem?_drop, List.getElem?_map] at h3
          rw [Array.getElem?_toList] at h3
          rw [h3, List.getElem?_eq_getElem ht]; rfl)
      have F2 : Hid (Below w.heap.size w (wr.setCell ⟨w.heap.size, j, none⟩ (B8 (hexc u)))) := hB.out.setCell (Nat.le_refl _) _
      obtain ⟨m, hm⟩ : ∃ m, (hexc u :: L).length = m := ⟨_, rfl⟩
      rw [hm] at hsl hcv
      obtain ⟨Z, hZ⟩ : ∃ Z, (hexc u :: L).toArray = Z := ⟨_, rfl⟩
      rw [hZ] at hcv
      have HZ : Hid ((hexText n.toNat).toArray = Z) := by show _ = _; rw [hText.out]; exact hZ
      clear hL hh hB h16 hC' fin hal hlen hm hZ hText
      go_wp2_with (first | simp only [hx] | simp only [hsl] | simp only [hcv])
      go_ret2
      exact ⟨by rw [HZ.out]; rfl, F2.out⟩
theorem FormatUint_in (n : UInt64) (w : World) (hT : Tab w) :
    Calls Tryd.prog 83 #[W64 n, .int .i64 16] w fun e w' => e = .returned (.string ⟨(hexText n.toNat).toArray⟩) ∧ Below w.heap.size w w' := by
  obtain ⟨Z, hZ⟩ : ∃ Z, (hexText n.toNat).toArray = Z := ⟨_, rfl⟩
  have HF := formatBits_16 n w hT
  rw [hZ] at HF ⊢
  clear hZ
  have HF := Lib.hid HF
  go_enter Tryd.func83, Tryd.ntmps83
  go_wp2_with fail
  refine Calls.mono HF.out ?_
  rintro e w' ⟨rfl, hb⟩
  have HB := Lib.hid hb; clear hb
  go_wp2
  go_ret
  exact ⟨rfl, HB.out⟩
theorem FormatUint_16 (n : UInt64) (w : World) (hT : Tab w) :
    Calls Tryd.prog 58 #[W64 n, .int .i64 16] w fun e w' => e = .returned (.string ⟨(hexText n.toNat).toArray⟩) ∧ Below w.heap.size w w' := by
  have HF := FormatUint_in n w hT
  obtain ⟨Z, hZ⟩ : ∃ Z, (hexText n.toNat).toArray = Z := ⟨_, rfl⟩
  rw [hZ] at HF ⊢
  clear hZ
  have HF := Lib.hid HF
  go_enter Tryd.func58, Tryd.ntmps58
  go_wp2_with fail
  refine Calls.mono HF.out ?_
  rintro e w' ⟨rfl, hb⟩
  have HB := Lib.hid hb; clear hb
  go_wp2
  go_ret
  exact ⟨rfl, HB.out⟩
end Go.Proofs.YtbfmdfbnhakolaaDoor
namespace Go.By
open Go.RowKit
theorem valW_take {xs : List UInt64} {k : Nat} {x : UInt64} (h : xs[k]? = some x) : valW (xs.take (k + 1)) = valW (xs.take k) + 18446744073709551616 ^ k * x.toNat := by
  unfold valW
  rw [List.map_take, List.map_take]
  exact valD_take (by rw [List.getElem?_map, h]; rfl)
theorem valW_take_none {xs : List UInt64} {k : Nat} (h : xs.length ≤ k) : valW (xs.take (k + 1)) = valW (xs.take k) := by
  rw [List.take_of_length_le (by omega), List.take_of_length_le h]
theorem valW_take_all {xs : List UInt64} {k : Nat} (h : xs.length ≤ k) : valW (xs.take k) = valW xs := by rw [List.take_of_length_le h]
theorem valW_set_take {S : List UInt64} {k : Nat} {s : UInt64} (h : k < S.length) : valW ((S.set k s).take (k + 1)) = valW (S.take k) + 18446744073709551616 ^ k * s.toNat := by
  rw [valW_take (k := k) (x := s) (by rw [List.getElem?_set, if_pos rfl, if_pos h])]
  rw [List.take_set_of_le (Nat.le_refl k)]
theorem valW_zeros (k : Nat) : valW (List.replicate k 0) = 0 := by
  unfold valW
  rw [List.map_replicate]
  exact valD_zeros _ k
/-- words in new memory -/
def RetWs (T : TypeId) (w : World) (n N : Nat) (e : Ending) (w' : World) : Prop :=
  ∃ S : List UInt64, e = .returned (.slice (some ⟨w.heap.size, 0, none⟩) n n) ∧ w'.ownsRow w.heap.size T 1 (.slice (some ⟨w.heap.size, 0, none⟩) n n) n (S.map W64) ∧ valW S = N ∧ Below w.heap.size w w'
theorem lies_of_owns {w : World} {base T n c : Nat} {q : Option Addr} {ys : List Value} (h : w.ownsRow base T 1 (.slice q n c) n ys) : Lies T w q := by
  intro a ha
  rcases h.2 with ⟨h2, _⟩ | ⟨g, cap, cur, hv, hb, hg, _⟩
  · rw [ha] at h2; cases h2
  · obtain ⟨rfl, rfl⟩ : q = some ⟨g, 0, none⟩ ∧ c = cap := by simpa using hv
    obtain rfl := Option.some.inj ha
    exact ⟨_, _, hg⟩
end Go.By
namespace Go.Proofs.YtbfmdfbnhakolaaDoor
open Go.RowKit Go.By
end Go.Proofs.YtbfmdfbnhakolaaDoor
namespace Go.By
open Go.RowKit
theorem valW_set {S : List UInt64} {k : Nat} {s p : UInt64} (h : S[k]? = some p) : valW (S.set k s) + 18446744073709551616 ^ k * p.toNat = valW S + 18446744073709551616 ^ k * s.toNat := by
  unfold valW
  rw [List.map_set]
  exact valD_set _ _ _ _ (by rw [List.getElem?_map, h]; rfl)
theorem mul_parts {a y p c hi lo l1 c1 l2 c2 : Nat} (h0 : hi * 18446744073709551616 + lo = a * y) (h1 : l1 = (lo + p + 0) % 18446744073709551616) (g1 : c1 = (lo + p + 0) / 18446744073709551616) (h2 : l2 = (l1 + c + 0) % 18446744073709551616) (g2 : c2 = (l1 + c + 0) / 18446744073709551616) :
    l2 = (a * y + p + c) % 18446744073709551616 ∧ hi + c1 + c2 = (a * y + p + c) / 18446744073709551616 := by
  rw [← h0]; omega
end Go.By
namespace Go.Proofs.YtbfmdfbnhakolaaDoor
open Go.RowKit Go.By
theorem mul64_ex (x y : UInt64) : ∃ hi lo : UInt64, (∀ w, Calls Tryd.prog 65 #[W64 x, W64 y] w fun e w' => e = .returned (.tuple #[W64 hi, W64 lo]) ∧ w' = w) ∧ Hid (hi.toNat * 18446744073709551616 + lo.toNat = x.toNat * y.toNat) := by
  have hx := x.toNat_lt; have hy := y.toNat_lt
  have hxy : x.toNat * y.toNat < 18446744073709551616 * 18446744073709551616 := Nat.mul_lt_mul'' hx hy
  obtain ⟨z, hz⟩ : ∃ z, z = x.toNat * y.toNat := ⟨_, rfl⟩
  rw [← hz] at hxy ⊢
  have e1 : (UInt64.ofNat (z / 18446744073709551616)).toNat = z / 18446744073709551616 := by simp; omega
  have e2 : (UInt64.ofNat (z % 18446744073709551616)).toNat = z % 18446744073709551616 := by simp
  refine ⟨UInt64.ofNat (z / 18446744073709551616), UInt64.ofNat (z % 18446744073709551616), fun w => ?_, ?_⟩
  · refine (Tryd.bits_Mul64 x.toNat y.toNat hx hy w).mono ?_
    rintro e w' ⟨rfl, rfl⟩
    rw [← hz]
    exact ⟨by rw [← W64_eq (congrArg Int.ofNat e1.symm), ← W64_eq (congrArg Int.ofNat e2.symm)]; rfl, rfl⟩
  · show _ = z
    rw [e1, e2]; omega
end Go.Proofs.YtbfmdfbnhakolaaDoor
namespace Go.By
open Go.RowKit
/-- a slice of numbers -/
structure Nsl (T : TypeId) (w : World) (p : Option Addr) (n c : Nat) (Ns : List Nat) : Prop where
  len : Ns.length = n
  max : n ≤ 9223372036854775807
  elt : ∀ i N, Ns[i]? = some N → ∃ b o q m d, p = some ⟨b, o, none⟩ ∧ w.cell? ⟨b, o + i, none⟩ = some (.slice q m d) ∧ Ws T w q m d N
theorem Nsl.keep {T : TypeId} {w w' : World} {p : Option Addr} {n c : Nat} {Ns : List Nat} (h : Nsl T w p n c Ns) (hb : Below w.heap.size w w') : Nsl T w' p n c Ns :=
  ⟨h.len, h.max, fun i N hi => by
    obtain ⟨b, o, q, m, d, hp, hc, hw⟩ := h.elt i N hi
    exact ⟨b, o, q, m, d, hp, (hb.cell (p := ⟨b, o + i, none⟩) (lt_of_cell hc)).trans hc, hw.keep hb⟩⟩
theorem Nsl.two {T T' : TypeId} {w : World} {g : Nat} {fr : Nat × Nat} {q1 q2 : Option Addr} {n1 c1 n2 c2 M N : Nat} (hg : w.heap[g]? = some (.cells #[.slice q1 n1 c1, .slice q2 n2 c2] T' fr)) (h1 : Ws T w q1 n1 c1 M) (h2 : Ws T w q2 n2 c2 N) : Nsl T w (some ⟨g, 0, none⟩) 2 2 [M, N] :=
  ⟨rfl, by omega, fun i N' hi => by
    match i, hi with
    | 0, hi => simp at hi; subst hi; exact ⟨g, 0, q1, n1, c1, rfl, cell_of_row _ _ 0 _ _ _ hg, h1⟩
    | 1, hi => simp at hi; subst hi; exact ⟨g, 0, q2, n2, c2, rfl, cell_of_row _ _ 1 _ _ _ hg, h2⟩
    | j + 2, hi => simp at hi⟩
theorem Nsl.three {T T' : TypeId} {w : World} {g : Nat} {fr : Nat × Nat} {q1 q2 q3 : Option Addr} {n1 c1 n2 c2 n3 c3 M N K : Nat} (hg : w.heap[g]? = some (.cells #[.slice q1 n1 c1, .slice q2 n2 c2, .slice q3 n3 c3] T' fr)) (h1 : Ws T w q1 n1 c1 M) (h2 : Ws T w q2 n2 c2 N) (h3 : Ws T w q3 n3 c3 K) : Nsl T w (some ⟨g, 0, none⟩) 3 3 [M, N, K] :=
  ⟨rfl, by omega, fun i N' hi => by
    match i, hi with
    | 0, hi => simp at hi; subst hi; exact ⟨g, 0, q1, n1, c1, rfl, cell_of_row _ _ 0 _ _ _ hg, h1⟩
    | 1, hi => simp at hi; subst hi; exact ⟨g, 0, q2, n2, c2, rfl, cell_of_row _ _ 1 _ _ _ hg, h2⟩
    | 2, hi => simp at hi; subst hi; exact ⟨g, 0, q3, n3, c3, rfl, cell_of_row _ _ 2 _ _ _ hg, h3⟩
    | j + 3, hi => simp at hi⟩
theorem sum_take_succ {Ns : List Nat} {k N : Nat} (h : Ns[k]? = some N) : (Ns.take (k + 1)).sum = (Ns.take k).sum + N := by
  rw [List.take_add_one, h]; simp
theorem sum_take_le (Ns : List Nat) (k : Nat) : (Ns.take k).sum ≤ Ns.sum := by
  conv => rhs; rw [← List.take_append_drop k Ns]
  rw [List.sum_append]; omega
theorem One.later {w : World} {g : Nat} {v : Value} {T : TypeId} (h : w.heap[g]? = some (.cells #[v] T (0, 0))) (g' i : Nat) (u : Value) (hne : g ≠ g' := by simp) : (w.setCell ⟨g', i, none⟩ u).cell? ⟨g, 0, none⟩ = some v ∧ (w.setCell ⟨g', i, none⟩ u).frozen? ⟨g, 0, none⟩ = false :=
  ⟨cell_of_row _ _ 0 _ _ _ (hsc h hne), frozen_of_row _ _ _ _ _ (hsc h hne)⟩
/-- two calls: a sum (or product) of words, and what is made of it -/
theorem RetWs.sl {T : TypeId} {w w' : World} {n N : Nat} {e : Ending} (h : RetWs T w n N e w') : ∃ S : List UInt64, e = .returned (.slice (some ⟨w.heap.size, 0, none⟩) n n) ∧ Sl W64 w' (some ⟨w.heap.size, 0, none⟩) n n S ∧ Lies T w' (some ⟨w.heap.size, 0, none⟩) ∧ valW S = N ∧ Below w.heap.size w w' := by
  obtain ⟨S, he, ho, hv, hb⟩ := h
  exact ⟨S, he, Sl.of_owns ho, lies_of_owns ho, hv, hb⟩
end Go.By
namespace Go.Proofs.YtbfmdfbnhakolaaDoor
open Go.RowKit Go.By
/-- words, of which a number is made next -/
def RetThen (w : World) (N : Nat) (e : Ending) (w1 : World) : Prop :=
  ∃ g n, e = .returned (.slice (some ⟨g, 0, none⟩) n n) ∧ Below w.heap.size w w1 ∧ Hid (Calls Tryd.prog 33 #[.slice (some ⟨g, 0, none⟩) n n] w1 (RetMn 34 w1 N))
end Go.Proofs.YtbfmdfbnhakolaaDoor
namespace Go.By
open Go.RowKit
def mulL : List Nat → Nat
  | [] => 1
  | x :: xs => x * mulL xs
theorem mulL_snoc : ∀ (xs : List Nat) (x : Nat), mulL (xs ++ [x]) = mulL xs * x
  | [], x => by simp [mulL]
  | y :: ys, x => by show y * mulL (ys ++ [x]) = y * mulL ys * x; rw [mulL_snoc ys x, Nat.mul_assoc]
theorem mulL_take {Ns : List Nat} {k N : Nat} (h : Ns[k]? = some N) : mulL (Ns.take (k + 1)) = mulL (Ns.take k) * N := by
  rw [List.take_add_one, h]; exact mulL_snoc _ _
/-- a product, or that one on the way is too great -/
def RetP (T : TypeId) (w : World) (Ns : List Nat) (e : Ending) (w' : World) : Prop := ((∀ j, mulL (Ns.take j) < capN) ∧ RetN T w (mulL Ns) e w') ∨ ((∃ j, capN ≤ mulL (Ns.take j)) ∧ Ret0 w 16 e w')
end Go.By
namespace Go.Proofs.YtbfmdfbnhakolaaDoor
open Go.RowKit Go.By
theorem Of_one (W : World) : Calls Tryd.prog 10 #[.int .u64 1] W (RetN1 34 W 1) := OfN_any 1 W
end Go.Proofs.YtbfmdfbnhakolaaDoor
namespace Go.By
open Go.RowKit
/-- bytes as a text -/
def strB (l : List UInt8) : ByteArray := ⟨l.toArray⟩
theorem strB_size (l : List UInt8) : (strB l).size = l.length := by simp [strB, ByteArray.size]
theorem strB_data (l : List UInt8) : (strB l).data.toList = l := by simp [strB]
theorem strB_cells (l : List UInt8) : Lib.strCells (strB l) = Lib.byteCells l := by rw [Lib.strCells_eq, strB_data]
theorem strB_inj {a b : List UInt8} (h : strB a = strB b) : a = b := by rw [← strB_data a, h, strB_data]
theorem strB_of (s : ByteArray) : s = strB s.data.toList := by cases s; simp [strB]
theorem BuilderAt.keep {T e : TypeId} {B b : Nat} {p : Value} {bs : List Value} {w w' : World} (h : Lib.BuilderAt T e B b p bs w) (hb : Below w.heap.size w w') : Lib.BuilderAt T e B b p bs w' := by
  obtain ⟨h1, v, h2, h3, h4⟩ := h
  obtain ⟨q, c, rfl⟩ := owns_shape h3
  exact ⟨h1, _, (hb.block _ (lt_of_block h2)).trans h2, owns_keep h3 hb, h4⟩
theorem repeat48 : ∀ c, Lib.repeatL [48] c = List.replicate c 48
  | 0 => rfl
  | c + 1 => by rw [List.replicate_succ, ← repeat48 c]; rfl
theorem bytes_append (a b : List UInt8) : Lib.byteCells a ++ Lib.byteCells b = Lib.byteCells (a ++ b) := by simp [Lib.byteCells]
theorem tLen {n k : Nat} (h : n < 16 ^ k) : (hexText n).length ≤ k + 1 := by
  rcases Nat.eq_zero_or_pos k with h0 | h0
  · subst h0
    have : n = 0 := by simpa using h
    subst this; simp [hexText]
  · have := hexText_len h0 h; omega
theorem wordsText {ws : List UInt64} : (hexText (valW ws)).length ≤ 16 * ws.length + 1 := by
  refine tLen ?_
  have := valW_lt ws
  rw [show (18446744073709551616 : Nat) = 16 ^ 16 from rfl, ← Nat.pow_mul] at this
  exact this
end Go.By
namespace Go.Proofs.YtbfmdfbnhakolaaDoor
open Go.RowKit Go.By
theorem FormatUint_s (n : UInt64) (w : World) (hT : Tab w) : Calls Tryd.prog 58 #[W64 n, .int .i64 16] w fun e w' => e = .returned (.string (strB (hexText n.toNat))) ∧ Below w.heap.size w w' := FormatUint_16 n w hT
theorem Write_s (B b : Nat) (t s : List UInt8) (w : World) (h : Lib.IsBuilder 95 5 B b (Lib.byteCells t) w) (hlen : t.length + s.length ≤ 100000000) (hBw : B ≤ w.heap.size) :
    Calls Tryd.prog 57 #[.pointer (some ⟨b, 0, none⟩), .string (strB s)] w fun e w' => e = .returned (.tuple #[.int .i64 s.length, .nilIface]) ∧ Lib.BuilderAt 95 5 B b (.pointer (some ⟨b, 0, none⟩)) (Lib.byteCells (t ++ s)) w' ∧ Below B w w' := by
  have := Any.Builder_WriteString (ρ := Tryd.lays105_ren) { Tryd.lays105 with } Tryd.Builder_Extra_105 B b (Lib.byteCells t) (strB s) w h (by rw [Lib.byteCells_length, strB_size]; omega) hBw
  refine Calls.mono this ?_
  rintro e w' ⟨rfl, h1, h2⟩
  rw [strB_cells, bytes_append] at h1
  rw [strB_size]
  exact ⟨rfl, h1, h2⟩
theorem String_s (B b : Nat) (t : List UInt8) (w : World) (h : Lib.IsBuilder 95 5 B b (Lib.byteCells t) w) (hBw : B ≤ w.heap.size) :
    Calls Tryd.prog 60 #[.pointer (some ⟨b, 0, none⟩)] w fun e w' => e = .returned (.string (strB t)) ∧ Below B w w' := Tryd.Builder_String_any B b t w h hBw
theorem Repeat_s (c : Nat) (w : World) (hc : c ≤ 1000) : Calls Tryd.prog 59 #[.string ⟨#[48]⟩, .int .i64 c] w fun e w' => e = .returned (.string (strB (List.replicate c 48))) ∧ Below w.heap.size w w' := by
  have := Tryd.strings_Repeat ⟨#[48]⟩ c w (by omega) (by show 1 * c ≤ _; omega)
  refine this.mono ?_
  rintro e w' ⟨rfl, h⟩
  exact ⟨by rw [show (⟨#[48]⟩ : ByteArray).data.toList = [48] from rfl, repeat48]; rfl, h⟩
set_option maxRecDepth 100000 in
set_option maxHeartbeats 2000000 in
theorem Text_nat (p : Option Addr) (n c N : Nat) (w : World) (h : Ws 34 w p n c N) (hT : Tab w) :
    Calls Tryd.prog 30 #[.agg #[.slice p n c]] w fun e w' => e = .returned (.string (strB (hexText N))) ∧ Below w.heap.size w w' := by
  obtain ⟨ws, hs, hnorm, rfl⟩ := h.ex
  have hle := h.le
  have hnc := hs.le
  have HB : Hid (∀ o, Below w.heap.size w (w.alloc o)) := fun o => al (Below.refl _ _) (Nat.le_refl _)
  rcases Nat.eq_zero_or_pos n with h0 | h0
  · subst h0
    have : ws = [] := List.eq_nil_of_length_eq_zero hs.len
    subst this
    clear h hs hnorm
    go_enter Tryd.func30, Tryd.ntmps30
    go_wp2
    go_ret
    exact ⟨by rw [show hexText (valW []) = [48] from rfl]; rfl, HB.out _⟩
  · obtain ⟨k, rfl⟩ : ∃ k, n = k + 1 := ⟨n - 1, by omega⟩
    obtain ⟨b, o, x, rfl, hc, hx⟩ := hs.at k (by omega)
    have hc2 : ∀ o1 o2, ((w.alloc o1).alloc o2).cell? ⟨b, o + k, none⟩ = some (W64 x) := fun o1 o2 => ((al (al (Below.refl _ _) (Nat.le_refl _)) (by simp) : Below w.heap.size w ((w.alloc o1).alloc o2)).cell (p := ⟨b, o + k, none⟩) (lt_of_cell hc)).trans hc
    obtain ⟨W, hW⟩ : ∃ W, W = (w.alloc (.cells #[.slice (some ⟨b, o, none⟩) (k + 1) c] 29)).alloc (.cells #[.pointer none, .slice none 0 0] 95) := ⟨_, rfl⟩
    have hbW : Below w.heap.size w W := by rw [hW]; exact al (al (Below.refl _ _) (Nat.le_refl _)) (by simp)
    have hszW : W.heap.size = w.heap.size + 2 := by rw [hW]; simp
    have t0 : W.heap[w.heap.size]? = some (.cells #[.slice (some ⟨b, o, none⟩) (k + 1) c] 29 (0, 0)) := by rw [hW]; exact hal (hnew rfl)
    have t1 : W.heap[w.heap.size + 1]? = some (.cells #[.pointer none, .slice none 0 0] 95 (0, 0)) := by rw [hW]; exact hnew (by simp)
    have hcW := (hbW.cell (p := ⟨b, o + k, none⟩) (lt_of_cell hc)).trans hc
    obtain ⟨_, a1, a2, a3, a4⟩ := One.of t0
    have HBd : Hid (Lib.IsBuilder 95 5 (w.heap.size + 1) (w.heap.size + 1) (Lib.byteCells []) W) := Or.inl ⟨Nat.le_refl _, _, t1, World.ownsRow_nil _ _ _ _, by simp [Value.ownBlock]⟩
    have HBW := Lib.hid hbW
    have HT : Hid (Tab W) := hT.keep hbW
    have HT0 := Lib.hid hT
    have HS := Lib.hid hs; have HN := Lib.hid hnorm
    have T0 := Lib.hid t0
    have HX := Lib.hid hx
    have hx16 : (hexText x.toNat).length ≤ 16 := (hex_pad (k := 16) (by decide) (by have := x.toNat_lt; simpa using this)).2
    have HX16 := Lib.hid hx16
    clear h hs hnorm hc hbW t0 t1 hT hx hx16
    go_enter Tryd.func30, Tryd.ntmps30
    go_wp2_with fail
    rw [← hW]
    clear hW
    refine Calls.mono (FormatUint_s x W HT.out) ?_
    rintro e w1 ⟨rfl, hb1⟩
    have hsz1 := hb1.size
    have HB1 := Lib.hid hb1
    clear hb1
    go_wp2_with fail
    refine Calls.mono (Write_s (w.heap.size + 1) (w.heap.size + 1) [] (hexText x.toNat) w1 (HBd.out.imp (fun h => BuilderAt.keep h HB1.out) (fun h => BuilderAt.keep h HB1.out)) (by have := HX16.out; simp; omega) (by omega)) ?_
    rintro e w2 ⟨rfl, hbd2, hb2⟩
    have HW2 : Hid (Lib.BuilderAt 95 5 (w.heap.size + 1) (w.heap.size + 1) (.pointer (some ⟨w.heap.size + 1, 0, none⟩)) (Lib.byteCells (hexText (valW (ws.drop k)))) w2) := by
      have e : valW (ws.drop k) = x.toNat := by
        rw [drop_cons HX.out, List.drop_of_length_le (by have := HS.out.len; omega), valW_one]
      show Lib.BuilderAt _ _ _ _ _ _ _
      rw [e]; exact hbd2
    have k0 : w2.heap[w.heap.size]? = some (.cells #[.slice (some ⟨b, o, none⟩) (k + 1) c] 29 (0, 0)) := (hb2.block _ (by omega)).trans ((HB1.out.block _ (blk_lt T0.out)).trans T0.out)
    have HB2 : Hid (Below w.heap.size w w2) := (HBW.out.trans (HB1.out.mono (by omega))).trans (hb2.mono (by omega))
    have hsz2 := hb2.size
    have K0 := Lib.hid k0
    clear hbd2 hb2 k0
    go_wp2
    go_loopw [22] (fun i wr => ∃ j : Nat, j ≤ k ∧ i = .int .i64 j ∧ Hid (Lib.BuilderAt 95 5 (w.heap.size + 1) (w.heap.size + 1) (.pointer (some ⟨w.heap.size + 1, 0, none⟩)) (Lib.byteCells (hexText (valW (ws.drop (k - j))))) wr) ∧ Hid (wr.heap[w.heap.size]? = some (.cells #[.slice (some ⟨b, o, none⟩) (k + 1) c] 29 (0, 0))) ∧ w.heap.size + 2 ≤ wr.heap.size ∧ Hid (Below w.heap.size w wr)) (fun i _ => k - (intOf i).toNat)
    case atStart => exact ⟨0, Nat.zero_le _, rfl, HW2.out, K0.out, by omega, HB2.out⟩
    case round =>
      clear HW2 K0 HB2
      obtain ⟨i, hik, rfl, hbd, h0, hszr, hB⟩ := hrel
      obtain ⟨_, a1, a2, a3, a4⟩ := One.of h0.out
      by_cases hlt : i < k
      · obtain ⟨j, hj⟩ : ∃ j, k = i + j + 1 := ⟨k - i - 1, by omega⟩
        obtain ⟨b', o', y, hp, hc, hy⟩ := HS.out.at j (by omega)
        cases hp
        have hcy := (hB.out.cell (p := ⟨b, o + j, none⟩) (lt_of_cell hc)).trans hc
        have hidx : (k : Int) + 1 - 2 - (i : Int) = (j : Int) := by omega
        have hik' : (i : Int) < (k : Int) := by omega
        have HJ := Lib.hid hj
        have hy16 : (hexText y.toNat).length ≤ 16 := (hex_pad (k := 16) (by decide) (by have := y.toNat_lt; simpa using this)).2
        obtain ⟨m, hm⟩ : ∃ m, (hexText y.toNat).length = m := ⟨_, rfl⟩
        have hsm : (strB (hexText y.toNat)).size = m := by rw [strB_size, hm]
        rw [hm] at hy16
        obtain ⟨r, hr⟩ : ∃ r, 16 - m = r := ⟨_, rfl⟩
        have hr16 : (16 : Int) - (m : Int) = (r : Int) := by omega
        have HR : Hid (r + m = 16) := by show _ = _; omega
        have HM := Lib.hid hm
        have HY := Lib.hid hy
        have hstep : Hid (hexText (valW (ws.drop j)) = hexText (valW (ws.drop (k - i))) ++ List.replicate r 48 ++ hexText y.toNat ∧ (hexText (valW (ws.drop (k - i)))).length ≤ 16 * 513) := by
          have e1 : k - i = j + 1 := by omega
          rw [e1]
          refine ⟨?_, ?_⟩
          · rw [valW_drop hy.out]
            have := (text_step (w := y.toNat) (n := valW (ws.drop (j + 1))) y.toNat_lt (HN.out.drop_pos (by have := HS.out.len; omega))).1
            rw [this, hm, hr, List.append_assoc]
          · have := wordsText (ws := ws.drop (j + 1))
            have h2 := HS.out.len
            rw [List.length_drop] at this
            omega
        have HTr : Hid (Tab wr) := HT0.out.keep hB.out
        obtain ⟨Z, hZ⟩ : ∃ Z, Z = hexText (valW (ws.drop (k - i))) := ⟨_, rfl⟩
        rw [← hZ] at hbd hstep
        obtain ⟨Y, hY⟩ : ∃ Y, Y = hexText y.toNat := ⟨_, rfl⟩
        rw [← hY] at hsm hstep HM
        have HF : Hid (Calls Tryd.prog 58 #[W64 y, .int .i64 16] wr fun e w' => e = .returned (.string (strB Y)) ∧ Below wr.heap.size wr w') := by rw [hY]; exact FormatUint_s y wr HTr.out
        have H0 := Lib.hid h0.out
        clear hc hlt hm hj hy hY hZ h0 hr
        go_wp2_with fail
        refine Calls.mono HF.out ?_
        rintro e w3 ⟨rfl, hb3⟩
        have B3 := Lib.hid hb3
        have hsz3 := hb3.size
        clear hb3
        go_wp2_with fail
        refine Calls.mono (Repeat_s r w3 (by have := HR.out; omega)) ?_
        rintro e w4 ⟨rfl, hb4⟩
        have B4 : Hid (Below wr.heap.size wr w4) := B3.out.trans (hb4.mono hsz3)
        have hsz4 := hb4.size
        clear hb4
        go_wp2_with fail
        refine Calls.mono (Write_s (w.heap.size + 1) (w.heap.size + 1) Z (List.replicate r 48) w4 (Or.inr (BuilderAt.keep hbd.out B4.out)) (by have := hstep.out.2; have := HR.out; rw [List.length_replicate]; omega) (by omega)) ?_
        rintro e w5 ⟨rfl, hbd5, hb5⟩
        have H5 := Lib.hid hbd5
        have B5 := Lib.hid hb5
        have hsz5 := hb5.size
        clear hbd5 hb5
        go_wp2_with fail
        refine Calls.mono (Write_s (w.heap.size + 1) (w.heap.size + 1) (Z ++ List.replicate r 48) Y w5 (Or.inr H5.out) (by have := hstep.out.2; have := HM.out; have := HR.out; rw [List.length_append, List.length_replicate]; omega) (by omega)) ?_
        rintro e w6 ⟨rfl, hbd6, hb6⟩
        have hsz6 := hb6.size
        have F : Hid (Lib.BuilderAt 95 5 (w.heap.size + 1) (w.heap.size + 1) (.pointer (some ⟨w.heap.size + 1, 0, none⟩)) (Lib.byteCells (hexText (valW (ws.drop (k - (i + 1)))))) w6 ∧ w6.heap[w.heap.size]? = some (.cells #[.slice (some ⟨b, o, none⟩) (k + 1) c] 29 (0, 0)) ∧ Below w.heap.size w w6) := by
          refine ⟨?_, ?_, ?_⟩
          · rw [show k - (i + 1) = j by have := HJ.out; omega, hstep.out.1]; exact hbd6
          · exact (hb6.block _ (by omega)).trans ((B5.out.block _ (by omega)).trans ((B4.out.block _ (by omega)).trans H0.out))
          · exact (((hB.out.trans (B4.out.mono (by omega))).trans (B5.out.mono (by omega))).trans (hb6.mono (by omega)))
        clear hbd6 hb6
        go_wp2
        go_roundw
        case rel => exact ⟨i + 1, by have := HJ.out; omega, by go_num, F.out.1, F.out.2.1, by omega, F.out.2.2⟩
        case measure => simp [intOf]; have := HJ.out; omega
      · obtain rfl : i = k := by omega
        have F : Hid (Lib.BuilderAt 95 5 (w.heap.size + 1) (w.heap.size + 1) (.pointer (some ⟨w.heap.size + 1, 0, none⟩)) (Lib.byteCells (hexText (valW ws))) wr) := by
          have := hbd.out
          rw [Nat.sub_self, List.drop_zero] at this
          exact this
        clear hlt hbd
        go_wp2_with fail
        refine Calls.mono (String_s (w.heap.size + 1) (w.heap.size + 1) (hexText (valW ws)) wr (Or.inr F.out) (by omega)) ?_
        rintro e w6 ⟨rfl, hb6⟩
        have F2 : Hid (Below w.heap.size w w6) := hB.out.trans (hb6.mono (by omega))
        clear hb6
        go_wp2
        go_ret
        exact ⟨rfl, F2.out⟩
end Go.Proofs.YtbfmdfbnhakolaaDoor
namespace Go.By
open Go.RowKit
theorem low_or : ∀ x : Fin 256, 97 ≤ x.val → x.val ≤ 102 → bits .or .u8 (x.val : Int) 32 = (x.val : Int) := by decide +kernel
theorem valT_take {l : List UInt8} {k : Nat} {c : UInt8} (h : l[k]? = some c) : valT (l.take (k + 1)) = hexd c + 16 * valT (l.take k) := by
  rw [List.take_add_one, h]; exact valT_snoc _ _
theorem isHex_iff {c : UInt8} : isHex c = true ↔ (48 ≤ c.toNat ∧ c.toNat ≤ 57) ∨ (97 ≤ c.toNat ∧ c.toNat ≤ 102) := by
  unfold isHex; rw [Bool.or_eq_true, decide_eq_true_eq, decide_eq_true_eq]
end Go.By
namespace Go.Proofs.YtbfmdfbnhakolaaDoor
open Go.RowKit Go.By
end Go.Proofs.YtbfmdfbnhakolaaDoor
namespace Go.By
open Go.RowKit
theorem idx_strB {P : Program} (t : TypeId) (ht : P.underlying t = some .string) {l : List UInt8} {k : Nat} {c : UInt8} (h : l[k]? = some c) (K : IntKind) (z : Int) (hz : z = (k : Int)) (w : World) :
    (Instr.index t (.string (strB l)) (.int K z)).run P w = .ok (B8 c) w := by
  subst hz
  obtain ⟨hk, e⟩ := List.getElem?_eq_some_iff.1 h
  rw [run_index_string w t (strB l) _ _ ht, dif_pos ⟨by omega, by rw [strB_size]; omega⟩]
  have e1 : ((k : Int)).toNat = k := by omega
  simp only [e1]
  have hsz : k < (strB l).size := by rw [strB_size]; exact hk
  have h2 : (strB l).data[k]? = some ((strB l)[k]'hsz) := Array.getElem?_eq_getElem hsz
  rw [← Array.getElem?_toList, strB_data, h] at h2
  rw [← Option.some.inj h2]
theorem extract_strB (l : List UInt8) (i j : Nat) : (strB l).extract i j = strB ((l.take j).drop i) := by
  rw [strB_of ((strB l).extract _ _)]
  congr 1
  rw [Lib.extract_data, strB_data]
  simp [List.extract_eq_take_drop, List.drop_take]
theorem empty_strB {l : List UInt8} : (strB l).toList.isEmpty = l.isEmpty := by
  rw [← decide_eq_emptyBytes]
  cases l with
  | nil => exact decide_eq_true rfl
  | cons c r => exact decide_eq_false (fun h => by have := congrArg (fun s : ByteArray => s.data.toList) h; rw [show (strB (c :: r)).data.toList = c :: r from strB_data _] at this; cases this)
/-- is a text a number's? -/
def goodT (l : List UInt8) : Bool := match l with
  | [] => false
  | c :: r => (decide (c ≠ 48) || r.isEmpty) && (c :: r).all isHex
theorem one_cell {w : World} {v : Value} {T g : Nat} (hg : g = w.heap.size) : ∀ (j : Nat) (u : Value), [v][j]? = some u → (w.alloc (.cells #[v] T)).cell? ((⟨g, 0, none⟩ : Addr).add j) = some u := by
  intro j u hj
  rw [Addr.add_lit, Nat.zero_add, cell_of_row _ _ j _ _ _ (hnew hg)]
  match j with
  | 0 => simpa using hj
  | j + 1 => simp at hj
end Go.By
namespace Go.Proofs.YtbfmdfbnhakolaaDoor
open Go.RowKit Go.By
/-- what Parse says of a text whose beginning is in order -/
def RetT (w : World) (l : List UInt8) (e : Ending) (w' : World) : Prop := (l.all isHex = true ∧ RetN 34 w (valT l) e w') ∨ (l.all isHex = false ∧ Ret0 w 14 e w')
/-- what Parse says of any text that isn't too long -/
def RetParse (w : World) (l : List UInt8) (e : Ending) (w' : World) : Prop := (goodT l = true ∧ RetN 34 w (valT l) e w') ∨ (goodT l = false ∧ Ret0 w 14 e w')
theorem goodT_hexText (n : Nat) : goodT (hexText n) = true := by
  cases h : hexText n with
  | nil => exact absurd h (hexText_ne n)
  | cons c r =>
    show ((decide (c ≠ 48) || r.isEmpty) && (c :: r).all isHex) = true
    have h1 : (c :: r).all isHex = true := by rw [← h, List.all_eq_true]; exact hexText_hex n
    rw [h1, Bool.and_true]
    rcases hexText_head h with hc | hr
    · rw [decide_eq_true hc]; rfl
    · rw [hr]; simp
end Go.Proofs.YtbfmdfbnhakolaaDoor
namespace Go.By
open Go.RowKit
theorem strB_append (a b : List UInt8) : strB a ++ strB b = strB (a ++ b) := by
  rw [strB_of (strB a ++ strB b)]
  congr 1
/-- bytes that read as a list, where they were, or a part of them -/
def RetTr (w : World) (xs : List UInt8) (e : Ending) (w' : World) : Prop := ∃ q n c, e = .returned (.slice q n c) ∧ Sl B8 w q n c xs ∧ w = w'
theorem nibs_snoc : ∀ (ys : List Nat) (y : Nat), nibs (ys ++ [y]) = nibs ys ++ [y % 16, y / 16]
  | [], y => rfl
  | z :: zs, y => by show z % 16 :: z / 16 :: nibs (zs ++ [y]) = _; rw [nibs_snoc zs y]; rfl
/-- the letters of bytes, the highest first -/
def nibT (xs : List UInt8) : List UInt8 := (nibs (xs.map UInt8.toNat)).reverse.map hexc
theorem nibT_take {xs : List UInt8} {k : Nat} {x : UInt8} (h : xs[k]? = some x) : nibT (xs.take (k + 1)) = hexc (x.toNat / 16) :: hexc (x.toNat % 16) :: nibT (xs.take k) := by
  unfold nibT
  rw [List.take_add_one, h, List.map_append, show List.map UInt8.toNat (some x).toList = [x.toNat] from rfl, nibs_snoc, List.reverse_append, List.map_append]; rfl
theorem nibs_len : ∀ (ys : List Nat), (nibs ys).length = 2 * ys.length
  | [] => rfl
  | z :: zs => by show (nibs zs).length + 1 + 1 = 2 * (zs.length + 1); rw [nibs_len zs]; omega
theorem nibT_len (xs : List UInt8) : (nibT xs).length = 2 * xs.length := by unfold nibT; rw [List.length_map, List.length_reverse, nibs_len, List.length_map]
theorem nibT_text (xs : List UInt8) : (if strip0 (nibT xs) = [] then [48] else strip0 (nibT xs)) = hexText (valB xs) := by
  have := strip_hex (xs := nibs (xs.map UInt8.toNat)) (nibs_lt (bytes_lt xs))
  rw [valD_nibs] at this
  exact this
theorem hexc_lo {d : Nat} (h : d < 10) : (hexc d).toNat = 48 + d := by
  have : ∀ d : Fin 10, (hexc d.val).toNat = 48 + d.val := by decide
  exact this ⟨d, h⟩
theorem hexc_hi {d : Nat} (h : 10 ≤ d) (h2 : d < 16) : (hexc d).toNat = 87 + d := by
  have : ∀ d : Fin 16, 10 ≤ d.val → (hexc d.val).toNat = 87 + d.val := by decide
  exact this ⟨d, h2⟩ h
theorem strip0_step {c : UInt8} {r : List UInt8} (h : r ≠ []) (hc : c = 48) : strip0 (c :: r) = strip0 r := by
  cases r with
  | nil => exact absurd rfl h
  | cons y l => show (if c = 48 then strip0 (y :: l) else _) = _; rw [if_pos hc]
theorem strip0_stop {l : List UInt8} (h : l = [] ∨ (∃ c, l = [c]) ∨ ∃ c r, l = c :: r ∧ c ≠ 48) : strip0 l = l := by
  rcases h with rfl | ⟨c, rfl⟩ | ⟨c, r, rfl, h⟩
  · rfl
  · rfl
  · exact strip0_head h
end Go.By
namespace Go.Proofs.YtbfmdfbnhakolaaDoor
open Go.RowKit Go.By
set_option maxRecDepth 100000 in
set_option maxHeartbeats 1000000 in
theorem Trim_ref (q : Option Addr) (n c : Nat) (xs : List UInt8) (w : World) (h : Sl B8 w q n c xs) :
    Calls Tryd.prog 49 #[.slice q n c] w (RetTr w (bytesN (valB xs))) := by
  have hn := h.bound
  have hnc := h.le
  have H := Lib.hid h; clear h
  go_enter Tryd.func49, Tryd.ntmps49
  go_wp2
  go_loop [0] (fun v => ∃ k : Nat, k ≤ n ∧ v = .slice q k c ∧ Hid (valB (xs.take k) = valB xs)) (fun v => match v with | .slice _ k _ => k | _ => 0)
  case atStart => exact ⟨n, Nat.le_refl _, rfl, by show valB (xs.take n) = valB xs; rw [← H.out.len, List.take_length]⟩
  case round =>
    obtain ⟨k, hk, rfl, hr⟩ := hrel
    by_cases hk0 : k = 0
    · subst hk0
      have HE : Hid (Sl B8 w q 0 c (bytesN (valB xs))) := by
        have h1 := H.out.front (k := 0) (Nat.zero_le _)
        have h2 := hr.out
        rw [List.take_zero] at h1 h2
        rw [← h2, show valB [] = 0 from rfl, bytesN_zero]; exact h1
      go_wp2
      go_ret
      exact ⟨_, _, _, rfl, HE.out, rfl⟩
    · obtain ⟨j, rfl⟩ : ∃ j, k = j + 1 := ⟨k - 1, by omega⟩
      obtain ⟨b, o, x, rfl, hc, hx⟩ := H.out.at j (by omega)
      by_cases hx0 : x.toNat = 0
      · have HV : Hid (valB (xs.take j) = valB xs) := (valB_take_zero hx.out hx0).symm.trans hr.out
        rw [show B8 x = .int .u8 0 by show Value.int .u8 (x.toNat : Int) = _; rw [hx0]; rfl] at hc
        have hjc : j ≤ c := by omega
        clear hx0 hk0
        go_wp2
        go_round
        case rel => exact ⟨j, by omega, rfl, HV⟩
        case measure => simp
      · have HE : Hid (Sl B8 w (some ⟨b, o, none⟩) (j + 1) c (bytesN (valB xs))) := by
          have h1 := H.out.front hk
          rw [← hr.out, bytesN_take hx.out hx0]; exact h1
        have hx1 : ((x.toNat : Int) == 0) = false := by simpa using hx0
        clear hx0 hk0
        go_wp2
        go_ret
        exact ⟨_, _, _, rfl, HE.out, rfl⟩
set_option maxRecDepth 100000 in
set_option maxHeartbeats 4000000 in
theorem Text_ref (q : Option Addr) (n c : Nat) (xs : List UInt8) (w : World) (h : Sl B8 w q n c xs) (hn : n ≤ 1000000) :
    Calls Tryd.prog 48 #[.slice q n c] w fun e w' => e = .returned (.string (strB (hexText (valB xs)))) ∧ Below w.heap.size w w' := by
  have H := Lib.hid h; clear h
  have hcv : ∀ (W : World) (z : UInt8), (convert 24 9 (.slice (some ⟨W.heap.size, 0, none⟩) 1 1)).run Tryd.prog (W.alloc (.cells #[B8 z] 5)) = .ok (.string (strB [z])) (W.alloc (.cells #[B8 z] 5)) := fun W z =>
    run_convert_bytes_back _ 24 9 5 ⟨W.heap.size, 0, none⟩ 1 [z] Tryd.underlying24 Tryd.underlying5 Tryd.underlying9 (fun t ht => by
      have : t = 0 := by simp at ht; exact ht
      subst this
      rw [Addr.add_lit, cell_of_row _ _ _ _ _ _ (hnew rfl)]; rfl)
  go_enter Tryd.func48, Tryd.ntmps48
  go_wp2
  go_loopw [3, 4] (fun sv iv wr => ∃ (k : Nat) (L : List UInt8), k ≤ n ∧ iv = .int .i64 k ∧ sv = .string (strB L) ∧ Hid (L = nibT (xs.take k)) ∧ Hid (Below w.heap.size w wr)) (fun _ iv _ => n - (intOf iv).toNat)
  case atStart => exact ⟨0, [], Nat.zero_le _, rfl, rfl, rfl, Below.refl _ _⟩
  case round =>
    obtain ⟨k, L, hk, rfl, rfl, hL, hB⟩ := hrel
    by_cases hlt : k < n
    · obtain ⟨b, o, x, rfl, hc, hx⟩ := H.out.at k hlt
      have HC := Lib.hid hc
      have hLl : Hid (L.length ≤ 2000000) := by show _ ≤ _; rw [hL.out, nibT_len, List.length_take]; omega
      have hx256 := x.toNat_lt
      have hlt' : (k : Int) < (n : Int) := by omega
      obtain ⟨wo, hwo⟩ : ∃ wo : World, wo = wr := ⟨_, rfl⟩
      have HBo : Hid (Below w.heap.size w wr) := hB.out
      clear hc hlt hB
      go_wp2
      go_loopw [3, 5] (fun sv jv wr => ∃ (j : Nat) (M : List UInt8), j ≤ 2 ∧ jv = .int .i64 j ∧ sv = .string (strB M) ∧ Hid (M = ([hexc (x.toNat / 16), hexc (x.toNat % 16)].drop (2 - j)) ++ L) ∧ Hid (Below w.heap.size w wr)) (fun _ jv _ => 2 - (intOf jv).toNat)
      case atStart => exact ⟨0, L, by omega, rfl, rfl, rfl, HBo.out⟩
      case round =>
        obtain ⟨j, M, hj, rfl, rfl, hM, hB⟩ := hrel
        have cX := (hB.out.cell (p := ⟨b, o + k, none⟩) (lt_of_cell HC.out)).trans HC.out
        have hMl : M.length ≤ 3000000 := by
          rw [hM.out, List.length_append, List.length_drop]
          have := hLl.out
          simp; omega
        have hadd : ∀ (z : UInt8) (W : World), (Op.stringOp .add (strB [z]) (strB M)).run Tryd.prog W = .ok (.string (strB (z :: M))) W := fun z W => by
          rw [run_string_add_sum W _ _ (by rw [strB_size, strB_size]; simp; omega), strB_append]; rfl
        have hBA : Hid (∀ o, Below w.heap.size w (wr.alloc o)) := fun o => al hB.out hB.out.size
        obtain rfl | rfl | rfl : j = 0 ∨ j = 1 ∨ j = 2 := by omega
        · obtain ⟨d, hd⟩ : ∃ d, d = x.toNat % 16 := ⟨_, rfl⟩
          have hdi : (x.toNat : Int) % 16 = (d : Int) := by omega
          have HM : Hid (hexc d :: M = ([hexc (x.toNat / 16), hexc (x.toNat % 16)].drop (2 - 1)) ++ L) := by show _ = _; rw [hM.out, hd]; rfl
          have hd16 : d < 16 := by omega
          clear hM hB hMl hd
          by_cases h10 : d < 10
          · have hv : (48 : Int) + (d : Int) = ((hexc d).toNat : Int) := by rw [hexc_lo h10]; omega
            have h10' : (d : Int) < 10 := by omega
            clear h10
            go_wp2_with (first | simp only [hv, hcv] | simp only [hadd])
            go_roundw
            case rel => exact ⟨1, hexc d :: M, by omega, rfl, rfl, HM.out, hBA.out _⟩
            case measure => simp [intOf]
          · have hv : (97 : Int) + (d : Int) - 10 = ((hexc d).toNat : Int) := by rw [hexc_hi (by omega) hd16]; omega
            have h10' : ¬ (d : Int) < 10 := by omega
            clear h10
            go_wp2_with (first | simp only [hv, hcv] | simp only [hadd])
            go_roundw
            case rel => exact ⟨1, hexc d :: M, by omega, rfl, rfl, HM.out, hBA.out _⟩
            case measure => simp [intOf]
        · obtain ⟨d, hd⟩ : ∃ d, d = x.toNat / 16 := ⟨_, rfl⟩
          have hdi : (x.toNat : Int) / 16 = (d : Int) := by omega
          have HM : Hid (hexc d :: M = ([hexc (x.toNat / 16), hexc (x.toNat % 16)].drop (2 - 2)) ++ L) := by show _ = _; rw [hM.out, hd]; rfl
          have hd16 : d < 16 := by omega
          clear hM hB hMl hd
          by_cases h10 : d < 10
          · have hv : (48 : Int) + (d : Int) = ((hexc d).toNat : Int) := by rw [hexc_lo h10]; omega
            have h10' : (d : Int) < 10 := by omega
            clear h10
            go_wp2_with (first | simp only [hv, hcv] | simp only [hadd])
            go_roundw
            case rel => exact ⟨2, hexc d :: M, by omega, rfl, rfl, HM.out, hBA.out _⟩
            case measure => simp [intOf]
          · have hv : (97 : Int) + (d : Int) - 10 = ((hexc d).toNat : Int) := by rw [hexc_hi (by omega) hd16]; omega
            have h10' : ¬ (d : Int) < 10 := by omega
            clear h10
            go_wp2_with (first | simp only [hv, hcv] | simp only [hadd])
            go_roundw
            case rel => exact ⟨2, hexc d :: M, by omega, rfl, rfl, HM.out, hBA.out _⟩
            case measure => simp [intOf]
        · have HM : Hid (M = nibT (xs.take (k + 1))) := by
            show _ = _
            rw [hM.out, nibT_take hx.out, hL.out]; rfl
          have HB2 := Lib.hid hB.out
          clear hM hB hMl hadd
          go_wp2
          go_roundw
          case rel => exact ⟨k + 1, M, by omega, by go_num, rfl, HM.out, HB2.out⟩
          case measure => simp [intOf]; omega
    · obtain rfl : k = n := by omega
      have HL : Hid (L = nibT xs) := by
        have := hL.out
        rw [List.take_of_length_le (by have := H.out.len; omega)] at this
        exact this
      have HLl : Hid (L.length ≤ 2000000) := by show _ ≤ _; rw [hL.out, nibT_len, List.length_take]; omega
      have HB2 := Lib.hid hB.out
      clear hlt hL hB hcv
      obtain ⟨wo, hwo⟩ : ∃ wo : World, wo = wr := ⟨_, rfl⟩
      go_wp2
      go_loop [3] (fun v => ∃ M : List UInt8, v = .string (strB M) ∧ Hid (strip0 M = strip0 (nibT xs) ∧ M.length ≤ 2000000)) (fun v => match v with | .string s => s.size | _ => 0)
      case atStart => exact ⟨L, rfl, by rw [HL.out], HLl.out⟩
      case round =>
        obtain ⟨M, rfl, hM⟩ := hrel
        have hne := empty_strB (l := M)
        have hsz := strB_size M
        match M, hM with
        | [], hM =>
          have hE : Hid (hexText (valB xs) = [48]) := by
            show _ = _
            rw [← nibT_text, ← hM.out.1]; rfl
          have hsz' : (strB []).size = 0 := hsz
          have hne' : (strB []).toList.isEmpty = true := hne
          obtain ⟨S, hS⟩ : ∃ S, S = strB [] := ⟨_, rfl⟩
          rw [← hS] at hsz' hne' ⊢
          clear hne hsz hS
          go_wp2
          go_ret
          exact ⟨by rw [hE.out]; rfl, HB2.out⟩
        | [z], hM =>
          have hE : Hid (strB (hexText (valB xs)) = strB [z]) := by
            show _ = _
            rw [← nibT_text, ← hM.out.1]; rfl
          have hsz' : (strB [z]).size = 1 := hsz
          have hne' : (strB [z]).toList.isEmpty = false := hne
          obtain ⟨S, hS⟩ : ∃ S, S = strB [z] := ⟨_, rfl⟩
          rw [← hS] at hsz' hne' hE ⊢
          clear hne hsz hS
          go_wp2
          go_ret
          exact ⟨by rw [hE.out]; rfl, HB2.out⟩
        | z :: y :: r, hM =>
          have hix : ∀ w, (Instr.index 9 (.string (strB (z :: y :: r))) (.int .i64 0)).run Tryd.prog w = .ok (B8 z) w := fun w => idx_strB _ Tryd.underlying9 (k := 0) rfl _ _ rfl w
          have hlen : (1 : Int) < ((z :: y :: r).length : Nat) := by simp; omega
          have hne' : (strB (z :: y :: r)).toList.isEmpty = false := hne
          have hex : (strB (z :: y :: r)).extract 1 (strB (z :: y :: r)).size = strB (y :: r) := by
            rw [extract_strB, strB_size, List.take_length]; rfl
          obtain ⟨m, hm⟩ : ∃ m, (z :: y :: r).length = m := ⟨_, rfl⟩
          have hmm : Hid (m = (y :: r).length + 1 ∧ m ≤ 2000000) := ⟨by rw [← hm]; rfl, by rw [← hm]; exact hM.out.2⟩
          rw [hm] at hsz hlen
          by_cases hz : z = 48
          · have HM : Hid (strip0 (y :: r) = strip0 (nibT xs) ∧ (y :: r).length ≤ 2000000) := ⟨by rw [← hM.out.1, strip0_step (by simp) hz], by have := hmm.out; omega⟩
            rw [show B8 z = .int .u8 48 by rw [hz]; rfl] at hix
            have hsz2 := strB_size (y :: r)
            have HS2 := Lib.hid hsz2
            have HSZ := Lib.hid hsz
            clear hM hz hm hne
            obtain ⟨S, hS⟩ : ∃ S, S = strB (z :: y :: r) := ⟨_, rfl⟩
            rw [← hS] at hix hsz hne' hex HSZ ⊢
            obtain ⟨S2, hS2⟩ : ∃ S2, S2 = strB (y :: r) := ⟨_, rfl⟩
            rw [← hS2] at hex hsz2 HS2
            have HS := Lib.hid hS2
            clear hS hS2 hsz2
            have hexm : S.extract 1 m = S2 := by rw [← HSZ.out]; exact hex
            have HEX := Lib.hid hexm
            clear hexm hex
            go_wp2_with (simp only [hix])
            exact ⟨⟨y :: r, by rw [HEX.out, HS.out], HM.out⟩, by show (S.extract 1 m).size < S.size; rw [HEX.out, HS2.out, HSZ.out]; have := hmm.out; omega⟩
          · have hE : Hid (strB (hexText (valB xs)) = strB (z :: y :: r)) := by
              show _ = _
              rw [← nibT_text, ← hM.out.1, strip0_head hz, if_neg (by simp)]
            have hz1 : ((z.toNat : Int) == 48) = false := by
              have : z.toNat ≠ 48 := fun e => hz (UInt8.toNat_inj.1 (by simpa using e))
              rw [beq_eq_false_iff_ne]; omega
            obtain ⟨S, hS⟩ : ∃ S, S = strB (z :: y :: r) := ⟨_, rfl⟩
            rw [← hS] at hix hsz hne' hE ⊢
            clear hM hz hm hne hex hS
            go_wp2_with (simp only [hix])
            go_ret
            exact ⟨by rw [hE.out]; rfl, HB2.out⟩
end Go.Proofs.YtbfmdfbnhakolaaDoor
namespace Go.By
open Go.RowKit
theorem one_cap : 1 < capN := Nat.lt_of_lt_of_le (show 1 < powW 1 by decide) (powW_mono (show 1 ≤ 512 by decide))
theorem RetP.two {T : TypeId} {w w' : World} {M N : Nat} {e : Ending} (h : RetP T w [M, N] e w') (hM : M < capN) : RetMn T w (M * N) e w' := by
  have e2 : mulL [M, N] = M * N := by simp [mulL]
  rcases h with ⟨h1, h2⟩ | ⟨⟨j, hj⟩, h2⟩
  · have := h1 2
    rw [show [M, N].take 2 = [M, N] from rfl, e2] at this
    rw [e2] at h2
    exact Or.inl ⟨this, h2⟩
  · refine Or.inr ⟨?_, h2⟩
    match j, hj with
    | 0, hj => have := one_cap; rw [show mulL ([M, N].take 0) = 1 from rfl] at hj; omega
    | 1, hj => rw [show mulL ([M, N].take 1) = M * 1 from rfl] at hj; omega
    | j + 2, hj => rw [List.take_of_length_le (by simp), e2] at hj; exact hj
theorem RetP.three {T : TypeId} {w w' : World} {M N K : Nat} {e : Ending} (h : RetP T w [M, N, K] e w') (hM : M < capN) (h2 : M * N < capN) (h3 : M * N * K < capN) : RetN T w (M * N * K) e w' := by
  have e3 : mulL [M, N, K] = M * N * K := by simp [mulL, Nat.mul_assoc]
  rcases h with ⟨_, h⟩ | ⟨⟨j, hj⟩, _⟩
  · rwa [e3] at h
  · exfalso
    match j, hj with
    | 0, hj => have := one_cap; rw [show mulL ([M, N, K].take 0) = 1 from rfl] at hj; omega
    | 1, hj => rw [show mulL ([M, N, K].take 1) = M * 1 from rfl] at hj; omega
    | 2, hj => rw [show mulL ([M, N, K].take 2) = M * (N * 1) from rfl, Nat.mul_one] at hj; omega
    | j + 3, hj => rw [List.take_of_length_le (by simp), e3] at hj; omega
/-- a power, or that one on the way is too great -/
def RetW (T : TypeId) (w : World) (N k : Nat) (e : Ending) (w' : World) : Prop := ((∀ j, j ≤ k → N ^ j < capN) ∧ RetN T w (N ^ k) e w') ∨ ((∃ j, j ≤ k ∧ capN ≤ N ^ j) ∧ Ret0 w 16 e w')
end Go.By
namespace Go.Proofs.YtbfmdfbnhakolaaDoor
open Go.RowKit Go.By
set_option maxRecDepth 100000 in
set_option maxHeartbeats 1000000 in
theorem Pow_bad (q : Option Addr) (n c : Nat) (k : Int) (w : World) (hk : k < 0 ∨ 65536 < k) :
    Calls Tryd.prog 44 #[.agg #[.slice q n c], .int .i64 k] w (Ret0 w 2) := by
  have hinfo := info_nat
  have HB : Hid (∀ o o2, Below w.heap.size w ((w.alloc o).alloc o2)) := fun o o2 => al (al (Below.refl _ _) (Nat.le_refl _)) (by simp)
  have HX : Hid (∀ o o2, ((w.alloc o).alloc o2).heap[w.heap.size + 1]? = some o2) := fun o o2 => hnew (by simp)
  rcases hk with h | h
  · go_enter Tryd.func44, Tryd.ntmps44
    go_wp2
    exact bodyPost_ret (res_cell_tmp rfl _ _ _ 29 #[.slice none 0 0] (0, 0) _ (.int .i64 2) rfl (HX.out _ _) rfl Tryd.underlying29 rfl hinfo) rfl ⟨rfl, HB.out _ _⟩
  · have h0 : ¬ k < 0 := by omega
    go_enter Tryd.func44, Tryd.ntmps44
    go_wp2
    exact bodyPost_ret (res_cell_tmp rfl _ _ _ 29 #[.slice none 0 0] (0, 0) _ (.int .i64 2) rfl (HX.out _ _) rfl Tryd.underlying29 rfl hinfo) rfl ⟨rfl, HB.out _ _⟩
end Go.Proofs.YtbfmdfbnhakolaaDoor
namespace Go.By
open Go.RowKit
/-- a difference, or that there is none -/
def RetD (T : TypeId) (w : World) (M N : Nat) (e : Ending) (w' : World) : Prop := (N ≤ M ∧ RetN T w (M - N) e w') ∨ (M < N ∧ Ret0 w 2 e w')
theorem sub_end {S A B n c : Nat} (h : S + B = A + 18446744073709551616 ^ n * c) (hS : S < 18446744073709551616 ^ n) (hle : B ≤ A) : S = A - B := by
  rcases Nat.eq_zero_or_pos c with h0 | h0
  · subst h0; rw [Nat.mul_zero] at h; omega
  · have : 18446744073709551616 ^ n * 1 ≤ 18446744073709551616 ^ n * c := Nat.mul_le_mul_left _ h0
    omega
end Go.By
namespace Go.Proofs.YtbfmdfbnhakolaaDoor
open Go.RowKit Go.By
end Go.Proofs.YtbfmdfbnhakolaaDoor
namespace Go.By
open Go.RowKit
theorem hexText_bound (xs : List UInt8) : (hexText (valB xs)).length ≤ 2 * xs.length + 1 := by
  refine tLen ?_
  have := valB_lt xs
  rwa [show (256 : Nat) = 16 ^ 2 from rfl, ← Nat.pow_mul] at this
theorem strB_toList (l : List UInt8) : (strB l).toList = l := by rw [ByteArray.toList_eq, strB_data]
theorem strB_beq (a b : List UInt8) : ((strB a).toList == (strB b).toList) = decide (a = b) := by
  rw [strB_toList, strB_toList]
  by_cases h : a = b
  · subst h; simp
  · rw [decide_eq_false h]; simpa using h
theorem hex_beq (M N : Nat) : ((strB (hexText M)).toList == (strB (hexText N)).toList) = decide (M = N) := by
  rw [strB_beq]
  by_cases h : M = N
  · rw [h]; simp
  · rw [decide_eq_false h, decide_eq_false (fun e => h (hexText_inj e))]
theorem hex255 : hexText 255 = [102, 102] := by
  rw [hexText_big (by decide), show 255 / 16 = 15 from rfl, hexText_small (by decide)]; rfl
theorem hex65025 : hexText 65025 = [102, 101, 48, 49] := by
  rw [hexText_big (by decide), show 65025 / 16 = 4064 from rfl, hexText_big (by decide), show 4064 / 16 = 254 from rfl, hexText_big (by decide), show 254 / 16 = 15 from rfl, hexText_small (by decide)]; rfl
theorem bytesN_len_le (xs : List UInt8) : (bytesN (valB xs)).length ≤ xs.length := by
  rw [bytesN_len]
  exact (lowD_pad (b := 256) (by decide) xs.length (valB xs) (valB_lt xs)).2
end Go.By
namespace Go.Proofs.YtbfmdfbnhakolaaDoor
open Go.RowKit Go.By
set_option maxRecDepth 100000 in
set_option maxHeartbeats 1000000 in
theorem Is_any (p q : Option Addr) (m d n c N : Nat) (xs : List UInt8) (w : World) (hN : Ws 34 w p m d N) (h : Sl B8 w q n c xs) (hn : n ≤ 100000) (hT : Tab w) :
    Calls Tryd.prog 24 #[.agg #[.slice p m d], .slice q n c] w fun e w' => e = .returned (.bool (decide (N = valB xs))) ∧ Below w.heap.size w w' := by
  have hl := h.len
  have hA : ∀ o, Below w.heap.size w (w.alloc o) := fun o => al (Below.refl _ _) (Nat.le_refl _)
  have HA := Lib.hid hA
  have H := Lib.hid h
  have HN := Lib.hid hN
  have HT := Lib.hid hT
  clear h hA hN hT
  go_enter Tryd.func24, Tryd.ntmps24
  go_wp2_with fail
  refine Calls.mono (Text_nat p m d N _ (HN.out.keep (HA.out _)) (HT.out.keep (HA.out _))) ?_
  rintro e w1 ⟨rfl, hb1⟩
  have HB1 := Lib.hid (bl (HA.out _) hb1 (by simp))
  clear hb1
  go_wp2_with fail
  refine Calls.mono (Trim_ref q n c xs w1 (H.out.keep HB1.out)) ?_
  rintro e w2 ⟨q1, n1, c1, rfl, hs1, rfl⟩
  have hn1 : n1 ≤ n := by rw [← hs1.len, ← hl]; exact bytesN_len_le xs
  have HS1 := Lib.hid hs1
  clear hs1
  go_wp2_with fail
  refine Calls.mono (Text_ref q1 n1 c1 _ _ HS1.out (by omega)) ?_
  rintro e w3 ⟨rfl, hb3⟩
  rw [valB_bytesN]
  have HB3 := Lib.hid (HB1.out.trans (hb3.mono HB1.out.size))
  have HE := Lib.hid (hex_beq N (valB xs))
  clear hb3
  go_wp2
  go_ret
  exact ⟨by rw [← HE.out]; rfl, HB3.out⟩
end Go.Proofs.YtbfmdfbnhakolaaDoor
namespace Go.By
open Go.RowKit
theorem powW_eq (k : Nat) : powW k = 256 ^ (8 * k) := by
  unfold powW
  rw [show (18446744073709551616 : Nat) = 256 ^ 8 from rfl, ← Nat.pow_mul]
theorem capN_eq {j k : Nat} (hj : j = 512) (hk : k = 8 * j) : capN = 256 ^ k := by
  show powW 512 = _
  rw [← hj, powW_eq, hk]
theorem lt_cap {N k : Nat} (h : N < 256 ^ k) (hk : k ≤ 4096) : N < capN := by
  obtain ⟨j, hj⟩ : ∃ j, j = 512 := ⟨_, rfl⟩
  obtain ⟨i, hi⟩ : ∃ i, i = 8 * j := ⟨_, rfl⟩
  rw [capN_eq hj hi]
  exact Nat.lt_of_lt_of_le h (Nat.pow_le_pow_right (by decide) (by omega))
theorem add_lt256 {M N k : Nat} (h1 : M < 256 ^ k) (h2 : N < 256 ^ k) : M + N < 256 ^ (k + 1) := by
  rw [Nat.pow_succ]; omega
theorem mul_lt256 {M N j k : Nat} (h1 : M < 256 ^ j) (h2 : N < 256 ^ k) : M * N < 256 ^ (j + k) := by
  rw [Nat.pow_add]
  exact Nat.mul_lt_mul'' h1 h2
theorem up256 {N j k : Nat} (h : N < 256 ^ j) (hk : j ≤ k) : N < 256 ^ k := Nat.lt_of_lt_of_le h (Nat.pow_le_pow_right (by decide) hk)
theorem pow_lt256 {N j : Nat} (h : N < 256 ^ j) : ∀ k, N ^ k < 256 ^ (j * k + 1)
  | 0 => by simp
  | k + 1 => by
    have h1 := pow_lt256 h k
    rw [Nat.pow_succ, show j * (k + 1) + 1 = (j * k + 1) + j by rw [Nat.mul_add]; omega]
    exact mul_lt256 h1 h
theorem RetW.ok {T : TypeId} {w w' : World} {N k : Nat} {e : Ending} (h : RetW T w N k e w') (hN : ∀ j, j ≤ k → N ^ j < capN) : RetN T w (N ^ k) e w' := by
  rcases h with h | ⟨⟨j, hj, hc⟩, _⟩
  · exact h.2
  · have := hN j hj; omega
theorem RetD.ok {T : TypeId} {w w' : World} {M N : Nat} {e : Ending} (h : RetD T w M N e w') (hN : N ≤ M) : RetN T w (M - N) e w' := by
  rcases h with h | h
  · exact h.2
  · omega
theorem RetD.less {T : TypeId} {w w' : World} {M N : Nat} {e : Ending} (h : RetD T w M N e w') (hN : M < N) : Ret0 w 2 e w' := by
  rcases h with h | h
  · omega
  · exact h.2
theorem ba1 (w : World) (o : Obj) : Below w.heap.size w (w.alloc o) := al (Below.refl _ _) (Nat.le_refl _)
theorem ba2 (w : World) (o o2 : Obj) : Below w.heap.size w ((w.alloc o).alloc o2) := bl (ba1 w o) (ba1 _ o2) (ba1 w o).size
/-- a box that holds a number -/
def NBox (T U : TypeId) (W : World) (b N : Nat) : Prop := ∃ q n c, W.heap[b]? = some (.cells #[.slice q n c] T (0, 0)) ∧ Ws U W q n c N
theorem NBox.keep {T U : TypeId} {w w' : World} {b N : Nat} (h : NBox T U w b N) (hb : Below w.heap.size w w') : NBox T U w' b N := by
  obtain ⟨q, n, c, k, hw⟩ := h
  exact ⟨q, n, c, (hb.block _ (blk_lt k)).trans k, hw.keep hb⟩
theorem NBox.new {T U : TypeId} {w : World} {q : Option Addr} {n c N : Nat} (h : Ws U w q n c N) : NBox T U (w.alloc (.cells #[.slice q n c] T)) w.heap.size N :=
  ⟨q, n, c, hnew rfl, h.keep (al (Below.refl _ _) (Nat.le_refl _))⟩
/-- what the laws carry along: the numbers' boxes -/
structure NS (T U : TypeId) (w0 : World) (L : List (Nat × Nat)) (W : World) : Prop where
  bel : Below w0.heap.size w0 W
  box : ∀ b N, (b, N) ∈ L → NBox T U W b N
theorem NS.keep {T U : TypeId} {w0 W W' : World} {L : List (Nat × Nat)} (h : NS T U w0 L W) (hb : Below W.heap.size W W') : NS T U w0 L W' := ⟨bl h.bel hb h.bel.size, fun b N hm => (h.box b N hm).keep hb⟩
theorem NS.more {T U : TypeId} {w0 W W' : World} {L : List (Nat × Nat)} {b N : Nat} (h : NS T U w0 L W) (hb : Below W.heap.size W W') (hn : NBox T U W' b N) : NS T U w0 ((b, N) :: L) W' :=
  ⟨bl h.bel hb h.bel.size, fun b' N' hm => by
    rcases List.mem_cons.1 hm with e | hm
    · cases e; exact hn
    · exact (h.box b' N' hm).keep hb⟩
theorem NS.new {T U : TypeId} {w0 w : World} {L : List (Nat × Nat)} {q : Option Addr} {n c N : Nat} (h : NS T U w0 L w) (hw : Ws U w q n c N) : NS T U w0 ((w.heap.size, N) :: L) (w.alloc (.cells #[.slice q n c] T)) :=
  h.more (al (Below.refl _ _) (Nat.le_refl _)) (NBox.new hw)
/-- a call behind a new box and a new block -/
theorem NS.on {T U : TypeId} {w0 w w' : World} {L : List (Nat × Nat)} {q : Option Addr} {n c N : Nat} {o : Obj} (h : NS T U w0 L w) (hw : Ws U w q n c N) (hb : Below ((w.alloc (.cells #[.slice q n c] T)).alloc o).heap.size ((w.alloc (.cells #[.slice q n c] T)).alloc o) w') : NS T U w0 ((w.heap.size, N) :: L) w' :=
  ((h.new hw).keep (al (Below.refl _ _) (Nat.le_refl _))).keep hb
theorem NS.on1 {T U : TypeId} {w0 w w' : World} {L : List (Nat × Nat)} {q : Option Addr} {n c N : Nat} (h : NS T U w0 L w) (hw : Ws U w q n c N) (hb : Below (w.alloc (.cells #[.slice q n c] T)).heap.size (w.alloc (.cells #[.slice q n c] T)) w') : NS T U w0 ((w.heap.size, N) :: L) w' :=
  (h.new hw).keep hb
theorem Ws.on {T : TypeId} {w : World} {q : Option Addr} {n c N : Nat} (h : Ws T w q n c N) {o o2 : Obj} : Ws T ((w.alloc o).alloc o2) q n c N := (h.keep (al (Below.refl _ _) (Nat.le_refl _))).keep (al (Below.refl _ _) (Nat.le_refl _))
theorem Ws.on1 {T : TypeId} {w : World} {q : Option Addr} {n c N : Nat} (h : Ws T w q n c N) {o : Obj} : Ws T (w.alloc o) q n c N := h.keep (al (Below.refl _ _) (Nat.le_refl _))
theorem NS.three {T U : TypeId} {w0 w w' : World} {q1 q2 q3 : Option Addr} {n1 c1 n2 c2 n3 c3 A B C : Nat} {o : Obj} (h : Below w0.heap.size w0 w) (h1 : Ws U w q1 n1 c1 A) (h2 : Ws U w q2 n2 c2 B) (h3 : Ws U w q3 n3 c3 C)
    (hb : Below ((((w.alloc (.cells #[.slice q1 n1 c1] T)).alloc (.cells #[.slice q2 n2 c2] T)).alloc (.cells #[.slice q3 n3 c3] T)).alloc o).heap.size ((((w.alloc (.cells #[.slice q1 n1 c1] T)).alloc (.cells #[.slice q2 n2 c2] T)).alloc (.cells #[.slice q3 n3 c3] T)).alloc o) w') :
    NS T U w0 [(w.heap.size + 1 + 1, C), (w.heap.size + 1, B), (w.heap.size, A)] w' := by
  have s0 : NS T U w0 [] w := ⟨h, fun b N hm => by cases hm⟩
  have s1 := s0.new h1
  have s2 := s1.new h2.on1
  have s3 := s2.on h3.on hb
  simpa using s3
theorem use_wn {P : Program} {f : FuncId} {args : Array Value} {W : World} {Q : Ending → World → Prop} (I : World → Prop) (h : I W) (k : ∀ W', I W' → Calls P f args W' Q) : Calls P f args W Q := k W h
theorem cmpN_self (N : Nat) : cmpN N N = 0 := cmpN_eq rfl
end Go.By
namespace Go.Proofs.YtbfmdfbnhakolaaDoor
open Go.RowKit Go.By
theorem Cmp_same {p q : Option Addr} {n c m d M N : Nat} {w : World} (h1 : Ws 34 w p n c M) (h2 : Ws 34 w q m d N) (h : M = N) : Calls Tryd.prog 11 #[.agg #[.slice p n c], .agg #[.slice q m d]] w fun e w' => e = .returned (.int .i64 0) ∧ Below w.heap.size w w' := by
  have := Cmp_any p q n c m d M N w h1 h2
  rwa [cmpN_eq h] at this
end Go.Proofs.YtbfmdfbnhakolaaDoor
namespace Go.By
open Go.RowKit
/-- a store into a block of one cell, of element type X, numbered B or more -/
structure StepN (B X : Nat) (w w' : World) : Prop where
  os : w'.os = w.os
  tape : w'.tape = w.tape
  output : w'.output = w.output
  size : w.heap.size ≤ w'.heap.size
  keep : ∀ k, k < w.heap.size → (k < B ∨ ∀ (cs : Array Value) fr, w.heap[k]? = some (Obj.cells cs X fr) → cs.size ≠ 1) → w'.heap[k]? = w.heap[k]?
  cells : ∀ (k : Nat) (cs : Array Value), w.heap[k]? = some (Obj.cells cs X (0, 0)) → ∃ cs' : Array Value, cs'.size = cs.size ∧ w'.heap[k]? = some (Obj.cells cs' X (0, 0))
structure ShN (B X : Nat) where
  ok : Value → World → Prop
  keep : ∀ (v : Value) (w w' : World), ok v w → Below w.heap.size w w' → ok v w'
  step : ∀ (v : Value) (w w' : World), ok v w → StepN B X w w' → ok v w'
def NBoxS (B X size : Nat) (v : Value) (w : World) : Prop := ∃ b cs, v = .pointer (some ⟨b, 0, none⟩) ∧ B ≤ b ∧ cs.size = size ∧ w.heap[b]? = some (.cells cs X (0, 0))
section
variable (B X : Nat)
def ShN.val (u : Value) : ShN B X := ⟨fun v _ => v = u, fun _ _ _ h _ => h, fun _ _ _ h _ => h⟩
def ShN.any : ShN B X := ⟨fun _ _ => True, fun _ _ _ h _ => h, fun _ _ _ h _ => h⟩
def ShN.box : ShN B X := ⟨NBoxS B X 1, fun _ _ _ ⟨b, cs, e, hb, hs, hh⟩ hw => ⟨b, cs, e, hb, hs, (hw.block b (lt_of_block hh)).trans hh⟩,
  fun _ _ _ ⟨b, cs, e, hb, hs, hh⟩ hw => by
    obtain ⟨cs', h1, h2⟩ := hw.cells b cs hh
    exact ⟨b, cs', e, hb, h1.trans hs, h2⟩⟩
end
/-- behind the store: the box in slot t holds a value that reads so -/
def BoxedN (B X t : Nat) (s : ShN B X) (σ : Nat → Value) (w : World) : Prop := ∃ b cs, σ t = .pointer (some ⟨b, 0, none⟩) ∧ B ≤ b ∧ w.heap[b]? = some (.cells cs X (0, 0)) ∧ s.ok (.agg cs) w
def InvN (ops : Array Oper) (B X : Nat) (sh : Nat → ShN B X) (st t : Nat) (s : ShN B X) (i : Nat) (σ : Nat → Value) (w : World) : Prop :=
  if i = st then BoxedN B X t s σ w else match dstOf ops i with
  | some d => (sh i).ok (σ d) w
  | none => True
def RelN (B X st : Nat) (i : Nat) (w w' : World) : Prop := if i = st then StepN B X w w' else Below w.heap.size w w'
/-- all that was there stays -/
def ExN (B : Nat) (W w : World) : Prop := Below B W w ∧ W.heap.size ≤ w.heap.size
def StepNS (P : Program) (ops : Array Oper) (Q : Exit → Act → World → Prop) (a0 : Act) (W0 : World) (B X : Nat) (sh : Nat → ShN B X) (st t : Nat) (s : ShN B X) (i : Nat) (o : Oper) : Prop :=
  ∀ (a : Act) (w : World), Below B W0 w → a.tmps.size = a0.tmps.size → (∀ k, k ∈ preds o → InvN ops B X sh st t s k (sl a) w) → (∀ u, initAt ops i u = true → sl a u = sl a0 u) →
    if Region.wanted o (yielded ops a.tmps) = true then o.wp P a w (fun a' w' => ∃ v, a' = a.put o.dst v ∧ RelN B X st i w w' ∧ (if i = st then BoxedN B X t s (sl a) w' else (sh i).ok v w')) Q
    else i ≠ st ∧ (sh i).ok undef w
def EachN (P : Program) (ops : Array Oper) (Q : Exit → Act → World → Prop) (a0 : Act) (W0 : World) (B X : Nat) (sh : Nat → ShN B X) (st t : Nat) (s : ShN B X) : List Oper → Nat → Prop
  | [], _ => True
  | o :: rest, i => StepNS P ops Q a0 W0 B X sh st t s i o ∧ EachN P ops Q a0 W0 B X sh st t s rest (i + 1)
/-- the store writes no slot, all others do; the box's slot is written by one that the store waits for -/
def dstsN (ops : Array Oper) (n st t : Nat) : Bool := (List.range ops.size).all fun i => match ops[i]? with
  | some o => (match o.dst with
    | some d => decide (d < n) && i != st && (d != t || (match ops[st]? with
      | some os => (preds os).contains i
      | none => false))
    | none => i == st)
  | none => true
theorem eachN_of {P : Program} {ops : Array Oper} {Q : Exit → Act → World → Prop} {a0 : Act} {W0 : World} {B X : Nat} {sh : Nat → ShN B X} {st t : Nat} {s : ShN B X} {n : Nat} (hn : a0.tmps.size = n) (hd : dstsN ops n st t = true) : ∀ (l : List Oper) (k : Nat), (∀ j o, l[j]? = some o → ops[k + j]? = some o) →
    EachN P ops Q a0 W0 B X sh st t s l k → Each P ops Q a0 W0.drew (fun W w => Below B W w) (RelN B X st) (InvN ops B X sh st t s) l k := by
  intro l
  induction l with
  | nil => intro k _ _; trivial
  | cons o l ih =>
    intro k hk h
    refine ⟨?_, ih (k + 1) (fun j o' hj => by have := hk (j + 1) o' (by simpa using hj); rwa [show k + (j + 1) = k + 1 + j by omega] at this) h.2⟩
    intro a w hE hs hp hi
    have ho : ops[k]? = some o := by have := hk 0 o (by simp); simpa using this
    have hks : k < ops.size := (Array.getElem?_eq_some_iff.1 ho).1
    have hdk := List.all_eq_true.1 hd k (List.mem_range.2 hks)
    rw [ho] at hdk
    dsimp only at hdk
    have hs1 := h.1 a w ⟨hE.os, hE.tape, hE.output, hE.size, hE.block⟩ hs hp hi
    cases hdo : o.dst with
    | none =>
      rw [hdo] at hdk
      dsimp only at hdk
      have hkst : k = st := by simpa using hdk
      split
      · rename_i hw
        rw [if_pos hw] at hs1
        refine Oper.wp_mono ?_ hs1
        rintro a' w' ⟨v, e, hb, hok⟩
        rw [if_pos hkst] at hok
        refine ⟨v, e.trans (by rw [hdo]), hb, ?_⟩
        unfold InvN
        rw [if_pos hkst, e, hdo]; exact hok
      · rename_i hw
        rw [if_neg hw] at hs1
        exact absurd hkst hs1.1
    | some d =>
      rw [hdo] at hdk
      dsimp only at hdk
      simp only [Bool.and_eq_true, decide_eq_true_eq, bne_iff_ne] at hdk
      have hkst : k ≠ st := hdk.1.2
      have hdn : d < a.tmps.size := by rw [hs, hn]; exact hdk.1.1
      have hdst : dstOf ops k = some d := by simp [dstOf, ho, hdo]
      split
      · rename_i hw
        rw [if_pos hw] at hs1
        refine Oper.wp_mono ?_ hs1
        rintro a' w' ⟨v, e, hb, hok⟩
        rw [if_neg hkst] at hok
        refine ⟨v, e.trans (by rw [hdo]), hb, ?_⟩
        unfold InvN
        rw [if_neg hkst, hdst]
        show (sh k).ok (sl a' d) w'
        rw [e, hdo, put_same _ _ _ hdn]; exact hok
      · rename_i hw
        rw [if_neg hw] at hs1
        refine ⟨?_, ?_⟩
        · unfold RelN; rw [if_neg hkst]; exact Below.refl _ _
        · unfold InvN
          rw [if_neg hkst, hdst]
          show (sh k).ok (sl (a.put (some d) undef) d) w
          rw [put_same _ _ _ hdn]; exact hs1.2
theorem stepN_below {B X : Nat} {W w w' : World} (hE : Below B W w) (h : StepN B X w w') (hB : B ≤ W.heap.size) : Below B W w' :=
  hE.trans ⟨h.os, h.tape, h.output, h.size, fun k hk => h.keep k (by have := hE.size; omega) (.inl hk)⟩
theorem wp_region_boxN {P : Program} {ops : Array Oper} {Q : Exit → Act → World → Prop} {id : Nat} {a0 : Act} {w0 : World} (X : Nat) (sh : Nat → ShN w0.heap.size X) (st t : Nat) (s : ShN w0.heap.size X) (n : Nat) (hn : a0.tmps.size = n) (hm : P.follows .mixedOrders = true) (hback : backB ops = true) (hdist : distB ops = true) (hdsts : dstsN ops n st t = true)
    (each : EachN P ops Q a0 w0 w0.heap.size X sh st t s ops.toList 0)
    (fin : ∀ a w, Below w0.heap.size w0 w → a.tmps.size = a0.tmps.size → a.defers = a0.defers → (∀ j, j < ops.size → InvN ops w0.heap.size X sh st t s j (sl a) w) → (∀ u, (ops.toList.all fun o => o.dst != some u) = true → sl a u = sl a0 u) → Q .normal a w) :
    (Code.region id ops true).wp P Q a0 w0 := by
  refine wp_region_each hm hback (fun W w => Below w0.heap.size W w) (RelN w0.heap.size X st) (InvN ops w0.heap.size X sh st t s) (Below.refl _ _) ?_ ?_ (eachN_of (W0 := w0) hn hdsts ops.toList 0 (fun j o hj => by simpa using hj) each) (fun a w hE hs hd hI ht => fin a w ⟨hE.os, hE.tape, hE.output, hE.size, hE.block⟩ hs hd hI ht)
  · intro i w w' h hR
    unfold RelN at hR
    split at hR
    · exact stepN_below h hR (Nat.le_refl _)
    · exact h.trans (hR.mono h.size)
  intro i j oi oj σ σ' w w' hij hoi hoj _ hI hR hσ _ hord
  have hi' : i < ops.size := (Array.getElem?_eq_some_iff.1 hoi).1
  have hj' : j < ops.size := (Array.getElem?_eq_some_iff.1 hoj).1
  have hdi := List.all_eq_true.1 hdsts i (List.mem_range.2 hi')
  rw [hoi] at hdi
  dsimp only at hdi
  unfold InvN at hI ⊢
  by_cases hjs : j = st
  · rw [if_pos hjs] at hI ⊢
    obtain ⟨b, cs, hb, hBb, hh, hok⟩ := hI
    have his : i ≠ st := fun e => hij (e.trans hjs.symm)
    unfold RelN at hR
    rw [if_neg his] at hR
    have hne : oi.dst ≠ some t := by
      intro e
      rw [e] at hdi
      dsimp only at hdi
      simp only [Bool.and_eq_true, decide_eq_true_eq, bne_self_eq_false, Bool.false_or] at hdi
      have h2 := hdi.2
      rw [← hjs, hoj] at h2
      exact hord t e (by simpa using h2)
    exact ⟨b, cs, by rw [hσ t hne]; exact hb, hBb, (hR.block b (lt_of_block hh)).trans hh, s.keep _ _ _ hok hR⟩
  · rw [if_neg hjs] at hI ⊢
    cases hdj : dstOf ops j with
    | none => trivial
    | some d =>
      rw [hdj] at hI
      show (sh j).ok (σ' d) w'
      have hne : oi.dst ≠ some d := by
        intro e
        have := List.all_eq_true.1 (List.all_eq_true.1 hdist i (List.mem_range.2 hi')) j (List.mem_range.2 hj')
        rw [hoi, hoj] at this
        have hdj' : oj.dst = some d := by simpa [dstOf, hoj] using hdj
        simp [e, hdj', hij] at this
      rw [hσ d hne]
      unfold RelN at hR
      by_cases his : i = st
      · rw [if_pos his] at hR; exact (sh j).step _ _ _ hI hR
      · rw [if_neg his] at hR; exact (sh j).keep _ _ _ hI hR
/-- a store of a whole value into a box is such a step -/
theorem stepN_setRow {B X b : Nat} {w : World} {cs cs' : Array Value} (hb : B ≤ b) (h : w.heap[b]? = some (.cells cs X (0, 0))) (h1 : cs.size = 1) (hs : cs'.size = cs.size) : StepN B X w (w.setRow b cs') := by
  refine ⟨rfl, rfl, rfl, by simp, ?_, ?_⟩
  · intro k hk hp
    simp only [World.setRow, Array.getElem?_modify]
    have : b ≠ k := by
      rintro rfl
      rcases hp with hp | hp
      · omega
      · exact hp _ _ h h1
    rw [if_neg this]
  · intro k cs1 h2
    by_cases e : k = b
    · subst e
      rw [h] at h2; cases h2
      exact ⟨cs', hs, hrs h⟩
    · exact ⟨cs1, rfl, hro h2 e⟩
section
variable {B X : Nat}
theorem Ws.step {T : TypeId} {w w' : World} {q : Option Addr} {n c N : Nat} (h : Ws T w q n c N) (hb : StepN B X w w') (hne : T ≠ X) : Ws T w' q n c N := by
  obtain ⟨ws, hs, hn, hv⟩ := h.ex
  have key : ∀ a, q = some a → w'.heap[a.block]? = w.heap[a.block]? := fun a ha => by
    obtain ⟨cs, fr, hc⟩ := h.lies a ha
    exact hb.keep _ (lt_of_block hc) (.inr fun cs' fr' hc' => by rw [hc] at hc'; cases hc'; exact absurd rfl hne)
  refine ⟨⟨ws, ⟨hs.len, hs.le, hs.max, hs.nil, fun i hi => ?_⟩, hn, hv⟩, h.le, fun a ha => ?_⟩
  · obtain ⟨b, o, hp, hc⟩ := hs.rs i hi
    exact ⟨b, o, hp, (World.cell?_of_block (a := ⟨b, o + i, none⟩) (key ⟨b, o, none⟩ hp)).trans hc⟩
  · obtain ⟨cs, fr, hc⟩ := h.lies a ha
    exact ⟨cs, fr, (key a ha).trans hc⟩
theorem stepN_set {b : Nat} {w : World} {u v : Value} (hb : B ≤ b) (h : w.heap[b]? = some (.cells #[u] X (0, 0))) : StepN B X w (w.setCell ⟨b, 0, none⟩ v) := by
  have hs : (w.setCell ⟨b, 0, none⟩ v).heap[b]? = some (.cells #[v] X (0, 0)) := hss h
  refine ⟨rfl, rfl, rfl, by simp, ?_, ?_⟩
  · intro k hk hp
    have : k ≠ b := by
      rintro rfl
      rcases hp with hp | hp
      · omega
      · exact hp _ _ h rfl
    rw [Below.heap_setCell _ _ _ _ this]
  · intro k cs1 h2
    by_cases e : k = b
    · subst e
      rw [h] at h2; cases h2
      exact ⟨#[v], rfl, hs⟩
    · exact ⟨cs1, rfl, hsc h2 e⟩
theorem size1 {cs : Array Value} (h : cs.size = 1) : ∃ u, cs = #[u] := ⟨cs[0], by
  apply Array.ext
  · simp [h]
  · intro i h1 h2
    have : i = 0 := by omega
    subst this; rfl⟩
/-- a number, by value -/
def IsN (T : TypeId) (N : Nat) (v : Value) (w : World) : Prop := ∃ q n c, v = .agg #[.slice q n c] ∧ Ws T w q n c N
def ShN.num (T : TypeId) (N : Nat) (hne : T ≠ X) : ShN B X := ⟨IsN T N, fun _ _ _ ⟨q, n, c, e, h⟩ hb => ⟨q, n, c, e, h.keep hb⟩, fun _ _ _ ⟨q, n, c, e, h⟩ hb => ⟨q, n, c, e, h.step hb hne⟩⟩
def ShpN (T : TypeId) (N : Nat) : Shp := ⟨IsN T N, fun _ _ _ ⟨q, n, c, e, h⟩ hb => ⟨q, n, c, e, h.keep hb⟩⟩
/-- a number, and a code -/
def IsNT (T : TypeId) (N : Nat) (code : Int) (v : Value) (w : World) : Prop := ∃ q n c, v = .tuple #[.agg #[.slice q n c], .int .i64 code] ∧ Ws T w q n c N
def ShN.numT (T : TypeId) (N : Nat) (code : Int) (hne : T ≠ X) : ShN B X := ⟨IsNT T N code, fun _ _ _ ⟨q, n, c, e, h⟩ hb => ⟨q, n, c, e, h.keep hb⟩, fun _ _ _ ⟨q, n, c, e, h⟩ hb => ⟨q, n, c, e, h.step hb hne⟩⟩
/-- a slice of two numbers -/
def IsN2 (X T : TypeId) (M N : Nat) (v : Value) (w : World) : Prop := ∃ g q1 n1 c1 q2 n2 c2, v = .slice (some ⟨g, 0, none⟩) 2 2 ∧ w.heap[g]? = some (.cells #[.slice q1 n1 c1, .slice q2 n2 c2] X (0, 0)) ∧ Ws T w q1 n1 c1 M ∧ Ws T w q2 n2 c2 N
theorem IsN2.sl {T : TypeId} {M N : Nat} {v : Value} {w : World} (h : IsN2 X T M N v w) : ∃ p, v = .slice p 2 2 ∧ Nsl T w p 2 2 [M, N] := by
  obtain ⟨g, q1, n1, c1, q2, n2, c2, e, hg, h1, h2⟩ := h
  exact ⟨_, e, Nsl.two hg h1 h2⟩
def ShN.num2 (T : TypeId) (M N : Nat) (hne : T ≠ X) : ShN B X := ⟨IsN2 X T M N,
  fun _ _ _ ⟨g, q1, n1, c1, q2, n2, c2, e, hg, h1, h2⟩ hb => ⟨g, q1, n1, c1, q2, n2, c2, e, (hb.block _ (lt_of_block hg)).trans hg, h1.keep hb, h2.keep hb⟩,
  fun _ _ _ ⟨g, q1, n1, c1, q2, n2, c2, e, hg, h1, h2⟩ hb => ⟨g, q1, n1, c1, q2, n2, c2, e, (hb.keep _ (lt_of_block hg) (.inr fun cs fr hc => by rw [hg] at hc; cases hc; simp)).trans hg, h1.step hb hne, h2.step hb hne⟩⟩
end
end Go.By
namespace Go.By
/-- of grids of n rows of k bytes, how many have rank r: row by row -/
def cntR (k : Nat) : Nat → Nat → Nat
  | 0, 0 => 1
  | 0, _ + 1 => 0
  | n + 1, 0 => cntR k n 0
  | n + 1, r + 1 => cntR k n (r + 1) * 256 ^ (r + 1) + cntR k n r * (256 ^ k - 256 ^ r)
theorem cnt_zero (k : Nat) : ∀ n, cntR k n 0 = 1
  | 0 => rfl
  | n + 1 => cnt_zero k n
theorem cnt_more (k : Nat) : ∀ n r, n < r → cntR k n r = 0
  | 0, r + 1, _ => rfl
  | n + 1, r + 1, h => by
    show cntR k n (r + 1) * _ + cntR k n r * _ = 0
    rw [cnt_more k n (r + 1) (by omega), cnt_more k n r (by omega), Nat.zero_mul, Nat.zero_mul]
/-- the first m of a sequence, added -/
def sumF (f : Nat → Nat) : Nat → Nat
  | 0 => 0
  | m + 1 => sumF f m + f m
theorem sumF_le {f : Nat → Nat} {m r : Nat} (h : r < m) : f r ≤ sumF f m := by
  induction m with
  | zero => omega
  | succ m ih =>
    show f r ≤ sumF f m + f m
    by_cases e : r = m
    · subst e; omega
    · have := ih (by omega); omega
theorem sumF_mono {f : Nat → Nat} {m j : Nat} (h : m ≤ j) : sumF f m ≤ sumF f j := by
  induction j with
  | zero => have : m = 0 := by omega
            subst this; exact Nat.le_refl _
  | succ j ih =>
    by_cases e : m = j + 1
    · subst e; exact Nat.le_refl _
    · have := ih (by omega)
      show _ ≤ sumF f j + f j
      omega
theorem cnt_part (k n : Nat) : ∀ m, m ≤ k → sumF (cntR k (n + 1)) (m + 1) = sumF (cntR k n) m * 256 ^ k + cntR k n m * 256 ^ m
  | 0, _ => by
    show 0 + cntR k n 0 = 0 * _ + cntR k n 0 * 1
    omega
  | m + 1, h => by
    show sumF (cntR k (n + 1)) (m + 1) + (cntR k n (m + 1) * 256 ^ (m + 1) + cntR k n m * (256 ^ k - 256 ^ m)) = (sumF (cntR k n) m + cntR k n m) * 256 ^ k + _
    rw [cnt_part k n m (by omega)]
    have hp : (256 : Nat) ^ m ≤ 256 ^ k := Nat.pow_le_pow_right (by decide) (by omega)
    obtain ⟨d, hd⟩ : ∃ d, (256 : Nat) ^ k = 256 ^ m + d := ⟨256 ^ k - 256 ^ m, by omega⟩
    rw [hd, Nat.add_sub_cancel_left]
    generalize (256 : Nat) ^ m = q
    generalize (256 : Nat) ^ (m + 1) = q2
    grind
/-- grids of all ranks are all -/
theorem cnt_sum (k : Nat) : ∀ n, sumF (cntR k n) (k + 1) = 256 ^ (n * k)
  | 0 => by
    have : ∀ m, sumF (cntR k 0) (m + 1) = 1 := by
      intro m
      induction m with
      | zero => rfl
      | succ m ih => show sumF (cntR k 0) (m + 1) + 0 = 1; rw [ih]
    rw [this, Nat.zero_mul, Nat.pow_zero]
  | n + 1 => by
    rw [cnt_part k n k (Nat.le_refl _), Nat.succ_mul, Nat.pow_add, ← cnt_sum k n]
    show _ = (sumF (cntR k n) k + cntR k n k) * _
    rw [Nat.add_mul]
theorem cntR_le {k n r : Nat} (h : r ≤ k) : cntR k n r ≤ 256 ^ (n * k) := by
  rw [← cnt_sum k n]; exact sumF_le (by omega)
/-- the product of 256^m - 256^i, for the first r -/
def prI (m : Nat) : Nat → Int
  | 0 => 1
  | r + 1 => prI m r * ((256 : Int) ^ m - 256 ^ r)
theorem prI_zero {m : Nat} : ∀ {r}, m < r → prI m r = 0
  | r + 1, h => by
    show prI m r * _ = 0
    by_cases e : m = r
    · subst e; rw [Int.sub_self, Int.mul_zero]
    · rw [prI_zero (show m < r by omega), Int.zero_mul]
theorem prI_up (m : Nat) : ∀ r, prI (m + 1) (r + 1) = ((256 : Int) ^ (m + 1) - 1) * 256 ^ r * prI m r
  | 0 => by
    show 1 * ((256 : Int) ^ (m + 1) - 256 ^ 0) = (256 ^ (m + 1) - 1) * 256 ^ 0 * 1
    grind
  | r + 1 => by
    have ih := prI_up m r
    show prI (m + 1) (r + 1) * ((256 : Int) ^ (m + 1) - 256 ^ (r + 1)) = _ * _ * (prI m r * ((256 : Int) ^ m - 256 ^ r))
    rw [ih, Int.pow_succ, Int.pow_succ]
    grind
theorem prI_pos {m : Nat} : ∀ {r}, r ≤ m → 0 < prI m r
  | 0, _ => by show (0 : Int) < 1; decide
  | r + 1, h => by
    refine Int.mul_pos (prI_pos (by omega)) ?_
    have h2 : ((256 ^ r : Nat) : Int) < ((256 ^ m : Nat) : Int) := Int.ofNat_lt.2 (Nat.pow_lt_pow_right (by decide) (show r < m by omega))
    rw [Int.natCast_pow, Int.natCast_pow] at h2
    have h3 : (256 : Int) ^ r < 256 ^ m := h2
    generalize (256 : Int) ^ r = a at *
    generalize (256 : Int) ^ m = b at *
    omega
theorem cnt_pr (k : Nat) : ∀ n r, r ≤ k → (cntR k n r : Int) * prI r r = prI n r * prI k r
  | 0, 0, _ => rfl
  | 0, r + 1, _ => by rw [prI_zero (show 0 < r + 1 by omega)]; show ((0 : Nat) : Int) * _ = _; simp
  | n + 1, 0, _ => by rw [cnt_zero]; rfl
  | n + 1, r + 1, h => by
    have i1 := cnt_pr k n (r + 1) h
    have i2 := cnt_pr k n r (by omega)
    have hp : (256 : Nat) ^ r ≤ 256 ^ k := Nat.pow_le_pow_right (by decide) (by omega)
    have e : ((cntR k (n + 1) (r + 1) : Nat) : Int) = (cntR k n (r + 1) : Int) * 256 ^ (r + 1) + (cntR k n r : Int) * ((256 : Int) ^ k - 256 ^ r) := by
      show ((cntR k n (r + 1) * 256 ^ (r + 1) + cntR k n r * (256 ^ k - 256 ^ r) : Nat) : Int) = _
      rw [Int.natCast_add, Int.natCast_mul, Int.natCast_mul, Int.ofNat_sub hp, Int.natCast_pow, Int.natCast_pow, Int.natCast_pow]; rfl
    have u1 : prI (r + 1) (r + 1) = ((256 : Int) ^ (r + 1) - 1) * 256 ^ r * prI r r := prI_up r r
    have u2 : prI (n + 1) (r + 1) = ((256 : Int) ^ (n + 1) - 1) * 256 ^ r * prI n r := prI_up n r
    have u3 : prI n (r + 1) = prI n r * ((256 : Int) ^ n - 256 ^ r) := rfl
    have u4 : prI k (r + 1) = prI k r * ((256 : Int) ^ k - 256 ^ r) := rfl
    rw [e, u2, u4]
    rw [u3, u4] at i1
    rw [u1] at i1 ⊢
    rw [Int.pow_succ] at i1 ⊢
    rw [Int.pow_succ]
    generalize prI r r = A at *
    generalize prI n r = B at *
    generalize prI k r = D at *
    generalize (256 : Int) ^ r = q at *
    generalize (256 : Int) ^ n = N at *
    generalize (256 : Int) ^ k = Kq at *
    generalize (cntR k n (r + 1) : Int) = c1 at *
    generalize (cntR k n r : Int) = c0 at *
    have h2 : c0 * A * ((Kq - q) * ((q * 256 - 1) * q)) = B * D * ((Kq - q) * ((q * 256 - 1) * q)) := by rw [i2]
    grind
/-- full ones: 256^n - 256^i, for each column -/
def fullN (n : Nat) : Nat → Nat
  | 0 => 1
  | r + 1 => fullN n r * (256 ^ n - 256 ^ r)
theorem fullN_pr {n : Nat} : ∀ {r}, r ≤ n → (fullN n r : Int) = prI n r
  | 0, _ => rfl
  | r + 1, h => by
    have hp : (256 : Nat) ^ r ≤ 256 ^ n := Nat.pow_le_pow_right (by decide) (by omega)
    show ((fullN n r * (256 ^ n - 256 ^ r) : Nat) : Int) = prI n r * _
    rw [Int.natCast_mul, fullN_pr (show r ≤ n by omega), Int.ofNat_sub hp, Int.natCast_pow, Int.natCast_pow]; rfl
theorem cnt_full {n k : Nat} (h : k ≤ n) : cntR k n k = fullN n k := by
  have e := cnt_pr k n k (Nat.le_refl _)
  rw [← fullN_pr h] at e
  have hp := prI_pos (Nat.le_refl k)
  have := Int.eq_of_mul_eq_mul_right (by omega) e
  exact_mod_cast this
/-- those that fail -/
theorem cnt_fails {n k : Nat} : sumF (cntR k n) k = 256 ^ (n * k) - (if k ≤ n then fullN n k else 0) := by
  have h := cnt_sum k n
  have h : sumF (cntR k n) k + cntR k n k = 256 ^ (n * k) := h
  by_cases hk : k ≤ n
  · rw [if_pos hk, ← cnt_full hk]; omega
  · rw [if_neg hk]; rw [cnt_more k n k (by omega)] at h; omega
/-- those that a further row leaves as they are -/
theorem cnt_stay (k n : Nat) : ∀ r, cntR k n r * 256 ^ r ≤ cntR k (n + 1) r
  | 0 => by rw [cnt_zero, cnt_zero]; decide
  | r + 1 => Nat.le_add_right _ _
end Go.By
namespace Go.By
open Go.RowKit
/-- a block holds this -/
def BlkIs (b : Nat) (o : Obj) (W : World) : Prop := W.heap[b]? = some o
theorem BlkIs.keep {b : Nat} {o : Obj} {W W' : World} (h : BlkIs b o W) (hb : Below W.heap.size W W') : BlkIs b o W' := (hb.block _ (blk_lt h)).trans h
structure Bel (w0 W : World) : Prop where
  out : Below w0.heap.size w0 W
theorem Bel.keep {w0 W W' : World} (h : Bel w0 W) (hb : Below W.heap.size W W') : Bel w0 W' := ⟨bl h.out hb h.out.size⟩
/-- a number is what a function gives: its cell is written last -/
theorem ret_num {T U : TypeId} {w0 w : World} {q : Option Addr} {n c N g : Nat} {u : Value} (K : w.heap[g]? = some (.cells #[u] T (0, 0))) (hg : w0.heap.size ≤ g) (hB : Below w0.heap.size w0 w) (hw : Ws U w q n c N) (hne : T ≠ U) :
    Ws U (w.setCell ⟨g, 0, none⟩ (.slice q n c)) q n c N ∧ Below w0.heap.size w0 (w.setCell ⟨g, 0, none⟩ (.slice q n c)) ∧ (w.setCell ⟨g, 0, none⟩ (.slice q n c)).heap[g]? = some (.cells #[.slice q n c] T (0, 0)) :=
  ⟨hw.set K hne, hB.setCell hg _, hss K⟩
end Go.By
namespace Go.Proofs.YtbfmdfbnhakolaaDoor
open Go.RowKit Go.By
theorem Of_k (k : Nat) (hk : k < 18446744073709551616) (W : World) : Calls Tryd.prog 10 #[.int .u64 k] W (RetN1 34 W k) := by
  have := OfN_any (UInt64.ofNat k) W
  have e : (UInt64.ofNat k).toNat = k := by simp; omega
  rwa [e, show W64 (UInt64.ofNat k) = .int .u64 k by unfold W64; rw [e]] at this
theorem pow256 {j : Nat} (h : j ≤ 4095) : 256 ^ j < capN := lt_cap (k := j + 1) (Nat.pow_lt_pow_right (by decide) (by omega)) (by omega)
end Go.Proofs.YtbfmdfbnhakolaaDoor
namespace Go.Proofs.YtbfmdfbnhakolaaDoor
open Go.RowKit Go.By
/-- where the first i rows first clash -/
def clashI (D : List Rw) : Nat → Int
  | 0 => -1
  | i + 1 => match D[i]? with
    | some x => if clashB (kD (D.take i)) x = true ∧ clashI D i < 0 then (i : Int) else clashI D i
    | none => clashI D i
theorem clashI_step {D : List Rw} {i : Nat} {x : Rw} (h : D[i]? = some x) : clashI D (i + 1) = if clashB (kD (D.take i)) x = true ∧ clashI D i < 0 then (i : Int) else clashI D i := by
  show (match D[i]? with | some x => _ | none => _) = _
  rw [h]
theorem clashI_range (D : List Rw) : ∀ i, -1 ≤ clashI D i ∧ clashI D i < i
  | 0 => by show -1 ≤ (-1 : Int) ∧ (-1 : Int) < _; omega
  | i + 1 => by
    have ih := clashI_range D i
    show -1 ≤ (match D[i]? with | some x => _ | none => _) ∧ (match D[i]? with | some x => _ | none => _) < _
    split
    · split <;> omega
    · omega
/-- a verdict, and a code -/
def RetVd (w : World) (r c code : Int) (e : Ending) (w' : World) : Prop := e = .returned (.tuple #[.agg #[.int .i64 r, .int .i64 c], .int .i64 code]) ∧ Below w.heap.size w w'
theorem info_verdict : (Tryd.prog.info? 48).map (·.size) = some 2 := by kernel_rfl
set_option maxRecDepth 100000 in
set_option maxHeartbeats 1000000 in
theorem Judge_bad (k t : Int) (p : Option Addr) (m c : Nat) (w : World) (h : k < 1 ∨ 4096 < k ∨ t < 0 ∨ 65535 < t) : Calls Tryd.prog 20 #[.int .i64 k, .int .i64 t, .slice p m c] w (RetVd w 0 0 2) := by
  have hinfo := info_verdict
  have hN : Hid (∀ W, Calls Tryd.prog 41 #[.int .i64 k, .int .i64 t] W fun e w' => e = .returned (.tuple #[.pointer none, .int .i64 2]) ∧ W = w') := fun W => New_bad k t W h
  clear h
  go_enter Tryd.func20, Tryd.ntmps20
  go_wp2_with fail
  refine Calls.mono (hN.out _) ?_
  rintro e w' ⟨rfl, rfl⟩
  go_wp2
  exact bodyPost_ret (res_cell_tmp rfl _ _ _ 48 #[.int .i64 0, .int .i64 0] (0, 0) _ (.int .i64 2) rfl (hnew rfl) rfl Tryd.underlying48 rfl hinfo) rfl ⟨rfl, ba1 _ _⟩
theorem sys_len {k t : Nat} {X K : List Rw} (h : Sys k t (kD X) K) : K.length = (kD X).length := (sys_rank h).trans (vecs_rank X)
theorem sys_clash {k t : Nat} {X K : List Rw} {x : Rw} (h : Sys k t (kD X) K) (hx : Fit k t x) : clashB (kD X) x = clashB K x := by
  unfold clashB; rw [h.rest hx]
end Go.Proofs.YtbfmdfbnhakolaaDoor
namespace Go.Proofs.YtbfmdfbnhakolaaDoor
open Go.RowKit Go.By
end Go.Proofs.YtbfmdfbnhakolaaDoor
namespace Go.Proofs.YtbfmdfbnhakolaaDoor
open Go.RowKit Go.By
set_option maxRecDepth 100000 in
set_option maxHeartbeats 1000000 in
theorem fits_yes (n k : Nat) (hn : n ≤ 20) (hk1 : 1 ≤ k) (hk : k ≤ 20) (w : World) : Calls Tryd.prog 34 #[.int .i64 n, .int .i64 k] w fun e w' => e = .returned (.bool true) ∧ w = w' := by
  obtain ⟨P, hP⟩ : ∃ P, P = n * k := ⟨_, rfl⟩
  have hPb : P ≤ 400 := by rw [hP]; exact Nat.mul_le_mul hn hk
  have wm : IntKind.i64.wrap ((n : Int) * (k : Int)) = (P : Int) := by rw [hP, ← Int.natCast_mul]; exact Go.IntWalk.i64_in _ (by omega)
  have h1 : (1 : Int) ≤ (k : Int) := by omega
  have h2 : (n : Int) ≤ 4096 := by omega
  have h3 : (k : Int) ≤ 4096 := by omega
  have h4 : (P : Int) < 4096 := by omega
  clear hP hPb hn hk1 hk
  go_enter Tryd.func34, Tryd.ntmps34
  go_wp2
  go_ret
  exact ⟨rfl, rfl⟩
/-- two boxes: the first is read behind the second -/
theorem box_keep {w : World} {b : Nat} {o o2 : Obj} (h : w.heap[b]? = some o) : (w.alloc o2).heap[b]? = some o := hal h
end Go.Proofs.YtbfmdfbnhakolaaDoor
namespace Go.By
open Go.RowKit
theorem fullN_le (n : Nat) : ∀ r, fullN n r ≤ 256 ^ (n * r)
  | 0 => by rw [Nat.mul_zero]; exact Nat.le_refl _
  | r + 1 => by
    rw [Nat.mul_succ, Nat.pow_add]
    exact Nat.mul_le_mul (fullN_le n r) (Nat.sub_le _ _)
/-- how many are full -/
def fullC (n k : Nat) : Nat := if k ≤ n then fullN n k else 0
theorem fullC_le (n k : Nat) : fullC n k ≤ 256 ^ (n * k) := by
  unfold fullC
  split
  · exact fullN_le n k
  · exact Nat.zero_le _
/-- a box's number is turned -/
theorem NBox.set {T U : TypeId} {w : World} {b M N : Nat} {q : Option Addr} {n c : Nat} (h : NBox T U w b M) (hw : Ws U w q n c N) (hne : T ≠ U) : NBox T U (w.setCell ⟨b, 0, none⟩ (.slice q n c)) b N := by
  obtain ⟨q1, n1, c1, k, _⟩ := h
  exact ⟨q, n, c, hss k, hw.set k hne⟩
theorem NBox.other {T U : TypeId} {w : World} {b b2 N : Nat} {v u : Value} (h : NBox T U w b N) (k2 : w.heap[b2]? = some (.cells #[u] T (0, 0))) (hb : b ≠ b2) (hne : T ≠ U) : NBox T U (w.setCell ⟨b2, 0, none⟩ v) b N := by
  obtain ⟨q1, n1, c1, k, hw⟩ := h
  exact ⟨q1, n1, c1, hsc k hb, hw.set k2 hne⟩
end Go.By
namespace Go.Proofs.YtbfmdfbnhakolaaDoor
open Go.RowKit Go.By
set_option maxRecDepth 100000 in
set_option maxHeartbeats 1000000 in
theorem Full_less (n k : Nat) (hn : n ≤ 20) (hk : k ≤ 20) (hlt : n < k) (w : World) : Calls Tryd.prog 38 #[.int .i64 n, .int .i64 k] w (RetN 34 w 0) := by
  have hinfo := info_nat
  have HF : Hid (∀ W, Calls Tryd.prog 34 #[.int .i64 n, .int .i64 k] W fun e w' => e = .returned (.bool true) ∧ W = w') := fun W => fits_yes n k hn (by omega) hk W
  have h1 : (n : Int) < (k : Int) := by omega
  clear hlt
  go_enter Tryd.func38, Tryd.ntmps38
  go_wp2_with fail
  refine Calls.mono (HF.out _) ?_
  rintro e w' ⟨rfl, rfl⟩
  go_wp2_with fail
  refine Calls.mono (Of_k 0 (by decide) _) ?_
  rintro e w2 ⟨q2, m2, d2, rfl, hw, hb⟩
  have K2 : w2.heap[w.heap.size]? = some (.cells #[.slice none 0 0] 29 (0, 0)) := (hb.block _ (by simp)).trans (hnew rfl)
  have R := Lib.hid (ret_num K2 (Nat.le_refl _) ((Bel.mk (ba1 w _)).keep hb).out hw (by decide))
  obtain ⟨_, a1, a2, a3, a4⟩ := One.of K2
  clear hw hb K2
  go_wp2
  exact bodyPost_ret (res_cell_tmp rfl _ _ _ 29 #[.slice q2 m2 d2] (0, 0) _ (.int .i64 0) rfl R.out.2.2 rfl Tryd.underlying29 rfl hinfo) rfl ⟨_, _, _, rfl, R.out.1, R.out.2.1⟩
end Go.Proofs.YtbfmdfbnhakolaaDoor
namespace Go.Proofs.YtbfmdfbnhakolaaDoor
open Go.RowKit Go.By
set_option maxRecDepth 100000 in
set_option maxHeartbeats 1000000 in
theorem Count_err (k t : Int) (p : Option Addr) (m c : Nat) (code : Int) (w : World) (hc : 0 < code) (hJ : ∀ W, Below w.heap.size w W → Calls Tryd.prog 20 #[.int .i64 k, .int .i64 t, .slice p m c] W (RetVd W 0 0 code)) : Calls Tryd.prog 21 #[.int .i64 k, .int .i64 t, .slice p m c] w (Ret0 w code) := by
  have hinfo := info_nat
  have HJ := Lib.hid hJ
  have hc2 : (code != 0) = true := by simp; omega
  have hc3 : ¬ code = 0 := by omega
  clear hJ hc
  go_enter Tryd.func21, Tryd.ntmps21
  go_wp2_with fail
  refine Calls.mono (HJ.out _ (ba1 w _)) ?_
  rintro e w1 ⟨rfl, hb⟩
  have K1 := BlkIs.keep (hnew (w := w) (o := .cells #[.slice none 0 0] 29) rfl) hb
  have B1 := Lib.hid (bl (ba1 w _) hb (ba1 w _).size)
  have HK := Lib.hid K1
  obtain ⟨_, a1, a2, a3, a4⟩ := One.of K1
  clear hb K1
  go_wp2
  exact bodyPost_ret (res_cell_tmp rfl _ _ _ 29 #[.slice none 0 0] (0, 0) _ (.int .i64 code) rfl (hss (hal HK.out)) rfl Tryd.underlying29 rfl hinfo) rfl ⟨rfl, (al B1.out B1.out.size).setCell (Nat.le_refl _) _⟩
set_option maxRecDepth 100000 in
set_option maxHeartbeats 1000000 in
theorem Count_clash (k t : Int) (p : Option Addr) (m c : Nat) (r : Nat) (cl : Int) (w : World) (hc : 0 ≤ cl) (hJ : ∀ W, Below w.heap.size w W → Calls Tryd.prog 20 #[.int .i64 k, .int .i64 t, .slice p m c] W (RetVd W r cl 0)) : Calls Tryd.prog 21 #[.int .i64 k, .int .i64 t, .slice p m c] w (RetN 34 w 0) := by
  have hinfo := info_nat
  have HJ := Lib.hid hJ
  clear hJ
  go_enter Tryd.func21, Tryd.ntmps21
  go_wp2_with fail
  refine Calls.mono (HJ.out _ (ba1 w _)) ?_
  rintro e w1 ⟨rfl, hb⟩
  have K1 := BlkIs.keep (hnew (w := w) (o := .cells #[.slice none 0 0] 29) rfl) hb
  have B1 := Lib.hid (bl (ba1 w _) hb (ba1 w _).size)
  have HK := Lib.hid K1
  obtain ⟨_, a1, a2, a3, a4⟩ := One.of K1
  clear hb K1
  go_wp2
  exact bodyPost_ret (res_cell_tmp rfl _ _ _ 29 #[.slice none 0 0] (0, 0) _ (.int .i64 0) rfl (hss (hal HK.out)) rfl Tryd.underlying29 rfl hinfo) rfl ⟨_, _, _, rfl, Ws.zero _ _, (al B1.out B1.out.size).setCell (Nat.le_refl _) _⟩
end Go.Proofs.YtbfmdfbnhakolaaDoor
namespace Go.By
open Go.RowKit
/-- a slice value that owns a row of byte slices, which read in an older world -/
def OwnH (T2 : TypeId) (w0 w : World) (base : Nat) (v : Value) (n : Nat) (xss : List (List UInt8)) : Prop :=
  ∃ vs : List Value, w.ownsRow base T2 1 v n vs ∧ xss.length = n ∧ ∀ (j : Nat) (val : Value), vs[j]? = some val → ∃ xs q c', xss[j]? = some xs ∧ val = Value.slice q xs.length c' ∧ Sl B8 w0 q xs.length c' xs
theorem OwnH.nil (T2 : TypeId) (w0 w : World) (base : Nat) : OwnH T2 w0 w base (.slice none 0 0) 0 [] := ⟨[], World.ownsRow_nil _ _ _ _, rfl, fun j val h => by simp at h⟩
theorem OwnH.sl2 {T2 : TypeId} {w0 w : World} {base n c : Nat} {p : Option Addr} {xss : List (List UInt8)} (h : OwnH T2 w0 w base (.slice p n c) n xss) (hb : Below w0.heap.size w0 w) : Sl2 w p n c xss := by
  obtain ⟨vs, h1, h2, h3⟩ := h
  have hs : Sl id w p n c vs := Sl.of_owns (by rw [List.map_id]; exact h1)
  refine ⟨h2, hs.le, hs.max, hs.nil, ?_⟩
  intro i xs hi
  have hlt : i < vs.length := by
    have := (List.getElem?_eq_some_iff.1 hi).1
    rw [hs.len]; omega
  obtain ⟨b, o, hp, hc⟩ := hs.rs i hlt
  obtain ⟨xs', q, c', a1, a2, a3⟩ := h3 i _ (List.getElem?_eq_getElem hlt)
  have e := hi.symm.trans a1
  cases e
  exact ⟨b, o, q, c', hp, by rw [hc, id, a2], a3.keep hb⟩
theorem OwnH.push {T2 : TypeId} {w0 w' : World} {base n : Nat} {vs : List Value} {v' : Value} {q : Option Addr} {m c : Nat} {xs : List UInt8} {xss : List (List UInt8)} (hvl : vs.length = n) (h2 : xss.length = n)
    (h3 : ∀ (j : Nat) (val : Value), vs[j]? = some val → ∃ xs q c', xss[j]? = some xs ∧ val = Value.slice q xs.length c' ∧ Sl B8 w0 q xs.length c' xs)
    (hr : Sl B8 w0 q m c xs) (ho : w'.ownsRow base T2 1 v' (n + 1) (vs ++ [.slice q m c])) : OwnH T2 w0 w' base v' (n + 1) (xss ++ [xs]) := by
  have hml : m = xs.length := hr.len.symm
  refine ⟨_, ho, by simp [h2], ?_⟩
  intro j val hj
  by_cases hjn : j < n
  · rw [List.getElem?_append_left (by omega)] at hj
    obtain ⟨ys, q', c', a, b, d⟩ := h3 j val hj
    exact ⟨ys, q', c', by rw [List.getElem?_append_left (by omega)]; exact a, b, d⟩
  · rw [List.getElem?_append_right (by omega)] at hj
    have hj0 : j = n := by
      have := (List.getElem?_eq_some_iff.1 hj).1
      simp at this; omega
    subst hj0
    rw [hvl] at hj
    simp at hj
    subst hj
    exact ⟨xs, q, c, by rw [List.getElem?_append_right (by omega), h2]; simp, by rw [hml], by rw [← hml]; exact hr⟩
end Go.By
namespace Go.Proofs.YtbfmdfbnhakolaaDoor
open Go.RowKit Go.By
theorem vecsL_take {D : List Rw} {j : Nat} {x : Rw} (h : D[j]? = some x) : vecsL (D.take (j + 1)) = vecsL (D.take j) ++ [x.1] := by
  unfold vecsL; rw [List.take_add_one, h, List.map_append]; rfl
set_option maxRecDepth 100000 in
set_option maxHeartbeats 4000000 in
theorem RVectors_any (p : Option Addr) (m c : Nat) (D : List Rw) (w : World) (h : RwS w p m c D) (hm : m ≤ 65536) :
    Calls Tryd.prog 46 #[.slice p m c] w fun e w' => ∃ q c', e = .returned (.slice q m c') ∧ Sl2 w' q m c' (vecsL D) ∧ Below w.heap.size w w' := by
  obtain ⟨r0, hr0, hrz, hr1, hr2⟩ := info_parts info_rows
  have H := Lib.hid h; have HLEN := Lib.hid h.len
  clear h
  go_enter Tryd.func46, Tryd.ntmps46
  go_wp2
  go_loopw [3, 8] (fun o i wr => ∃ (k : Nat) (qo : Option Addr) (co : Nat), k ≤ m ∧ i = .int .i64 k ∧ o = .slice qo k co ∧ Hid (OwnH 24 w wr w.heap.size (.slice qo k co) k (vecsL (D.take k))) ∧ Hid (Below w.heap.size w wr)) (fun _ i _ => m - (intOf i).toNat)
  case atStart => exact ⟨0, none, 0, Nat.zero_le _, rfl, rfl, by show OwnH _ _ _ _ _ _ (vecsL (D.take 0)); rw [List.take_zero]; exact OwnH.nil _ _ _ _, Below.refl _ _⟩
  case round =>
    obtain ⟨k, qo, co, hk, rfl, rfl, hO, hB⟩ := hrel
    by_cases hlt : k < m
    · have kn : (k : Int) < (m : Int) := by omega
      obtain ⟨x, hx⟩ : ∃ x, D[k]? = some x := ⟨_, List.getElem?_eq_getElem (by rw [HLEN.out]; exact hlt)⟩
      obtain ⟨b, o, q1, m1, c1, q2, m2, c2, rfl, d1, d2, s1, s2⟩ := H.out.row k x hx
      have D1 := (hB.out.cell (p := ⟨b, o + k * 2, none⟩) (lt_of_cell d1)).trans d1
      have D2 := (hB.out.cell (p := ⟨b, o + k * 2 + 1, none⟩) (lt_of_cell d2)).trans d2
      have S1 := Lib.hid s1
      have HX := Lib.hid hx
      have hsz := hB.out.size
      obtain ⟨vs, oA, lA, rA⟩ := hO.out
      have OA := Lib.hid oA; have LA := Lib.hid lA; have RA := Lib.hid rA
      have hvl : Hid (vs.length = k) := by show _ = _; have := oA.1; simpa using this
      have hO2 : Hid (∀ o1 o2, ((wr.alloc o1).alloc o2).ownsRow w.heap.size 24 1 (.slice qo k co) k vs) := fun o1 o2 => owns_keep OA.out (bl (al (Below.refl _ _) (Nat.le_refl _)) (al (Below.refl _ _) (Nat.le_refl _)) (by simp))
      clear d1 d2 s1 s2 hx oA lA rA hO
      go_wp2_with (at_builtin; refine wpList_append_own _ rfl _ _ 25 rfl w.heap.size 24 r0 (.slice none 0 0) 1 24 Tryd.underlying25 hr0 hrz hr1 hr2 rfl (by omega) _ k _ rfl (hO2.out _ _) ⟨wr.heap.size + 1, 0, none⟩ 1 1 [.slice q1 m1 c1] rfl rfl (one_cell' (by simp)) ?d2 ?d3 ?d4 ?d5 ?_)
      case d2 => intro y hy; simp at hy; subst hy; rfl
      case d3 => unfold maxLen; omega
      case d4 => omega
      case d5 => simp; omega
      intro v6 w6 ho6 hg6 _
      obtain ⟨q6, c6, rfl⟩ := owns_shape ho6
      have P6 : Hid (OwnH 24 w w6 w.heap.size (.slice q6 (k + 1) c6) (k + 1) (vecsL (D.take (k + 1))) ∧ Below w.heap.size w w6) := by
        refine ⟨?_, (al (al hB.out hsz) (by simp; omega)).grown hg6 (by simp; omega) (fun kk hk => (OA.out.lt kk hk).1)⟩
        rw [vecsL_take HX.out]
        exact OwnH.push hvl.out LA.out RA.out S1.out ho6
      clear ho6 hg6 hO2 OA LA RA hvl hsz D1 D2 S1 hB
      go_wp2
      go_roundw
      case rel => exact ⟨k + 1, q6, c6, by omega, by go_num, rfl, P6.out.1, P6.out.2⟩
      case measure => simp [intOf]; omega
    · have hkw : k = m := by omega
      subst hkw
      have OF : Hid (Sl2 wr qo k co (vecsL D)) := by
        have := hO.out.sl2 hB.out
        rwa [List.take_of_length_le (by rw [HLEN.out]; exact Nat.le_refl _)] at this
      have BF := Lib.hid hB.out
      clear hO hB
      go_wp2
      go_ret
      exact ⟨qo, co, rfl, OF.out, BF.out⟩
end Go.Proofs.YtbfmdfbnhakolaaDoor
namespace Go.Proofs.YtbfmdfbnhakolaaDoor
open Go.RowKit Go.By
theorem widesL_take {D : List Rw} {j : Nat} {x : Rw} (h : D[j]? = some x) : widesL (D.take (j + 1)) = widesL (D.take j) ++ [cat x] := by
  unfold widesL; rw [List.take_add_one, h, List.map_append]; rfl
set_option maxRecDepth 100000 in
set_option maxHeartbeats 4000000 in
theorem RWide_any (k0 t0 : Nat) (p : Option Addr) (m c : Nat) (D : List Rw) (w : World) (h : RwS w p m c D) (hm : m ≤ 65536) (hD : ∀ x, x ∈ D → Fit k0 t0 x) (hk0 : k0 ≤ 65536) (ht0 : t0 ≤ 65536) :
    Calls Tryd.prog 47 #[.slice p m c] w fun e w' => ∃ q c', e = .returned (.slice q m c') ∧ Sl2 w' q m c' (widesL D) ∧ Below w.heap.size w w' := by
  obtain ⟨r0, hr0, hrz, hr1, hr2⟩ := info_parts info_rows
  obtain ⟨i0, hi0, hz0, hz1, hz2⟩ := info_parts info_u8
  have H := Lib.hid h; have HLEN := Lib.hid h.len; have HD := Lib.hid hD
  clear h hD
  go_enter Tryd.func47, Tryd.ntmps47
  go_wp2
  go_loopw [3, 9] (fun o i wr => ∃ (k : Nat) (qo : Option Addr) (co : Nat), k ≤ m ∧ i = .int .i64 k ∧ o = .slice qo k co ∧ Hid (Own2 24 5 wr w.heap.size (.slice qo k co) k (widesL (D.take k))) ∧ Hid (Below w.heap.size w wr)) (fun _ i _ => m - (intOf i).toNat)
  case atStart => exact ⟨0, none, 0, Nat.zero_le _, rfl, rfl, by show Own2 _ _ _ _ _ _ (widesL (D.take 0)); rw [List.take_zero]; exact Own2.nil _ _ _ _, Below.refl _ _⟩
  case round =>
    obtain ⟨k, qo, co, hk, rfl, rfl, hO, hB⟩ := hrel
    by_cases hlt : k < m
    · have kn : (k : Int) < (m : Int) := by omega
      obtain ⟨x, hx⟩ : ∃ x, D[k]? = some x := ⟨_, List.getElem?_eq_getElem (by rw [HLEN.out]; exact hlt)⟩
      have hfit := HD.out x (List.mem_of_getElem? hx)
      obtain ⟨b, o, q1, m1, c1, q2, m2, c2, rfl, d1, d2, s1, s2⟩ := H.out.row k x hx
      obtain rfl : k0 = m1 := by rw [← s1.len]; exact hfit.1.symm
      obtain rfl : t0 = m2 := by rw [← s2.len]; exact hfit.2.symm
      have D1 := (hB.out.cell (p := ⟨b, o + k * 2, none⟩) (lt_of_cell d1)).trans d1
      have D2 := (hB.out.cell (p := ⟨b, o + k * 2 + 1, none⟩) (lt_of_cell d2)).trans d2
      have S1 := Lib.hid (s1.keep hB.out); have S2 := Lib.hid (s2.keep hB.out)
      have HX := Lib.hid hx
      have hsz := hB.out.size
      obtain ⟨W1, hW1⟩ : ∃ W1, W1 = wr.alloc (.cells #[.slice q1 k0 c1, .slice q2 t0 c2] 71) := ⟨_, rfl⟩
      have hb1 : Below wr.heap.size wr W1 := by rw [hW1]; exact al (Below.refl _ _) (Nat.le_refl _)
      have hs1 : W1.heap.size = wr.heap.size + 1 := by rw [hW1]; simp
      have HB1 := Lib.hid hb1
      have HS1 := Lib.hid hs1
      have z1 : W1.cell? ⟨wr.heap.size, 1, none⟩ = some (.slice q2 t0 c2) := by rw [hW1]; exact cell_of_row _ _ 1 _ _ _ (hnew rfl)
      have Z1 := Lib.hid z1
      have HW1 := Lib.hid hW1
      clear d1 d2 s1 s2 hx hb1 hs1 z1 hW1 hfit
      go_wp2_with (at_builtin; refine wpList_append_rs _ rfl _ _ 24 rfl W1.heap.size 5 i0 (.int .u8 0) 1 Tryd.underlying24 hi0 hz0 hz1 hz2 rfl _ 0 [] rfl (World.ownsRow_nil _ _ _ _) B8 _ _ _ x.1 (fun _ _ => rfl) rfl (S1.out.keep (al (Below.refl _ _) (Nat.le_refl _))) ?a1 ?a2 ?a3 ?_)
      case a1 => unfold maxLen; omega
      case a2 => omega
      case a3 => rw [HS1.out]; simp
      rw [← HW1.out]
      intro v5 w5 ho5 hg5
      obtain ⟨q5, c5, rfl⟩ := owns_shape ho5
      have b5 : Below W1.heap.size W1 w5 := (Below.refl _ _).grown hg5 (Nat.le_refl _) (by simp [Value.ownBlock])
      have BB5 := Lib.hid b5
      have O5 : Hid (w5.ownsRow W1.heap.size 5 1 (.slice q5 k0 c5) k0 (x.1.map B8)) := by
        show World.ownsRow _ _ _ _ _ _ _
        simpa using ho5
      have z5 : w5.cell? ⟨wr.heap.size, 1, none⟩ = some (.slice q2 t0 c2) := (b5.cell (p := ⟨wr.heap.size, 1, none⟩) (by rw [HS1.out]; simp)).trans Z1.out
      have hs5 := b5.size
      have S25 := Lib.hid ((S2.out.keep HB1.out).keep b5)
      clear ho5 hg5 b5
      go_wp2_with (at_builtin; refine wpList_append_rs _ rfl _ _ 24 rfl W1.heap.size 5 i0 (.int .u8 0) 1 Tryd.underlying24 hi0 hz0 hz1 hz2 rfl _ k0 (x.1.map B8) rfl O5.out B8 _ _ _ x.2 (fun _ _ => rfl) rfl S25.out ?b1 ?b2 ?b3 ?_)
      case b1 => unfold maxLen; omega
      case b2 => omega
      case b3 => exact hs5
      intro v6 w6 ho6 hg6
      obtain ⟨q6, c6, rfl⟩ := owns_shape ho6
      have b6 : Below W1.heap.size w5 w6 := (Below.refl _ _).grown hg6 hs5 (fun kk hk => (O5.out.lt kk hk).1)
      have hle : wr.heap.size ≤ W1.heap.size := by rw [HS1.out]; omega
      have B6 : Hid (Below wr.heap.size wr w6) := bl HB1.out (BB5.out.trans b6) hle
      have O6 : Hid (w6.ownsRow w.heap.size 5 1 (.slice q6 (k0 + t0) c6) (k0 + t0) ((cat x).map B8)) := by
        show World.ownsRow _ _ _ _ _ _ _
        have : (cat x).map B8 = x.1.map B8 ++ x.2.map B8 := by unfold cat; rw [List.map_append]
        rw [this]
        exact owns_mono ho6 (Nat.le_trans hsz hle)
      have hs6 := B6.out.size
      have OQ : Hid (Own2 24 5 w6 w.heap.size (.slice qo k co) k (widesL (D.take k))) := hO.out.keep B6.out
      obtain ⟨vs, oA, lA, rA⟩ := OQ.out
      have OA := Lib.hid oA; have LA := Lib.hid lA; have RA := Lib.hid rA
      have bal : ∀ (W : World) (o : Obj), Below W.heap.size W (W.alloc o) := fun W o => al (Below.refl _ _) (Nat.le_refl _)
      have hO2 : Hid (∀ o, (w6.alloc o).ownsRow w.heap.size 24 1 (.slice qo k co) k vs) := fun o => owns_keep OA.out (bal _ _)
      have HBAL := Lib.hid bal
      have BQ : Hid (Below w.heap.size w w6) := bl hB.out B6.out hsz
      clear ho6 hg6 b6 hs5 z5 S25 O5 BB5 oA lA rA bal OQ hO D1 D2 S1 S2 HW1 Z1 HS1 HB1 hle
      go_wp2_with (at_builtin; refine wpList_append_own _ rfl _ _ 25 rfl w.heap.size 24 r0 (.slice none 0 0) 1 24 Tryd.underlying25 hr0 hrz hr1 hr2 rfl (by omega) _ k _ rfl (hO2.out _) ⟨w6.heap.size, 0, none⟩ 1 1 [.slice q6 (k0 + t0) c6] rfl rfl (one_cell' rfl) ?d2 ?d3 ?d4 ?d5 ?_)
      case d2 => intro y hy; simp at hy; subst hy; rfl
      case d3 => unfold maxLen; omega
      case d4 => omega
      case d5 => simp; omega
      intro v7 w7 ho7 hg7 _
      obtain ⟨q7, c7, rfl⟩ := owns_shape ho7
      have P7 : Hid (Own2 24 5 w7 w.heap.size (.slice q7 (k + 1) c7) (k + 1) (widesL (D.take (k + 1))) ∧ Below w.heap.size w w7) := by
        refine ⟨?_, (al BQ.out (by omega)).grown hg7 (by simp; omega) (fun kk hk => (OA.out.lt kk hk).1)⟩
        rw [widesL_take HX.out]
        exact Own2.push (by decide) LA.out (fun jj val hjj => by
          obtain ⟨xs, q, c', a, b, d⟩ := RA.out jj val hjj
          exact ⟨xs, q, c', a, b, owns_keep d (HBAL.out _ _)⟩) (hO2.out _) (owns_keep O6.out (HBAL.out _ _)) ho7 hg7
      clear ho7 hg7 hO2 OA LA RA hsz BQ hB O6 B6
      go_wp2
      go_roundw
      case rel => exact ⟨k + 1, q7, c7, by omega, by go_num, rfl, P7.out.1, P7.out.2⟩
      case measure => simp [intOf]; omega
    · have hkw : k = m := by omega
      subst hkw
      have OF : Hid (Sl2 wr qo k co (widesL D)) := by
        have := hO.out.sl2
        rwa [List.take_of_length_le (by rw [HLEN.out]; exact Nat.le_refl _)] at this
      have BF := Lib.hid hB.out
      clear hO hB
      go_wp2
      go_ret
      exact ⟨qo, co, rfl, OF.out, BF.out⟩
end Go.Proofs.YtbfmdfbnhakolaaDoor
namespace Go.By
open Go.RowKit
theorem RwS.take {w : World} {p : Option Addr} {n c j : Nat} {K : List (List UInt8 × List UInt8)} (h : RwS w p n c K) (hj : j ≤ n) : RwS w p j c (K.take j) :=
  ⟨by rw [List.length_take, h.len]; omega, Nat.le_trans hj h.le, h.max, fun e => ⟨by have := h.nil e; omega, (h.nil e).2⟩, fun i k hi => by
    rw [List.getElem?_take] at hi
    split at hi
    · exact h.row i k hi
    · cases hi⟩
/-- so many rows -/
def Shp.vecN (n : Nat) (xss : List (List UInt8)) : Shp := ⟨fun v w => ∃ p c, v = .slice p n c ∧ Sl2 w p n c xss, fun _ _ _ ⟨p, c, e, h⟩ hb => ⟨p, c, e, h.keep hb⟩⟩
end Go.By
namespace Go.Proofs.YtbfmdfbnhakolaaDoor
open Go.RowKit Go.By
theorem clashI_keep {D : List Rw} {i : Nat} (h : 0 ≤ clashI D i) : ∀ d, clashI D (i + d) = clashI D i
  | 0 => rfl
  | d + 1 => by
    have ih := clashI_keep h d
    show (match D[i + d]? with | some x => _ | none => _) = _
    split
    · rw [if_neg (fun g => by have g2 : clashI D (i + d) < 0 := g.2; rw [ih] at g2; omega)]; exact ih
    · exact ih
theorem calm_clashI {D : List Rw} : ∀ i, calm D i → clashI D i = -1
  | 0, _ => rfl
  | i + 1, h => by
    have ih := calm_clashI i (fun j x hj hx => h j x (by omega) hx)
    show (match D[i]? with | some x => _ | none => _) = _
    split
    · rename_i x hx
      rw [if_neg (fun g => by rw [h i x (by omega) hx] at g; cases g.1)]; exact ih
    · exact ih
theorem first_clashI {D : List Rw} {i m : Nat} {x : Rw} (h : calm D i) (hx : D[i]? = some x) (hc : clashB (kD (D.take i)) x = true) (hm : i < m) : clashI D m = i := by
  have e : clashI D (i + 1) = i := by rw [clashI_step hx, if_pos ⟨hc, by rw [calm_clashI i h]; decide⟩]
  have := clashI_keep (i := i + 1) (D := D) (by rw [e]; omega) (m - (i + 1))
  rw [show i + 1 + (m - (i + 1)) = m by omega, e] at this
  exact this
theorem vecs_len {k t : Nat} {X : List Rw} (h : ∀ x, x ∈ X → Fit k t x) : ∀ r, r ∈ vecsL X → r.length = k := fun r hr => by
  obtain ⟨x, hx, rfl⟩ := List.mem_map.1 hr; exact (h x hx).1
theorem wides_len {k t : Nat} {X : List Rw} (h : ∀ x, x ∈ X → Fit k t x) : ∀ r, r ∈ widesL X → r.length = k + t := fun r hr => by
  obtain ⟨x, hx, rfl⟩ := List.mem_map.1 hr; exact (h x hx).cat
set_option maxRecDepth 100000 in
set_option maxHeartbeats 4000000 in
theorem RJudge_any (k t : Nat) (p : Option Addr) (m c : Nat) (D : List Rw) (w : World) (h : RwS w p m c D) (hk : k ≤ 4096) (ht : t ≤ 65535) (hm : m ≤ 4096) (hD : ∀ x, x ∈ D → Fit k t x) :
    Calls Tryd.prog 23 #[.slice p m c] w fun e w' => e = .returned (.tuple #[.int .i64 (kD D).length, .int .i64 (clashI D m)]) ∧ Below w.heap.size w w' := by
  have H := Lib.hid h; have HL := Lib.hid h.len; have HD := Lib.hid hD
  have hmc := h.le; have hcm : c ≤ 9223372036854775807 := by have := h.max; unfold maxLen at this; omega
  have HA : Hid (∀ W, RwS W p m c D → Calls Tryd.prog 46 #[.slice p m c] W fun e w' => ∃ q c', e = .returned (.slice q m c') ∧ Sl2 w' q m c' (vecsL D) ∧ Below W.heap.size W w') := fun W hW => RVectors_any p m c D W hW (by omega)
  have HB : Hid (∀ W q c', Sl2 W q m c' (vecsL D) → Calls Tryd.prog 8 #[.slice q m c'] W fun e w' => e = .returned (.int .i64 (kD D).length) ∧ Below W.heap.size W w') := fun W q c' hW => by
    have := RRank_any k q m c' (vecsL D) W hW (vecs_len HD.out) (by unfold Room; omega) (by omega)
    rwa [vecs_rank] at this
  clear h hD
  go_enter Tryd.func23, Tryd.ntmps23
  go_wp2
  go_loopw [7] (fun iv wr => ∃ i : Nat, i ≤ m ∧ iv = .int .i64 i ∧ Hid (calm D i) ∧ Hid (Below w.heap.size w wr)) (fun iv _ => m - (intOf iv).toNat)
  case atStart => exact ⟨0, Nat.zero_le _, rfl, fun j x hj _ => by omega, Below.refl _ _⟩
  case round =>
    obtain ⟨i, hi, rfl, hC, hB⟩ := hrel
    by_cases hlt : i < m
    · have hlt' : (i : Int) < (m : Int) := by omega
      obtain ⟨x, hx⟩ : ∃ x, D[i]? = some x := ⟨_, List.getElem?_eq_getElem (by rw [HL.out]; exact hlt)⟩
      obtain ⟨b, o, q1, m1, c1, q2, m2, c2, rfl, d1, d2, s1, s2⟩ := H.out.row i x hx
      clear d1 d2 s1 s2
      obtain ⟨I, hI⟩ : ∃ I, I = i + 1 := ⟨_, rfl⟩
      obtain ⟨X, hX⟩ : ∃ X, X = D.take I := ⟨_, rfl⟩
      have HR : Hid (RwS wr (some ⟨b, o, none⟩) I c X) := by
        rw [hX]
        exact (H.out.take (by omega)).keep hB.out
      have hXD : ∀ y, y ∈ X → Fit k t y := fun y hy => HD.out y (List.mem_of_mem_take (by rw [← hX]; exact hy))
      obtain ⟨R1, hR1⟩ : ∃ R1, R1 = (iK (vecsL X)).length := ⟨_, rfl⟩
      obtain ⟨R2, hR2⟩ : ∃ R2, R2 = (iK (widesL X)).length := ⟨_, rfl⟩
      have CV : Hid (∀ W, RwS W (some ⟨b, o, none⟩) I c X → Calls Tryd.prog 46 #[.slice (some ⟨b, o, none⟩) I c] W fun e w' => ∃ q c', e = .returned (.slice q I c') ∧ Sl2 w' q I c' (vecsL X) ∧ Below W.heap.size W w') := fun W hW => RVectors_any _ I c X W hW (by omega)
      have CW : Hid (∀ W, RwS W (some ⟨b, o, none⟩) I c X → Calls Tryd.prog 47 #[.slice (some ⟨b, o, none⟩) I c] W fun e w' => ∃ q c', e = .returned (.slice q I c') ∧ Sl2 w' q I c' (widesL X) ∧ Below W.heap.size W w') := fun W hW => RWide_any k t _ I c X W hW (by omega) hXD (by omega) (by omega)
      have C1 : Hid (∀ W q c', Sl2 W q I c' (vecsL X) → Calls Tryd.prog 8 #[.slice q I c'] W fun e w' => e = .returned (.int .i64 R1) ∧ Below W.heap.size W w') := fun W q c' hW => by
        rw [hR1]; exact RRank_any k q I c' (vecsL X) W hW (vecs_len hXD) (by unfold Room; omega) (by omega)
      have C2 : Hid (∀ W q c', Sl2 W q I c' (widesL X) → Calls Tryd.prog 8 #[.slice q I c'] W fun e w' => e = .returned (.int .i64 R2) ∧ Below W.heap.size W w') := fun W q c' hW => by
        rw [hR2]; exact RRank_any (k + t) q I c' (widesL X) W hW (wides_len hXD) (by unfold Room; omega) (by omega)
      have HJ : Hid ((R1 = R2) ↔ clashB (kD (D.take i)) x = false) := by
        have := judge_at HD.out hx hC.out
        rw [hR1, hR2, hX, hI]; exact this
      have HX := Lib.hid hx
      have A1 : IntKind.i64.wrap ((i : Int) + 1) = (I : Int) := by rw [hI]; exact (Go.IntWalk.i64_in _ (by omega)).trans (by omega)
      have A2 : (I : Int) ≤ (c : Int) := by omega
      have A3 : I ≤ c := by omega
      have A4 : ¬ c = 0 := by omega
      have HIx := Lib.hid hI
      clear hX hXD hR1 hR2 hx hI
      by_cases hc : clashB (kD (D.take i)) x = true
      · have hne : ¬ R1 = R2 := fun e => by have := HJ.out.1 e; rw [hc] at this; cases this
        have hd : ((R1 : Int) != (R2 : Int)) = true := by simp; omega
        have hd2 : ¬ (R1 : Int) = (R2 : Int) := fun e => hne (by omega)
        have HRES : Hid (clashI D m = i) := first_clashI hC.out HX.out hc hlt
        clear hc hne HJ hC
        go_wp2
        refine wp_region_shapes (fun ix => ([.val (.slice (some ⟨b, o, none⟩) m c), .val (.int .i64 i), .val (.int .i64 I), .val (.slice (some ⟨b, o, none⟩) I c), (Shp.vecN I (vecsL X)), .val (.int .i64 R1), .val (.slice (some ⟨b, o, none⟩) m c), .val (.int .i64 i), .val (.int .i64 I), .val (.slice (some ⟨b, o, none⟩) I c), (Shp.vecN I (widesL X)), .val (.int .i64 R2), .val (.bool true)][ix]?).getD (.any)) 31 rfl (by kernel_rfl) (by decide) (by decide) (by decide) ?_ ?_
        · refine ⟨?_, ?_, ?_, ?_, ?_, ?_, ?_, ?_, ?_, ?_, ?_, ?_, ?_, trivial⟩
          · intro a W hb0 hs hp hi; have hb := undrew hb0; clear hb0
            have t0 : sl a 0 = .slice (some ⟨b, o, none⟩) m c := hi 0 (by decide)
            exact ite_y rfl (wp_val (sl a 0) rfl ⟨_, rfl, Below.refl _ _, t0⟩)
          · intro a W hb0 hs hp hi; have hb := undrew hb0; clear hb0
            have t4 : sl a 4 = .int .i64 i := hi 4 (by decide)
            exact ite_y rfl (wp_val (sl a 4) rfl ⟨_, rfl, Below.refl _ _, t4⟩)
          · intro a W hb0 hs hp hi; have hb := undrew hb0; clear hb0
            have t11 : sl a 11 = .int .i64 i := hp 1 (by decide)
            refine ite_y rfl (wp_val (.int .i64 I) ?_ ?_)
            · simp only [execOp, eval_tmp, eval_const, t11]; simp [go_sem, A1]
            · exact ⟨_, rfl, Below.refl _ _, rfl⟩
          · intro a W hb0 hs hp hi; have hb := undrew hb0; clear hb0
            have tt : sl a 10 = .slice (some ⟨b, o, none⟩) m c := hp 0 (by decide)
            have tj : sl a 12 = .int .i64 I := hp 2 (by decide)
            refine ite_y rfl (wp_val (.slice (some ⟨b, o, none⟩) I c) ?_ ?_)
            · simp only [execOp, eval_tmp, tt, tj, Option.map]; simp [go_sem, A2, A3, A4, Addr.add_lit]
            · exact ⟨_, rfl, Below.refl _ _, rfl⟩
          · intro a W hb0 hs hp hi; have hb := undrew hb0; clear hb0
            have tt : sl a 13 = .slice (some ⟨b, o, none⟩) I c := hp 3 (by decide)
            refine ite_y rfl (wp_enter 46 #[.slice (some ⟨b, o, none⟩) I c] ?_ (CV.out W (HR.out.keep hb)) ?_)
            · simp only [execOp, resolve, List.map_toArray, List.map, eval_tmp, eval_func, eval_const, tt]; simp [go_sem]
            · rintro e W' ⟨q, c', rfl, hs9, hw⟩; exact ⟨_, rfl, _, rfl, hw, q, c', rfl, hs9⟩
          · intro a W hb0 hs hp hi; have hb := undrew hb0; clear hb0
            have tt : (Shp.vecN I (vecsL X)).ok (sl a 14) W := hp 4 (by decide)
            obtain ⟨q4, c4, tt, s4⟩ := tt
            refine ite_y rfl (wp_enter 8 #[.slice q4 I c4] ?_ (C1.out W q4 c4 s4) ?_)
            · simp only [execOp, resolve, List.map_toArray, List.map, eval_tmp, eval_func, eval_const, tt]; simp [go_sem]
            · rintro e W' ⟨rfl, hw⟩; exact ⟨_, rfl, _, rfl, hw, rfl⟩
          · intro a W hb0 hs hp hi; have hb := undrew hb0; clear hb0
            have t0 : sl a 0 = .slice (some ⟨b, o, none⟩) m c := hi 0 (by decide)
            exact ite_y rfl (wp_val (sl a 0) rfl ⟨_, rfl, Below.refl _ _, t0⟩)
          · intro a W hb0 hs hp hi; have hb := undrew hb0; clear hb0
            have t4 : sl a 4 = .int .i64 i := hi 4 (by decide)
            exact ite_y rfl (wp_val (sl a 4) rfl ⟨_, rfl, Below.refl _ _, t4⟩)
          · intro a W hb0 hs hp hi; have hb := undrew hb0; clear hb0
            have t17 : sl a 17 = .int .i64 i := hp 7 (by decide)
            refine ite_y rfl (wp_val (.int .i64 I) ?_ ?_)
            · simp only [execOp, eval_tmp, eval_const, t17]; simp [go_sem, A1]
            · exact ⟨_, rfl, Below.refl _ _, rfl⟩
          · intro a W hb0 hs hp hi; have hb := undrew hb0; clear hb0
            have tt : sl a 16 = .slice (some ⟨b, o, none⟩) m c := hp 6 (by decide)
            have tj : sl a 18 = .int .i64 I := hp 8 (by decide)
            refine ite_y rfl (wp_val (.slice (some ⟨b, o, none⟩) I c) ?_ ?_)
            · simp only [execOp, eval_tmp, tt, tj, Option.map]; simp [go_sem, A2, A3, A4, Addr.add_lit]
            · exact ⟨_, rfl, Below.refl _ _, rfl⟩
          · intro a W hb0 hs hp hi; have hb := undrew hb0; clear hb0
            have tt : sl a 19 = .slice (some ⟨b, o, none⟩) I c := hp 9 (by decide)
            refine ite_y rfl (wp_enter 47 #[.slice (some ⟨b, o, none⟩) I c] ?_ (CW.out W (HR.out.keep hb)) ?_)
            · simp only [execOp, resolve, List.map_toArray, List.map, eval_tmp, eval_func, eval_const, tt]; simp [go_sem]
            · rintro e W' ⟨q, c', rfl, hs9, hw⟩; exact ⟨_, rfl, _, rfl, hw, q, c', rfl, hs9⟩
          · intro a W hb0 hs hp hi; have hb := undrew hb0; clear hb0
            have tt : (Shp.vecN I (widesL X)).ok (sl a 20) W := hp 10 (by decide)
            obtain ⟨q4, c4, tt, s4⟩ := tt
            refine ite_y rfl (wp_enter 8 #[.slice q4 I c4] ?_ (C2.out W q4 c4 s4) ?_)
            · simp only [execOp, resolve, List.map_toArray, List.map, eval_tmp, eval_func, eval_const, tt]; simp [go_sem]
            · rintro e W' ⟨rfl, hw⟩; exact ⟨_, rfl, _, rfl, hw, rfl⟩
          · intro a W hb0 hs hp hi; have hb := undrew hb0; clear hb0
            have t15 : sl a 15 = .int .i64 R1 := hp 5 (by decide)
            have t21 : sl a 21 = .int .i64 R2 := hp 11 (by decide)
            refine ite_y rfl (wp_val (.bool true) ?_ ?_)
            · simp only [execOp, eval_tmp, eval_const, t15, t21]; simp [go_sem, hd, hd2]
            · exact ⟨_, rfl, Below.refl _ _, rfl⟩
        intro a wk hb hs hd hI ht
        have ha := act_is [10, 11, 12, 13, 14, 15, 16, 17, 18, 19, 20, 21, 22] hs hd ht (by decide)
        have t22 : sl a 22 = .bool true := hI 12 (by decide)
        simp only [List.foldl, t22] at ha
        generalize sl a 10 = u10 at ha
        generalize sl a 11 = u11 at ha
        generalize sl a 12 = u12 at ha
        generalize sl a 13 = u13 at ha
        generalize sl a 14 = u14 at ha
        generalize sl a 15 = u15 at ha
        generalize sl a 16 = u16 at ha
        generalize sl a 17 = u17 at ha
        generalize sl a 18 = u18 at ha
        generalize sl a 19 = u19 at ha
        generalize sl a 20 = u20 at ha
        generalize sl a 21 = u21 at ha
        simp only [Act.put, List.setIfInBounds_toArray, List.set_cons_zero, List.set_cons_succ] at ha
        rw [ha]
        clear ha hI ht
        have hW : Hid (Below w.heap.size w wk) := bl hB.out hb hB.out.size
        clear hb HR CV CW C1 C2 A1 A2 A3 A4
        go_wp2_with fail
        refine Calls.mono (HA.out _ (H.out.keep hW.out)) ?_
        rintro e w5 ⟨q, c', rfl, hs, hb⟩
        have hW5 : Hid (Below w.heap.size w w5) := bl hW.out hb hW.out.size
        have S5 := Lib.hid hs
        clear hb hs hW
        go_wp2_with fail
        refine Calls.mono (HB.out _ _ _ S5.out) ?_
        rintro e w6 ⟨rfl, hb⟩
        have hW6 : Hid (Below w.heap.size w w6) := bl hW5.out hb hW5.out.size
        clear hb hW5 S5
        go_wp2
        go_ret2
        exact ⟨by rw [HRES.out]; rfl, hW6.out⟩
      · have hcf : clashB (kD (D.take i)) x = false := by simpa using hc
        have he : R1 = R2 := HJ.out.2 hcf
        subst he
        have HC2 : Hid (calm D (i + 1)) := fun j y hj hy => by
          by_cases hji : j < i
          · exact hC.out j y hji hy
          · obtain rfl : j = i := by omega
            rw [HX.out] at hy; cases hy; exact hcf
        have hd : ((R1 : Int) != (R1 : Int)) = false := by simp
        have hd2 : (R1 : Int) = (R1 : Int) := rfl
        clear hc hcf HJ hC
        go_wp2
        refine wp_region_shapes (fun ix => ([.val (.slice (some ⟨b, o, none⟩) m c), .val (.int .i64 i), .val (.int .i64 I), .val (.slice (some ⟨b, o, none⟩) I c), (Shp.vecN I (vecsL X)), .val (.int .i64 R1), .val (.slice (some ⟨b, o, none⟩) m c), .val (.int .i64 i), .val (.int .i64 I), .val (.slice (some ⟨b, o, none⟩) I c), (Shp.vecN I (widesL X)), .val (.int .i64 R1), .val (.bool false)][ix]?).getD (.any)) 31 rfl (by kernel_rfl) (by decide) (by decide) (by decide) ?_ ?_
        · refine ⟨?_, ?_, ?_, ?_, ?_, ?_, ?_, ?_, ?_, ?_, ?_, ?_, ?_, trivial⟩
          · intro a W hb0 hs hp hi; have hb := undrew hb0; clear hb0
            have t0 : sl a 0 = .slice (some ⟨b, o, none⟩) m c := hi 0 (by decide)
            exact ite_y rfl (wp_val (sl a 0) rfl ⟨_, rfl, Below.refl _ _, t0⟩)
          · intro a W hb0 hs hp hi; have hb := undrew hb0; clear hb0
            have t4 : sl a 4 = .int .i64 i := hi 4 (by decide)
            exact ite_y rfl (wp_val (sl a 4) rfl ⟨_, rfl, Below.refl _ _, t4⟩)
          · intro a W hb0 hs hp hi; have hb := undrew hb0; clear hb0
            have t11 : sl a 11 = .int .i64 i := hp 1 (by decide)
            refine ite_y rfl (wp_val (.int .i64 I) ?_ ?_)
            · simp only [execOp, eval_tmp, eval_const, t11]; simp [go_sem, A1]
            · exact ⟨_, rfl, Below.refl _ _, rfl⟩
          · intro a W hb0 hs hp hi; have hb := undrew hb0; clear hb0
            have tt : sl a 10 = .slice (some ⟨b, o, none⟩) m c := hp 0 (by decide)
            have tj : sl a 12 = .int .i64 I := hp 2 (by decide)
            refine ite_y rfl (wp_val (.slice (some ⟨b, o, none⟩) I c) ?_ ?_)
            · simp only [execOp, eval_tmp, tt, tj, Option.map]; simp [go_sem, A2, A3, A4, Addr.add_lit]
            · exact ⟨_, rfl, Below.refl _ _, rfl⟩
          · intro a W hb0 hs hp hi; have hb := undrew hb0; clear hb0
            have tt : sl a 13 = .slice (some ⟨b, o, none⟩) I c := hp 3 (by decide)
            refine ite_y rfl (wp_enter 46 #[.slice (some ⟨b, o, none⟩) I c] ?_ (CV.out W (HR.out.keep hb)) ?_)
            · simp only [execOp, resolve, List.map_toArray, List.map, eval_tmp, eval_func, eval_const, tt]; simp [go_sem]
            · rintro e W' ⟨q, c', rfl, hs9, hw⟩; exact ⟨_, rfl, _, rfl, hw, q, c', rfl, hs9⟩
          · intro a W hb0 hs hp hi; have hb := undrew hb0; clear hb0
            have tt : (Shp.vecN I (vecsL X)).ok (sl a 14) W := hp 4 (by decide)
            obtain ⟨q4, c4, tt, s4⟩ := tt
            refine ite_y rfl (wp_enter 8 #[.slice q4 I c4] ?_ (C1.out W q4 c4 s4) ?_)
            · simp only [execOp, resolve, List.map_toArray, List.map, eval_tmp, eval_func, eval_const, tt]; simp [go_sem]
            · rintro e W' ⟨rfl, hw⟩; exact ⟨_, rfl, _, rfl, hw, rfl⟩
          · intro a W hb0 hs hp hi; have hb := undrew hb0; clear hb0
            have t0 : sl a 0 = .slice (some ⟨b, o, none⟩) m c := hi 0 (by decide)
            exact ite_y rfl (wp_val (sl a 0) rfl ⟨_, rfl, Below.refl _ _, t0⟩)
          · intro a W hb0 hs hp hi; have hb := undrew hb0; clear hb0
            have t4 : sl a 4 = .int .i64 i := hi 4 (by decide)
            exact ite_y rfl (wp_val (sl a 4) rfl ⟨_, rfl, Below.refl _ _, t4⟩)
          · intro a W hb0 hs hp hi; have hb := undrew hb0; clear hb0
            have t17 : sl a 17 = .int .i64 i := hp 7 (by decide)
            refine ite_y rfl (wp_val (.int .i64 I) ?_ ?_)
            · simp only [execOp, eval_tmp, eval_const, t17]; simp [go_sem, A1]
            · exact ⟨_, rfl, Below.refl _ _, rfl⟩
          · intro a W hb0 hs hp hi; have hb := undrew hb0; clear hb0
            have tt : sl a 16 = .slice (some ⟨b, o, none⟩) m c := hp 6 (by decide)
            have tj : sl a 18 = .int .i64 I := hp 8 (by decide)
            refine ite_y rfl (wp_val (.slice (some ⟨b, o, none⟩) I c) ?_ ?_)
            · simp only [execOp, eval_tmp, tt, tj, Option.map]; simp [go_sem, A2, A3, A4, Addr.add_lit]
            · exact ⟨_, rfl, Below.refl _ _, rfl⟩
          · intro a W hb0 hs hp hi; have hb := undrew hb0; clear hb0
            have tt : sl a 19 = .slice (some ⟨b, o, none⟩) I c := hp 9 (by decide)
            refine ite_y rfl (wp_enter 47 #[.slice (some ⟨b, o, none⟩) I c] ?_ (CW.out W (HR.out.keep hb)) ?_)
            · simp only [execOp, resolve, List.map_toArray, List.map, eval_tmp, eval_func, eval_const, tt]; simp [go_sem]
            · rintro e W' ⟨q, c', rfl, hs9, hw⟩; exact ⟨_, rfl, _, rfl, hw, q, c', rfl, hs9⟩
          · intro a W hb0 hs hp hi; have hb := undrew hb0; clear hb0
            have tt : (Shp.vecN I (widesL X)).ok (sl a 20) W := hp 10 (by decide)
            obtain ⟨q4, c4, tt, s4⟩ := tt
            refine ite_y rfl (wp_enter 8 #[.slice q4 I c4] ?_ (C2.out W q4 c4 s4) ?_)
            · simp only [execOp, resolve, List.map_toArray, List.map, eval_tmp, eval_func, eval_const, tt]; simp [go_sem]
            · rintro e W' ⟨rfl, hw⟩; exact ⟨_, rfl, _, rfl, hw, rfl⟩
          · intro a W hb0 hs hp hi; have hb := undrew hb0; clear hb0
            have t15 : sl a 15 = .int .i64 R1 := hp 5 (by decide)
            have t21 : sl a 21 = .int .i64 R1 := hp 11 (by decide)
            refine ite_y rfl (wp_val (.bool false) ?_ ?_)
            · simp only [execOp, eval_tmp, eval_const, t15, t21]; simp [go_sem]
            · exact ⟨_, rfl, Below.refl _ _, rfl⟩
        intro a wk hb hs hd hI ht
        have ha := act_is [10, 11, 12, 13, 14, 15, 16, 17, 18, 19, 20, 21, 22] hs hd ht (by decide)
        have t22 : sl a 22 = .bool false := hI 12 (by decide)
        simp only [List.foldl, t22] at ha
        generalize sl a 10 = u10 at ha
        generalize sl a 11 = u11 at ha
        generalize sl a 12 = u12 at ha
        generalize sl a 13 = u13 at ha
        generalize sl a 14 = u14 at ha
        generalize sl a 15 = u15 at ha
        generalize sl a 16 = u16 at ha
        generalize sl a 17 = u17 at ha
        generalize sl a 18 = u18 at ha
        generalize sl a 19 = u19 at ha
        generalize sl a 20 = u20 at ha
        generalize sl a 21 = u21 at ha
        simp only [Act.put, List.setIfInBounds_toArray, List.set_cons_zero, List.set_cons_succ] at ha
        rw [ha]
        clear ha hI ht
        have hW : Hid (Below w.heap.size w wk) := bl hB.out hb hB.out.size
        clear hb HR CV CW C1 C2 A1 A2 A3 A4 hB hd hd2
        go_wp2
        go_roundw
        case rel => exact ⟨i + 1, by omega, by go_num, HC2.out, hW.out⟩
        case measure => simp [intOf]; omega
    · obtain rfl : i = m := by omega
      have HRES : Hid (clashI D i = -1) := calm_clashI i hC.out
      clear hC
      go_wp2_with fail
      refine Calls.mono (HA.out _ (H.out.keep hB.out)) ?_
      rintro e w5 ⟨q, c', rfl, hs, hb⟩
      have hW5 : Hid (Below w.heap.size w w5) := bl hB.out hb hB.out.size
      have S5 := Lib.hid hs
      clear hb hs hB
      go_wp2_with fail
      refine Calls.mono (HB.out _ _ _ S5.out) ?_
      rintro e w6 ⟨rfl, hb⟩
      have hW6 : Hid (Below w.heap.size w w6) := bl hW5.out hb hW5.out.size
      clear hb hW5 S5
      go_wp2
      go_ret2
      exact ⟨by rw [HRES.out]; rfl, hW6.out⟩
end Go.Proofs.YtbfmdfbnhakolaaDoor
namespace Go.By
open Go.RowKit
section
variable {P : Program} {ops : Array Oper} {Q : Exit → Act → World → Prop}
/-- what is to be shown of one operation -/
def StepDn (P : Program) (ops : Array Oper) (Q : Exit → Act → World → Prop) (a0 : Act) (E : (Nat → Bool) → World → Prop) (R : Nat → World → World → Prop) (Inv : Nat → (Nat → Value) → World → Prop) (i : Nat) (o : Oper) : Prop :=
  ∀ (a : Act) (w : World) (dn : Nat → Bool), dn i = false → E dn w → a.tmps.size = a0.tmps.size → (∀ k, k ∈ preds o → Inv k (sl a) w) → (∀ t, initAt ops i t = true → sl a t = sl a0 t) →
    if Region.wanted o (yielded ops a.tmps) = true then o.wp P a w (fun a' w' => ∃ v, a' = a.put o.dst v ∧ R i w w' ∧ Inv i (sl a') w') Q
    else R i w w ∧ Inv i (sl (a.put o.dst undef)) w
def EachDn (P : Program) (ops : Array Oper) (Q : Exit → Act → World → Prop) (a0 : Act) (E : (Nat → Bool) → World → Prop) (R : Nat → World → World → Prop) (Inv : Nat → (Nat → Value) → World → Prop) : List Oper → Nat → Prop
  | [], _ => True
  | o :: rest, i => StepDn P ops Q a0 E R Inv i o ∧ EachDn P ops Q a0 E R Inv rest (i + 1)
theorem EachDn.get {a0 : Act} {E : (Nat → Bool) → World → Prop} {R : Nat → World → World → Prop} {Inv : Nat → (Nat → Value) → World → Prop} : ∀ (l : List Oper) (k : Nat), EachDn P ops Q a0 E R Inv l k → ∀ j o, l[j]? = some o → StepDn P ops Q a0 E R Inv (k + j) o := by
  intro l
  induction l with
  | nil => intro k _ j o h; simp at h
  | cons x l ih =>
    intro k h j o hj
    cases j with
    | zero => simp at hj; subst hj; exact h.1
    | succ j =>
      have := ih (k + 1) h.2 j o (by simpa using hj)
      rwa [show k + 1 + j = k + (j + 1) by omega] at this
/-- A REGION THAT DRAWS, by an invariant of each operation -/
theorem wp_region_done {id : Nat} {a0 : Act} {w0 : World} (hm : P.follows .mixedOrders = true) (hback : backB ops = true)
    (E : (Nat → Bool) → World → Prop) (R : Nat → World → World → Prop) (Inv : Nat → (Nat → Value) → World → Prop)
    (E0 : E (fun _ => false) w0.drew) (ER : ∀ dn i w w', dn i = false → E dn w → R i w w' → E (fun j => if i = j then true else dn j) w')
    (stable : ∀ i j oi oj (σ σ' : Nat → Value) w w', i ≠ j → ops[i]? = some oi → ops[j]? = some oj → i ∉ preds oj ∨ True → Inv j σ w → R i w w' → (∀ t, oi.dst ≠ some t → σ' t = σ t) → (j ∉ preds oi → True) → (∀ d, oi.dst = some d → i ∈ preds oj → False) → Inv j σ' w')
    (each : EachDn P ops Q a0 E R Inv ops.toList 0)
    (fin : ∀ a w dn, E dn w → a.tmps.size = a0.tmps.size → a.defers = a0.defers → (∀ j, j < ops.size → Inv j (sl a) w) → (∀ t, (ops.toList.all fun o => o.dst != some t) = true → sl a t = sl a0 t) → Q .normal a w) :
    (Code.region id ops true).wp P Q a0 w0 := by
  refine wp_region_any hm ?_
  show wpAny P .any ops Q ops.size (Array.replicate ops.size false) a0 w0.drew
  have main : ∀ (fuel : Nat) (listed : Array Bool) (a : Act) (w : World), unl ops.size listed ≤ fuel → E (fun j => listed.getD j false) w → a.tmps.size = a0.tmps.size → a.defers = a0.defers →
      (∀ j o, listed.getD j false = true → ops[j]? = some o → ∀ k, k ∈ preds o → listed.getD k false = true) →
      (∀ j, j < ops.size → listed.getD j true = true → listed.getD j false = true) →
      (∀ j, j < ops.size → listed.getD j false = true → Inv j (sl a) w) →
      (∀ t, (∀ j o, j < ops.size → listed.getD j false = true → ops[j]? = some o → o.dst ≠ some t) → sl a t = sl a0 t) → wpAny P .any ops Q fuel listed a w := by
    intro fuel
    induction fuel with
    | zero =>
      intro listed a w hu hE hs hd hcl hlt hI ht
      have hall : ∀ j, j < ops.size → listed.getD j false = true := by
        intro j hj
        refine hlt j hj ?_
        have h0 : unl ops.size listed = 0 := by omega
        unfold unl at h0
        have := List.countP_eq_zero.1 h0 j (List.mem_range.2 hj)
        simpa using this
      refine ⟨?_, fin a w _ hE hs hd (fun j hj => hI j hj (hall j hj)) (fun t htt => ht t (fun j o _ _ ho => ?_))⟩
      · rw [List.eq_nil_iff_forall_not_mem]
        intro i hi
        obtain ⟨h1, h2, _⟩ := mem_ready.1 hi
        have hx := hall i h1
        rcases Nat.lt_or_ge i listed.size with h | h
        · simp [Array.getD_eq_getD_getElem?, h] at h2 hx; rw [h2] at hx; cases hx
        · simp [Array.getD_eq_getD_getElem?, Array.getElem?_eq_none h] at hx
      · have := List.all_eq_true.1 htt o (by rw [Array.mem_toList_iff]; exact Array.mem_of_getElem? ho)
        simpa using this
    | succ fuel ih =>
      intro listed a w hu hE hs hd hcl hlt hI ht
      refine ⟨fun hr => ?_, fun i hi => ?_⟩
      · have hall : ∀ n j, j < n → j < ops.size → listed.getD j false = true := by
          intro n
          induction n with
          | zero => intro j hj; omega
          | succ n ihn =>
            intro j hj hjs
            refine hlt j hjs ?_
            cases hb : listed.getD j true with
            | true => rfl
            | false =>
              exfalso
              have ho : ops[j]? = some ops[j] := Array.getElem?_eq_getElem hjs
              have : j ∈ Region.ready .any ops listed := mem_ready.2 ⟨hjs, hb, _, ho, fun k hk => by
                have hbk := List.all_eq_true.1 hback j (List.mem_range.2 hjs)
                rw [ho] at hbk
                have hkj := of_decide_eq_true (List.all_eq_true.1 hbk k hk)
                exact ihn k (by omega) (by omega)⟩
              rw [hr] at this; cases this
        exact fin a w _ hE hs hd (fun j hj => hI j hj (hall (j + 1) j (by omega) hj)) (fun t htt => ht t (fun j o _ _ ho => by
          have := List.all_eq_true.1 htt o (by rw [Array.mem_toList_iff]; exact Array.mem_of_getElem? ho)
          simpa using this))
      · obtain ⟨h1, h2, o, ho, h3⟩ := mem_ready.1 hi
        have hst := EachDn.get ops.toList 0 each i o (by simpa using ho)
        rw [Nat.zero_add] at hst
        have hnl : listed.getD i false ≠ true := by
          intro hx
          rcases Nat.lt_or_ge i listed.size with h | h
          · simp [Array.getD_eq_getD_getElem?, h] at h2 hx; rw [h2] at hx; cases hx
          · simp [Array.getD_eq_getD_getElem?, Array.getElem?_eq_none h] at hx
        have his : i < listed.size := by
          rcases Nat.lt_or_ge i listed.size with h | h
          · exact h
          · simp [Array.getD_eq_getD_getElem?, Array.getElem?_eq_none h] at h2
        have gset : ∀ j (d : Bool), (listed.setIfInBounds i true).getD j d = if i = j then true else listed.getD j d := by
          intro j d
          simp only [Array.getD_eq_getD_getElem?, Array.getElem?_setIfInBounds]
          by_cases e : i = j
          · subst e; simp [his]
          · simp [e]
        have hst' := hst a w _ (by simpa using hnl) hE hs (fun k hk => hI k (by
            have hbk := List.all_eq_true.1 hback i (List.mem_range.2 h1)
            rw [ho] at hbk
            have := of_decide_eq_true (List.all_eq_true.1 hbk k hk); omega) (h3 k hk)) (fun t hti => by
          refine ht t (fun j oj hj hlj hoj hdj => ?_)
          have := List.all_eq_true.1 hti j (List.mem_range.2 hj)
          rw [hoj] at this
          by_cases e : j = i
          · subst e; exact hnl hlj
          · simp [e, hdj] at this
            exact hnl (hcl j oj hlj hoj i this))
        have next : ∀ (v : Value) (w' : World), R i w w' → Inv i (sl (a.put o.dst v)) w' → wpAny P .any ops Q fuel (listed.setIfInBounds i true) (a.put o.dst v) w' := by
          intro v w' hR hIi
          refine ih _ _ _ (by have := unl_set (n := ops.size) h1 h2; omega) (by have h := ER _ i w w' (by simpa using hnl) hE hR; have e : (fun j => if i = j then true else listed.getD j false) = fun j => (listed.setIfInBounds i true).getD j false := funext fun j => (gset j false).symm; rw [e] at h; exact h) ((put_size _ _ _).trans hs) ((put_defers _ _ _).trans hd) ?_ ?_ ?_ ?_
          · intro j oj hj hoj k hk
            rw [gset] at hj ⊢
            by_cases e : i = k
            · rw [if_pos e]
            · rw [if_neg e]
              by_cases e' : i = j
              · subst e'; rw [ho] at hoj; cases hoj; exact h3 k hk
              · rw [if_neg e'] at hj; exact hcl j oj hj hoj k hk
          · intro j hj hl
            rw [gset] at hl ⊢
            by_cases e : i = j
            · rw [if_pos e]
            · rw [if_neg e] at hl ⊢; exact hlt j hj hl
          · intro j hj hl
            rw [gset] at hl
            by_cases e : i = j
            · subst e; exact hIi
            · rw [if_neg e] at hl
              have hoj : ops[j]? = some ops[j] := Array.getElem?_eq_getElem hj
              exact stable i j o _ (sl a) _ w w' e ho hoj (.inr trivial) (hI j hj hl) hR (fun t h => put_sl _ _ _ _ h) (fun _ => trivial) (fun d hdd hp => hnl (hcl j _ hl hoj i hp))
          · intro t htt
            have hdt : o.dst ≠ some t := htt i o h1 (by rw [gset, if_pos rfl]) ho
            rw [put_sl _ _ _ _ hdt]
            exact ht t (fun j oj hj hl hoj => htt j oj hj (by rw [gset]; split <;> simp [hl]) hoj)
        unfold wpOp
        rw [ho]
        show if Region.wanted o (yielded ops a.tmps) = true then _ else _
        split
        · rename_i hw
          rw [if_pos hw] at hst'
          exact .inl (Oper.wp_mono (fun a' w' ⟨v, e, hR, hIi⟩ => by rw [e] at hIi ⊢; exact next v w' hR hIi) hst')
        · rename_i hw
          rw [if_neg hw] at hst'
          exact next undef w hst'.1 hst'.2
  refine main ops.size _ a0 w0.drew ?_ (by have e : (fun j => (Array.replicate ops.size false).getD j false) = fun _ => false := funext fun j => (by simp [Array.getD_eq_getD_getElem?, Array.getElem?_replicate]; split <;> rfl); rw [e]; exact E0) rfl rfl ?_ ?_ ?_ ?_
  · unfold unl; exact Nat.le_trans List.countP_le_length (by simp)
  · intro j o hj; simp [Array.getD_eq_getD_getElem?, Array.getElem?_replicate] at hj
    split at hj <;> simp at hj
  · intro j hj hl; simp [Array.getD_eq_getD_getElem?, Array.getElem?_replicate, hj] at hl
  · intro j hj hl; simp [Array.getD_eq_getD_getElem?, Array.getElem?_replicate, hj] at hl
  · intro t _; rfl
def InvD (ops : Array Oper) (sh : Nat → Value → World → Prop) (i : Nat) (σ : Nat → Value) (w : World) : Prop := match dstOf ops i with
  | some d => sh i (σ d) w
  | none => True
/-- what is to be shown of one operation -/
def StepE (P : Program) (ops : Array Oper) (Q : Exit → Act → World → Prop) (a0 : Act) (E : (Nat → Bool) → World → Prop) (R : Nat → World → World → Prop) (sh : Nat → Value → World → Prop) (i : Nat) (o : Oper) : Prop :=
  ∀ (a : Act) (w : World) (dn : Nat → Bool), dn i = false → E dn w → a.tmps.size = a0.tmps.size → (∀ k, k ∈ preds o → InvD ops sh k (sl a) w) → (∀ t, initAt ops i t = true → sl a t = sl a0 t) →
    if Region.wanted o (yielded ops a.tmps) = true then o.wp P a w (fun a' w' => ∃ v, a' = a.put o.dst v ∧ R i w w' ∧ sh i v w') Q
    else R i w w ∧ sh i undef w
def EachE (P : Program) (ops : Array Oper) (Q : Exit → Act → World → Prop) (a0 : Act) (E : (Nat → Bool) → World → Prop) (R : Nat → World → World → Prop) (sh : Nat → Value → World → Prop) : List Oper → Nat → Prop
  | [], _ => True
  | o :: rest, i => StepE P ops Q a0 E R sh i o ∧ EachE P ops Q a0 E R sh rest (i + 1)
theorem eachE_of {a0 : Act} {E : (Nat → Bool) → World → Prop} {R : Nat → World → World → Prop} {sh : Nat → Value → World → Prop} {n : Nat} (hn : a0.tmps.size = n) : ∀ (l : List Oper) (k : Nat), (∀ j o, l[j]? = some o → ops[k + j]? = some o) → (l.all fun o => match o.dst with
    | some d => decide (d < n)
    | none => false) = true →
    EachE P ops Q a0 E R sh l k → EachDn P ops Q a0 E R (InvD ops sh) l k := by
  intro l
  induction l with
  | nil => intro k _ _ _; trivial
  | cons o l ih =>
    intro k hk hd h
    simp only [List.all_cons, Bool.and_eq_true] at hd
    refine ⟨?_, ih (k + 1) (fun j o' hj => by have := hk (j + 1) o' (by simpa using hj); rwa [show k + (j + 1) = k + 1 + j by omega] at this) hd.2 h.2⟩
    intro a w dn hdn hE hs hp hi
    have ho : ops[k]? = some o := by have := hk 0 o (by simp); simpa using this
    have hs1 := h.1 a w dn hdn hE hs hp hi
    cases hdo : o.dst with
    | none => rw [hdo] at hd; simp at hd
    | some d =>
      rw [hdo] at hd
      have hd1 : d < n := of_decide_eq_true hd.1
      have hdn : d < a.tmps.size := by rw [hs, hn]; exact hd1
      have hdst : dstOf ops k = some d := by simp [dstOf, ho, hdo]
      split
      · rename_i hw
        rw [if_pos hw] at hs1
        refine Oper.wp_mono ?_ hs1
        rintro a' w' ⟨v, e, hb, hok⟩
        refine ⟨v, e.trans (by rw [hdo]), hb, ?_⟩
        unfold InvD
        rw [hdst]
        show sh k (sl a' d) w'
        rw [e, hdo, put_same _ _ _ hdn]; exact hok
      · rename_i hw
        rw [if_neg hw] at hs1
        refine ⟨hs1.1, ?_⟩
        unfold InvD
        rw [hdst]
        show sh k (sl (a.put (some d) undef) d) w
        rw [put_same _ _ _ hdn]; exact hs1.2
/-- operation j waits for operation i -/
def predB (ops : Array Oper) (i j : Nat) : Bool := match ops[j]? with
  | some o => (preds o).contains i
  | none => false
/-- a drawn region by shapes, and by what holds of the world as operations run -/
theorem wp_region_dones {id : Nat} {a0 : Act} {w0 : World} (E : (Nat → Bool) → World → Prop) (R : Nat → World → World → Prop) (sh : Nat → Value → World → Prop) (n : Nat) (hn : a0.tmps.size = n) (hm : P.follows .mixedOrders = true) (hback : backB ops = true) (hdist : distB ops = true) (hdsts : dstsB ops n = true)
    (E0 : E (fun _ => false) w0.drew) (ER : ∀ dn i w w', dn i = false → E dn w → R i w w' → E (fun j => if i = j then true else dn j) w') (keep : ∀ i j v w w', i ≠ j → predB ops i j = false → sh j v w → R i w w' → sh j v w')
    (each : EachE P ops Q a0 E R sh ops.toList 0)
    (fin : ∀ a w dn, E dn w → a.tmps.size = a0.tmps.size → a.defers = a0.defers → (∀ j, j < ops.size → InvD ops sh j (sl a) w) → (∀ t, (ops.toList.all fun o => o.dst != some t) = true → sl a t = sl a0 t) → Q .normal a w) :
    (Code.region id ops true).wp P Q a0 w0 := by
  refine wp_region_done hm hback E R (InvD ops sh) E0 ER ?_ (eachE_of hn _ 0 (fun j o hj => by simpa using hj) hdsts each) fin
  intro i j oi oj σ σ' w w' hij hoi hoj _ hI hR hσ _ hnp
  unfold InvD at hI ⊢
  cases hdj : dstOf ops j with
  | none => trivial
  | some d =>
    rw [hdj] at hI
    show sh j (σ' d) w'
    have hne : oi.dst ≠ some d := by
      intro e
      have hi' : i < ops.size := (Array.getElem?_eq_some_iff.1 hoi).1
      have hj' : j < ops.size := (Array.getElem?_eq_some_iff.1 hoj).1
      have := List.all_eq_true.1 (List.all_eq_true.1 hdist i (List.mem_range.2 hi')) j (List.mem_range.2 hj')
      rw [hoi, hoj] at this
      have hdj' : oj.dst = some d := by simpa [dstOf, hoj] using hdj
      simp [e, hdj', hij] at this
    rw [hσ d hne]
    refine keep i j _ _ _ hij ?_ hI hR
    unfold predB
    rw [hoj]
    show (preds oj).contains i = false
    cases hc : (preds oj).contains i with
    | false => rfl
    | true =>
      have hdo := List.all_eq_true.1 hdsts oi (by rw [Array.mem_toList_iff]; exact Array.mem_of_getElem? hoi)
      cases hd : oi.dst with
      | none => rw [hd] at hdo; simp at hdo
      | some d => exact (hnp d hd (by simpa using hc)).elim
end
end Go.By
