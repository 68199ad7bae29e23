/- The reference's numbers: Sub. -/
import Derived.Test.YtmcehghbcjhkdaaDoorOC
namespace Go.Proofs.YtmcehghbcjhkdaaDoor
open Go.RowKit Go.By
set_option maxRecDepth 100000 in
set_option maxHeartbeats 4000000 in
theorem Sub_ref (p q : Option Addr) (n c m d : Nat) (xs ys : List UInt8) (w : World) (h1 : Sl B8 w p n c xs) (h2 : Sl B8 w q m d ys) (hn : n ≤ 10000) (hm : m ≤ n) (hle : valB ys ≤ valB xs) :
    Calls Tryd.prog 26 #[.slice p n c, .slice q m d] w (RetV w (valB xs - valB ys)) := by
  obtain ⟨i0, hi, hz0, hz1, hz2⟩ := info_parts info_u8
  have HL : Hid (xs.length = n ∧ ys.length = m) := ⟨h1.len, h2.len⟩
  have H1 := Lib.hid h1; have H2 := Lib.hid h2; have HLE := Lib.hid hle
  clear h1 h2 hle
  go_enter Tryd.func26, Tryd.ntmps26
  go_wp2
  go_loopw [5, 6, 7] (fun ov cv iv wr => ∃ (k cy : Nat) (q : Option Addr) (cc : Nat) (O : List UInt8), k ≤ n ∧ cy ≤ 1 ∧ ov = .slice q k cc ∧ cv = .int .i64 cy ∧ iv = .int .i64 k ∧ Hid (O.length = k) ∧ Hid (wr.ownsRow w.heap.size 5 1 (.slice q k cc) k (O.map B8)) ∧ Hid (valB O + valB (ys.take k) = valB (xs.take k) + 256 ^ k * cy) ∧ Hid (Below w.heap.size w wr)) (fun _ _ iv _ => n - (intOf iv).toNat)
  case atStart => exact ⟨0, 0, none, 0, [], by omega, by omega, rfl, rfl, rfl, rfl, World.ownsRow_nil _ _ _ _, by show _ = _; rw [List.take_zero, List.take_zero, valB_nil], Below.refl _ _⟩
  case round =>
    obtain ⟨k, cy, q', cc, O, hk, hcy, rfl, rfl, rfl, hOl, hO, hV, hB⟩ := hrel
    have hxl := dB_lt xs k
    have hyl := dB_lt ys k
    obtain ⟨x, hx⟩ : ∃ x, x = dB xs k := ⟨_, rfl⟩
    obtain ⟨y, hy⟩ : ∃ y, y = dB ys k := ⟨_, rfl⟩
    by_cases hgo : k < n
    · have CX : Hid (∀ W, Below wr.heap.size wr W → Calls Tryd.prog 38 #[.slice p n c, .int .i64 k] W fun e w' => e = .returned (.int .i64 x) ∧ W = w') := fun W hb => by
        rw [hx]; exact at_ref p n c xs k W ((H1.out.keep hB.out).keep hb) (by omega)
      have CY : Hid (∀ W, Below wr.heap.size wr W → Calls Tryd.prog 38 #[.slice q m d, .int .i64 k] W fun e w' => e = .returned (.int .i64 y) ∧ W = w') := fun W hb => by
        rw [hy]; exact at_ref q m d ys k W ((H2.out.keep hB.out).keep hb) (by omega)
      have fin : Hid (∀ (s : UInt8) (c' : Nat), s.toNat + y + cy = x + 256 * c' → valB (O ++ [s]) + valB (ys.take (k + 1)) = valB (xs.take (k + 1)) + 256 ^ (k + 1) * c') := fun s c' he => by
        rw [valB_snoc, hOl.out, valB_takeD xs, valB_takeD ys, ← hx, ← hy]
        exact sub_step hV.out he
      have hOA : Hid (∀ o, (wr.alloc o).ownsRow w.heap.size 5 1 (.slice q' k cc) k (O.map B8)) := fun o => owns_keep hO.out (al (Below.refl _ _) (Nat.le_refl _))
      have hsz := hB.out.size
      have hx0 : (x : Int) ≤ 255 := by omega
      have hy0 : (y : Int) ≤ 255 := by omega
      have hcy0 : (cy : Int) ≤ 1 := by omega
      have hgo' : (k : Int) < (n : Int) := by omega
      have hkb : k ≤ 10000 := by omega
      clear hx hy hV hxl hyl
      by_cases hneg : x < y + cy
      · obtain ⟨s, hs⟩ : ∃ s, s = UInt8.ofNat (x + 256 - y - cy) := ⟨_, rfl⟩
        have hs2 : s.toNat = x + 256 - y - cy := by rw [hs]; simp; omega
        have hsn : (x : Int) - (y : Int) - (cy : Int) + 256 = (s.toNat : Int) := by omega
        have HV := Lib.hid (fin.out s 1 (by omega))
        have hn1 : (x : Int) - (y : Int) - (cy : Int) < 0 := by omega
        have hn2 : -256 ≤ (x : Int) - (y : Int) - (cy : Int) := by omega
        have hs256 := s.toNat_lt
        have HS := Lib.hid hsn
        clear hs hs2 hneg fin hsn
        go_wp2_with fail
        refine Calls.mono (CX.out _ (Below.refl _ _)) ?_
        rintro e w' ⟨rfl, rfl⟩
        go_wp2_with fail
        refine Calls.mono (CY.out _ (Below.refl _ _)) ?_
        rintro e w' ⟨rfl, rfl⟩
        have HS1 := HS.out
        go_wp2_with (at_builtin; refine wpList_append_own _ rfl _ _ 34 rfl w.heap.size 5 i0 (.int .u8 0) 1 1 Tryd.underlying34 hi hz0 hz1 hz2 rfl (by omega) _ k (O.map B8) rfl (hOA.out _) ⟨wr.heap.size, 0, none⟩ 1 1 [B8 s] rfl rfl (one_cell rfl) ?c2 ?c3 ?c4 ?c5 ?_)
        case c2 => intro y hy; simp at hy; subst hy; rfl
        case c3 => unfold maxLen; omega
        case c4 => omega
        case c5 => simp; omega
        intro v' w' ho' hg' _
        obtain ⟨q2, c2, rfl⟩ := owns_shape ho'
        have FIN : Hid (w'.ownsRow w.heap.size 5 1 (.slice q2 (k + 1) c2) (k + 1) ((O ++ [s]).map B8) ∧ Below w.heap.size w w' ∧ (O ++ [s]).length = k + 1) := by
          refine ⟨?_, ?_, by rw [List.length_append, hOl.out]; rfl⟩
          · rw [List.map_append]; exact ho'
          · exact (al hB.out hsz).grown hg' (by simp; omega) (fun rr hrr => (hO.out.lt rr hrr).1)
        clear ho' hg' hO hB hOA hOl CX CY HS1 HS
        go_wp2
        go_roundw
        case rel => exact ⟨k + 1, 1, q2, c2, O ++ [s], by omega, by omega, by go_num, rfl, by go_num, FIN.out.2.2, FIN.out.1, HV.out, FIN.out.2.1⟩
        case measure => simp [intOf]; omega
      · obtain ⟨s, hs⟩ : ∃ s, s = UInt8.ofNat (x - y - cy) := ⟨_, rfl⟩
        have hs2 : s.toNat = x - y - cy := by rw [hs]; simp; omega
        have hsn : (x : Int) - (y : Int) - (cy : Int) = (s.toNat : Int) := by omega
        have HV := Lib.hid (fin.out s 0 (by omega))
        have hn1 : ¬ (x : Int) - (y : Int) - (cy : Int) < 0 := by omega
        have hn2 : 0 ≤ (x : Int) - (y : Int) - (cy : Int) := by omega
        have hs256 := s.toNat_lt
        have HS := Lib.hid hsn
        clear hs hs2 hneg fin hsn
        go_wp2_with fail
        refine Calls.mono (CX.out _ (Below.refl _ _)) ?_
        rintro e w' ⟨rfl, rfl⟩
        go_wp2_with fail
        refine Calls.mono (CY.out _ (Below.refl _ _)) ?_
        rintro e w' ⟨rfl, rfl⟩
        have HS1 := HS.out
        go_wp2_with (at_builtin; refine wpList_append_own _ rfl _ _ 34 rfl w.heap.size 5 i0 (.int .u8 0) 1 1 Tryd.underlying34 hi hz0 hz1 hz2 rfl (by omega) _ k (O.map B8) rfl (hOA.out _) ⟨wr.heap.size, 0, none⟩ 1 1 [B8 s] rfl rfl (one_cell rfl) ?c2 ?c3 ?c4 ?c5 ?_)
        case c2 => intro y hy; simp at hy; subst hy; rfl
        case c3 => unfold maxLen; omega
        case c4 => omega
        case c5 => simp; omega
        intro v' w' ho' hg' _
        obtain ⟨q2, c2, rfl⟩ := owns_shape ho'
        have FIN : Hid (w'.ownsRow w.heap.size 5 1 (.slice q2 (k + 1) c2) (k + 1) ((O ++ [s]).map B8) ∧ Below w.heap.size w w' ∧ (O ++ [s]).length = k + 1) := by
          refine ⟨?_, ?_, by rw [List.length_append, hOl.out]; rfl⟩
          · rw [List.map_append]; exact ho'
          · exact (al hB.out hsz).grown hg' (by simp; omega) (fun rr hrr => (hO.out.lt rr hrr).1)
        clear ho' hg' hO hB hOA hOl CX CY HS1 HS
        go_wp2
        go_roundw
        case rel => exact ⟨k + 1, 0, q2, c2, O ++ [s], by omega, by omega, by go_num, rfl, by go_num, FIN.out.2.2, FIN.out.1, HV.out, FIN.out.2.1⟩
        case measure => simp [intOf]; omega
    · obtain rfl : k = n := by omega
      have HV : Hid (valB O = valB xs - valB ys) := by
        have h1 := hV.out
        rw [valB_all (xs := ys) (by have := HL.out.2; omega), valB_all (xs := xs) (by have := HL.out.1; omega)] at h1
        have hS := valB_lt O
        rw [hOl.out] at hS
        exact subB_end h1 hS HLE.out
      have HS := Lib.hid (Sl.of_owns hO.out)
      clear hx hy hgo hV hO hxl hyl
      go_wp2_with fail
      refine Calls.mono (Trim_ref _ _ _ O wr HS.out) ?_
      rintro e w1 ⟨q2, n2, c2, rfl, hs2, rfl⟩
      rw [HV.out] at hs2
      have HS2 := Lib.hid hs2
      clear hs2
      go_wp2
      go_ret
      exact ⟨_, _, _, rfl, HS2.out, hB.out⟩
end Go.Proofs.YtmcehghbcjhkdaaDoor
