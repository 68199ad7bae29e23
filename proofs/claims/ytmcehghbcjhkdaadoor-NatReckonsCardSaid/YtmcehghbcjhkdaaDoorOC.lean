/- The reference's numbers: Add, Sub. -/
import Derived.Test.YtmcehghbcjhkdaaDoorNV
namespace Go.By
open Go.RowKit
/-- the byte at a place, or 0 -/
def dB (xs : List UInt8) (i : Nat) : Nat := digAt (xs.map UInt8.toNat) i
theorem dB_at {xs : List UInt8} {i : Nat} {x : UInt8} (h : xs[i]? = some x) : dB xs i = x.toNat := by
  unfold dB digAt; rw [List.getD_eq_getElem?_getD, List.getElem?_map, h]; rfl
theorem dB_none {xs : List UInt8} {i : Nat} (h : xs.length ≤ i) : dB xs i = 0 := by
  unfold dB digAt; rw [List.getD_eq_getElem?_getD, List.getElem?_map, List.getElem?_eq_none h]; rfl
theorem dB_lt (xs : List UInt8) (i : Nat) : dB xs i < 256 := by
  rcases Nat.lt_or_ge i xs.length with h | h
  · rw [dB_at (List.getElem?_eq_getElem h)]; exact UInt8.toNat_lt _
  · rw [dB_none h]; decide
theorem valB_takeD (xs : List UInt8) (i : Nat) : valB (xs.take (i + 1)) = valB (xs.take i) + 256 ^ i * dB xs i := by
  unfold valB dB
  rw [List.map_take, List.map_take]
  exact valD_takeD 256 i _
theorem valB_all {xs : List UInt8} {k : Nat} (h : xs.length ≤ k) : valB (xs.take k) = valB xs := by rw [List.take_of_length_le h]
theorem valB_nil : valB [] = 0 := rfl
/-- bytes of a number -/
def RetV (w : World) (N : Nat) (e : Ending) (w' : World) : Prop := ∃ q n c, e = .returned (.slice q n c) ∧ Sl B8 w' q n c (bytesN N) ∧ Below w.heap.size w w'
theorem subB_end {S A B n c : Nat} (h : S + B = A + 256 ^ n * c) (hS : S < 256 ^ n) (hle : B ≤ A) : S = A - B := by
  cases c with
  | zero => omega
  | succ c => rw [Nat.mul_succ] at h; omega
end Go.By
namespace Go.Proofs.YtmcehghbcjhkdaaDoor
open Go.RowKit Go.By
set_option maxRecDepth 100000 in
set_option maxHeartbeats 1000000 in
theorem at_ref (q : Option Addr) (n c : Nat) (xs : List UInt8) (i : Nat) (w : World) (h : Sl B8 w q n c xs) (hi : i ≤ 1000000) :
    Calls Tryd.prog 38 #[.slice q n c, .int .i64 i] w fun e w' => e = .returned (.int .i64 (dB xs i)) ∧ w = w' := by
  have hl := h.len; have hb := h.bound
  rcases Nat.lt_or_ge i n with hlt | hge
  · obtain ⟨b, o, x, rfl, hc, hx⟩ := h.at i hlt
    have HD : Hid (dB xs i = x.toNat) := dB_at hx.out
    have hlt' : (i : Int) < (n : Int) := by omega
    have hx256 := x.toNat_lt
    clear h hx hl hlt
    go_enter Tryd.func38, Tryd.ntmps38
    go_wp2
    go_ret
    exact ⟨by rw [HD.out]; rfl, rfl⟩
  · have HD : Hid (dB xs i = 0) := dB_none (by omega)
    have hge' : ¬ (i : Int) < (n : Int) := by omega
    clear h hl hge
    go_enter Tryd.func38, Tryd.ntmps38
    go_wp2
    go_ret
    exact ⟨by rw [HD.out]; rfl, rfl⟩
set_option maxRecDepth 100000 in
set_option maxHeartbeats 4000000 in
theorem Add_ref (p q : Option Addr) (n c m d : Nat) (xs ys : List UInt8) (w : World) (h1 : Sl B8 w p n c xs) (h2 : Sl B8 w q m d ys) (hn : n ≤ 10000) (hm : m ≤ 10000) :
    Calls Tryd.prog 24 #[.slice p n c, .slice q m d] w (RetV w (valB xs + valB ys)) := by
  obtain ⟨i0, hi, hz0, hz1, hz2⟩ := info_parts info_u8
  have HL : Hid (xs.length = n ∧ ys.length = m) := ⟨h1.len, h2.len⟩
  have H1 := Lib.hid h1; have H2 := Lib.hid h2
  clear h1 h2
  go_enter Tryd.func24, Tryd.ntmps24
  go_wp2
  go_loopw [5, 6, 7] (fun ov cv iv wr => ∃ (k cy : Nat) (q : Option Addr) (cc : Nat) (O : List UInt8), k + cy ≤ max n m + 1 ∧ cy ≤ 1 ∧ ov = .slice q k cc ∧ cv = .int .i64 cy ∧ iv = .int .i64 k ∧ Hid (O.length = k) ∧ Hid (wr.ownsRow w.heap.size 5 1 (.slice q k cc) k (O.map B8)) ∧ Hid (valB O + 256 ^ k * cy = valB (xs.take k) + valB (ys.take k)) ∧ Hid (Below w.heap.size w wr)) (fun _ cv iv _ => (max n m - (intOf iv).toNat) * 2 + (intOf cv).toNat)
  case atStart => exact ⟨0, 0, none, 0, [], by omega, by omega, rfl, rfl, rfl, rfl, World.ownsRow_nil _ _ _ _, by show _ = _; rw [List.take_zero, List.take_zero, valB_nil], Below.refl _ _⟩
  case round =>
    obtain ⟨k, cy, q', cc, O, hk, hcy, rfl, rfl, rfl, hOl, hO, hV, hB⟩ := hrel
    have hxl := dB_lt xs k
    have hyl := dB_lt ys k
    obtain ⟨x, hx⟩ : ∃ x, x = dB xs k := ⟨_, rfl⟩
    obtain ⟨y, hy⟩ : ∃ y, y = dB ys k := ⟨_, rfl⟩
    by_cases hgo : k < n ∨ k < m ∨ 0 < cy
    · have CX : Hid (∀ W, Below wr.heap.size wr W → Calls Tryd.prog 38 #[.slice p n c, .int .i64 k] W fun e w' => e = .returned (.int .i64 x) ∧ W = w') := fun W hb => by
        rw [hx]; exact at_ref p n c xs k W ((H1.out.keep hB.out).keep hb) (by omega)
      have CY : Hid (∀ W, Below wr.heap.size wr W → Calls Tryd.prog 38 #[.slice q m d, .int .i64 k] W fun e w' => e = .returned (.int .i64 y) ∧ W = w') := fun W hb => by
        rw [hy]; exact at_ref q m d ys k W ((H2.out.keep hB.out).keep hb) (by omega)
      obtain ⟨s, hs⟩ : ∃ s, s = UInt8.ofNat ((x + y + cy) % 256) := ⟨_, rfl⟩
      have hsn : ((x : Int) + (y : Int) + (cy : Int)) % 256 = (s.toNat : Int) := by rw [hs]; simp
      have hs2 : s.toNat = (x + y + cy) % 256 := by rw [hs]; simp
      have HV : Hid (valB (O ++ [s]) + 256 ^ (k + 1) * ((x + y + cy) / 256) = valB (xs.take (k + 1)) + valB (ys.take (k + 1))) := by
        show _ = _
        rw [valB_snoc, hOl.out, valB_takeD xs, valB_takeD ys, ← hx, ← hy]
        exact add_step hV.out hs2 rfl
      have hOA : Hid (∀ o, (wr.alloc o).ownsRow w.heap.size 5 1 (.slice q' k cc) k (O.map B8)) := fun o => owns_keep hO.out (al (Below.refl _ _) (Nat.le_refl _))
      have hsz := hB.out.size
      have hs256 := s.toNat_lt
      have hx0 : (x : Int) ≤ 255 := by omega
      have hy0 : (y : Int) ≤ 255 := by omega
      have hcy0 : (cy : Int) ≤ 1 := by omega
      have hk3 : k ≤ 10001 := by omega
      obtain ⟨cy', hcy'⟩ : ∃ cy', cy' = (x + y + cy) / 256 := ⟨_, rfl⟩
      rw [← hcy'] at HV
      have hcyi : ((x : Int) + (y : Int) + (cy : Int)) / 256 = (cy' : Int) := by omega
      have hcy1 : cy' ≤ 1 := by omega
      have HZ : Hid (max n m ≤ k → x = 0 ∧ y = 0) := fun hmx => ⟨by rw [hx]; exact dB_none (by have := HL.out.1; omega), by rw [hy]; exact dB_none (by have := HL.out.2; omega)⟩
      have HG : Hid (k + 1 + cy' ≤ max n m + 1 ∧ (max n m - (k + 1)) * 2 + cy' < (max n m - k) * 2 + cy) := by
        rcases Nat.lt_or_ge k (max n m) with h | h
        · refine ⟨by omega, by omega⟩
        · obtain ⟨e1, e2⟩ := HZ.out h
          have : 0 < cy := by omega
          refine ⟨by omega, by omega⟩
      have HS := Lib.hid hsn
      have HC := Lib.hid hcyi
      clear hx hy hs hs2 hV hcy' HZ hxl hyl hsn hcyi
      have hgo' : (k : Int) < (n : Int) ∨ (¬ (k : Int) < (n : Int) ∧ (k : Int) < (m : Int)) ∨ (¬ (k : Int) < (n : Int) ∧ ¬ (k : Int) < (m : Int) ∧ (0 : Int) < (cy : Int)) := by omega
      clear hgo
      rcases hgo' with g1 | ⟨g1, g2⟩ | ⟨g1, g2, g3⟩
      all_goals
        go_wp2_with fail
        refine Calls.mono (CX.out _ (Below.refl _ _)) ?_
        rintro e w' ⟨rfl, rfl⟩
        go_wp2_with fail
        refine Calls.mono (CY.out _ (Below.refl _ _)) ?_
        rintro e w' ⟨rfl, rfl⟩
        have HS1 := HS.out
        have HC1 := HC.out
        go_wp2_with (at_builtin; refine wpList_append_own _ rfl _ _ 34 rfl w.heap.size 5 i0 (.int .u8 0) 1 1 Tryd.underlying34 hi hz0 hz1 hz2 rfl (by omega) _ k (O.map B8) rfl (hOA.out _) ⟨wr.heap.size, 0, none⟩ 1 1 [B8 s] rfl rfl (one_cell rfl) ?c2 ?c3 ?c4 ?c5 ?_)
        case c2 => intro y hy; simp at hy; subst hy; rfl
        case c3 => unfold maxLen; omega
        case c4 => omega
        case c5 => simp; omega
        intro v' w' ho' hg' _
        obtain ⟨q2, c2, rfl⟩ := owns_shape ho'
        have FIN : Hid (w'.ownsRow w.heap.size 5 1 (.slice q2 (k + 1) c2) (k + 1) ((O ++ [s]).map B8) ∧ Below w.heap.size w w' ∧ (O ++ [s]).length = k + 1) := by
          refine ⟨?_, ?_, by rw [List.length_append, hOl.out]; rfl⟩
          · rw [List.map_append]; exact ho'
          · exact (al hB.out hsz).grown hg' (by simp; omega) (fun rr hrr => (hO.out.lt rr hrr).1)
        clear ho' hg' hO hB hOA hOl CX CY HS1 HS
        go_wp2
        go_roundw
        case rel => exact ⟨k + 1, cy', q2, c2, O ++ [s], by have := HG.out.1; omega, hcy1, by go_num, by rw [HC.out], by go_num, FIN.out.2.2, FIN.out.1, HV.out, FIN.out.2.1⟩
        case measure => simp [intOf]; have := HG.out.2; omega
    · have hcy0 : cy = 0 := by omega
      subst hcy0
      have g1 : (n : Int) ≤ (k : Int) := by omega
      have g2 : (m : Int) ≤ (k : Int) := by omega
      have HV : Hid (valB O = valB xs + valB ys) := by
        have h1 := hV.out
        rw [valB_all (by have := HL.out.1; omega), valB_all (by have := HL.out.2; omega)] at h1
        show _ = _; omega
      have HS := Lib.hid (Sl.of_owns hO.out)
      clear hx hy hgo hV hO hxl hyl
      go_wp2_with fail
      refine Calls.mono (Trim_ref _ _ _ O wr HS.out) ?_
      rintro e w1 ⟨q2, n2, c2, rfl, hs2, rfl⟩
      rw [HV.out] at hs2
      have HS2 := Lib.hid hs2
      clear hs2
      go_wp2
      go_ret
      exact ⟨_, _, _, rfl, HS2.out, hB.out⟩
end Go.Proofs.YtmcehghbcjhkdaaDoor
