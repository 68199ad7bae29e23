/- The contracts of the reference's functions of layer 2: Dot, Scale. -/
import Derived.Test.YthekakfddhgpcaaW9
import Derived.Test.YthekakfddhgpcaaW8
namespace Go.Proofs.Ythekakfddhgpcaa
open Go.RowKit Go.By
theorem RefMul_q (a b : UInt8) (w : World) : Calls Try.prog 85 #[B8 a, B8 b] w fun e w' => e = .returned (B8 (Gf.gmul a b)) ∧ w' = w :=
  (RefMul_any a b w).mono fun _ _ ⟨h1, h2⟩ => ⟨h1, h2.symm⟩
set_option maxHeartbeats 400000 in
theorem RDot_any (p1 p2 : Option Addr) (n1 n2 c1 c2 : Nat) (xs ys : List UInt8) (w : World) (h1 : Sl B8 w p1 n1 c1 xs) (h2 : Sl B8 w p2 n2 c2 ys) :
    Calls Try.prog 19 #[.slice p1 n1 c1, .slice p2 n2 c2] w fun e w' => e = .returned (.tuple #[B8 (dotS xs ys).1, .int .i64 (dotS xs ys).2]) ∧ Below w.heap.size w w' := by
  by_cases he : n1 = n2
  · obtain rfl := he
    have HR := Lib.hid (show dotS xs ys = (dotF xs ys, 0) by simp [dotS, h1.len, h2.len])
    have hb := h1.bound
    have H1 := Lib.hid h1; have H2 := Lib.hid h2; clear h1 h2
    go_enter Try.func19, Try.ntmps19
    go_wp2
    go_loopw [6, 7] (fun s i wr => ∃ k : Nat, k ≤ n1 ∧ i = .int .i64 k ∧ s = B8 (((List.zipWith Gf.gmul xs ys).take k).foldl (· ^^^ ·) 0) ∧ Below w.heap.size w wr) (fun _ i _ => n1 - (intOf i).toNat)
    case atStart => exact ⟨0, Nat.zero_le _, rfl, rfl, Below.refl _ _⟩
    case round =>
      obtain ⟨k, hk, rfl, rfl, hw⟩ := hrel
      by_cases hlt : k < n1
      · obtain ⟨b, o, x, rfl, hc, hx⟩ := (H1.out.keep hw).at k hlt
        obtain ⟨b', o', y, rfl, hc', hy⟩ := (H2.out.keep hw).at k hlt
        have HZ := Lib.hid (zip_step hx.out hy.out)
        have i1 : (k : Int) < (n1 : Int) := by omega
        generalize ((List.zipWith Gf.gmul xs ys).take k).foldl (· ^^^ ·) 0 = s at HZ ⊢
        go_wp2
        go_quiet ((go_at_call 85; exact Calls.quiet_of_same (RefMul_q _ _ _)))
        go_wp2
        go_roundw
        case rel => exact ⟨k + 1, by omega, by go_num, by rw [HZ.out]; exact B8_congr (bits_xor _ _), ⟨hw.os, hw.tape, hw.output, hw.size, hw.block⟩⟩
        case measure => simp [intOf]; omega
      · go_wp2
        go_ret2
        rw [HR.out]
        refine ⟨?_, hw⟩
        rw [dotF]
        have : (List.zipWith Gf.gmul xs ys).take k = List.zipWith Gf.gmul xs ys := List.take_of_length_le (by simp [H1.out.len, H2.out.len]; omega)
        rw [this]; rfl
  · have HR := Lib.hid (show dotS xs ys = (0, 4) by simp [dotS, h1.len, h2.len, he])
    have b1 := h1.bound; have b2 := h2.bound
    have hne : ((n1 : Int) != (n2 : Int)) = true := by simp; omega
    clear h1 h2
    go_enter Try.func19, Try.ntmps19
    go_wp2
    go_ret2
    rw [HR.out]
    exact ⟨rfl, Below.refl _ _⟩
theorem map_take_succ {α β : Type} (f : α → β) {xs : List α} {k : Nat} {x : α} (hx : xs[k]? = some x) : (xs.take (k + 1)).map f = (xs.take k).map f ++ [f x] := by
  obtain ⟨hk, hx⟩ := List.getElem?_eq_some_iff.1 hx
  rw [List.take_succ_eq_append_getElem hk, List.map_append, hx]; rfl
set_option maxHeartbeats 400000 in
theorem RScale_any (c : UInt8) (p : Option Addr) (n cc : Nat) (xs : List UInt8) (w : World) (h : Sl B8 w p n cc xs) (hn : Room n) :
    Calls Try.prog 25 #[B8 c, .slice p n cc] w (RetB1 5 w (xs.map (Gf.gmul c))) := by
  obtain ⟨i0, hi, hz0, hz1, hz2⟩ := info_parts info_u8
  have hb := h.bound
  have hm := h.max
  have hle := h.le
  have HL := Lib.hid (show n ≤ maxLen by omega)
  clear hm hle
  have H := Lib.hid h; clear h
  go_enter Try.func25, Try.ntmps25
  go_wp2
  go_loopw [5, 6] (fun v i wr => ∃ k : Nat, k ≤ n ∧ i = .int .i64 k ∧ wr.ownsRow w.heap.size 5 1 v k (((xs.take k).map (Gf.gmul c)).map B8) ∧ Below w.heap.size w wr) (fun _ i _ => n - (intOf i).toNat)
  case atStart => exact ⟨0, Nat.zero_le _, rfl, World.ownsRow_nil _ _ _ _, Below.refl _ _⟩
  case round =>
    obtain ⟨k, hk, rfl, ho, hw⟩ := hrel
    obtain ⟨L, eL⟩ : ∃ L, L = ((xs.take k).map (Gf.gmul c)).map B8 := ⟨_, rfl⟩
    rw [← eL] at ho
    have HO := Lib.hid ho; have HEL := Lib.hid eL; clear ho eL
    by_cases hlt : k < n
    · obtain ⟨b, o, x, rfl, hc, hx⟩ := (H.out.keep hw).at k hlt
      go_wp2_with (first
        | (go_at_call 85; refine (RefMul_any _ _ _).mono ?_; rintro e w' ⟨rfl, rfl⟩)
        | (at_builtin; refine wpList_append_rs _ rfl _ _ 22 rfl w.heap.size 5 i0 (.int .u8 0) 1 Try.underlying22 hi hz0 hz1 hz2 rfl _ k _ rfl (HO.out.alloc _) B8 _ _ _ [Gf.gmul c x] (fun _ _ => rfl) rfl (sl_one rfl rfl) ?c1 ?c2 ?c3 ?_))
      case c1 => have := HL.out; omega
      case c2 => unfold Room at hn; omega
      case c3 => have := hw.size; simp; omega
      intro v' w' ho hg
      have HO' := Lib.hid ho; clear ho
      have HB := Lib.hid ((hw.alloc hw.size _).grown hg (by have := hw.size; simp; omega) (fun j hj => (HO.out.lt j hj).1))
      clear hg
      go_wp2
      go_roundw
      case rel => exact ⟨k + 1, by omega, by go_num, by rw [map_take_succ _ hx.out, List.map_append, ← HEL.out]; exact HO'.out, HB.out⟩
      case measure => simp [intOf]; omega
    · go_wp2
      go_ret
      obtain ⟨q, c', hv⟩ := owns_shape HO.out
      have := HO.out
      rw [hv, HEL.out] at this
      have e : xs.take k = xs := List.take_of_length_le (by have := H.out.len; omega)
      rw [e] at this
      exact ⟨q, k, c', by have := H.out.len; show _ = _; rw [List.length_map]; omega, by rw [← hv]; rfl, this, hw⟩
end Go.Proofs.Ythekakfddhgpcaa
