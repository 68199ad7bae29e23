/- The contracts of the reference's functions of layer 2: Dot, Scale. -/
import Derived.Test.YtofhdakggapahaaW9
import Derived.Test.YtofhdakggapahaaW8
namespace Go.Proofs.Ytofhdakggapahaa
open Go.RowKit Go.By
theorem RefMul_q (a b : UInt8) (w : World) : Calls Try.prog 65 #[B8 a, B8 b] w fun e w' => e = .returned (B8 (Gf.gmul a b)) ∧ w' = w :=
  (RefMul_any a b w).mono fun _ _ ⟨h1, h2⟩ => ⟨h1, h2.symm⟩
theorem map_take_succ {α β : Type} (f : α → β) {xs : List α} {k : Nat} {x : α} (hx : xs[k]? = some x) : (xs.take (k + 1)).map f = (xs.take k).map f ++ [f x] := by
  obtain ⟨hk, hx⟩ := List.getElem?_eq_some_iff.1 hx
  rw [List.take_succ_eq_append_getElem hk, List.map_append, hx]; rfl
set_option maxHeartbeats 400000 in
theorem RScale_any (c : UInt8) (p : Option Addr) (n cc : Nat) (xs : List UInt8) (w : World) (h : Sl B8 w p n cc xs) (hn : Room n) :
    Calls Try.prog 102 #[B8 c, .slice p n cc] w (RetB1 5 w (xs.map (Gf.gmul c))) := by
  obtain ⟨i0, hi, hz0, hz1, hz2⟩ := info_parts info_u8
  have hb := h.bound
  have hm := h.max
  have hle := h.le
  have HL := Lib.hid (show n ≤ maxLen by omega)
  clear hm hle
  have H := Lib.hid h; clear h
  go_enter Try.func102, Try.ntmps102
  go_wp2
  go_loopw [5, 6] (fun v i wr => ∃ k : Nat, k ≤ n ∧ i = .int .i64 k ∧ wr.ownsRow w.heap.size 5 1 v k (((xs.take k).map (Gf.gmul c)).map B8) ∧ Below w.heap.size w wr) (fun _ i _ => n - (intOf i).toNat)
  case atStart => exact ⟨0, Nat.zero_le _, rfl, World.ownsRow_nil _ _ _ _, Below.refl _ _⟩
  case round =>
    obtain ⟨k, hk, rfl, ho, hw⟩ := hrel
    obtain ⟨L, eL⟩ : ∃ L, L = ((xs.take k).map (Gf.gmul c)).map B8 := ⟨_, rfl⟩
    rw [← eL] at ho
    have HO := Lib.hid ho; have HEL := Lib.hid eL; clear ho eL
    by_cases hlt : k < n
    · obtain ⟨b, o, x, rfl, hc, hx⟩ := (H.out.keep hw).at k hlt
      go_wp2_with (first
        | (go_at_call 65; refine (RefMul_any _ _ _).mono ?_; rintro e w' ⟨rfl, rfl⟩)
        | (at_builtin; refine wpList_append_rs _ rfl _ _ 25 rfl w.heap.size 5 i0 (.int .u8 0) 1 Try.underlying25 hi hz0 hz1 hz2 rfl _ k _ rfl (HO.out.alloc _) B8 _ _ _ [Gf.gmul c x] (fun _ _ => rfl) rfl (sl_one rfl rfl) ?c1 ?c2 ?c3 ?_))
      case c1 => have := HL.out; omega
      case c2 => unfold Room at hn; omega
      case c3 => have := hw.size; simp; omega
      intro v' w' ho hg
      have HO' := Lib.hid ho; clear ho
      have HB := Lib.hid ((hw.alloc hw.size _).grown hg (by have := hw.size; simp; omega) (fun j hj => (HO.out.lt j hj).1))
      clear hg
      go_wp2
      go_roundw
      case rel => exact ⟨k + 1, by omega, by go_num, by rw [map_take_succ _ hx.out, List.map_append, ← HEL.out]; exact HO'.out, HB.out⟩
      case measure => simp [intOf]; omega
    · go_wp2
      go_ret
      obtain ⟨q, c', hv⟩ := owns_shape HO.out
      have := HO.out
      rw [hv, HEL.out] at this
      have e : xs.take k = xs := List.take_of_length_le (by have := H.out.len; omega)
      rw [e] at this
      exact ⟨q, k, c', by have := H.out.len; show _ = _; rw [List.length_map]; omega, by rw [← hv]; rfl, this, hw⟩
end Go.Proofs.Ytofhdakggapahaa
