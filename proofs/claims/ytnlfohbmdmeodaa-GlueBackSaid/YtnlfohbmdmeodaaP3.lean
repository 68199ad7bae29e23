/- The contracts of slices.Grow and Concat at bytes; of the whole of the symbols. -/
import Derived.Test.YtnlfohbmdmeodaaP1
import Derived.Lib.AppendZeros
namespace Go.Proofs.Ytnlfohbmdmeodaa
open Go.RowKit Go.By
set_option maxRecDepth 100000 in
set_option maxHeartbeats 1000000 in
theorem GrowNil_any (N : Nat) (w : World) (hN : Room N) :
    Calls Try.prog 36 #[.slice none 0 0, .int .i64 N] w fun e w' => ∃ q c', e = .returned (.slice q 0 c') ∧ w'.ownsRow w.heap.size 5 1 (.slice q 0 c') 0 [] ∧ Below w.heap.size w w' := by
  obtain ⟨i0, hi, hz0, hz1, hz2⟩ := info_parts info_u8
  by_cases h0 : N = 0
  · subst h0
    go_enter Try.func36, Try.ntmps36
    go_wp2
    go_ret
    exact ⟨none, 0, rfl, World.ownsRow_nil _ _ _ _, Below.refl _ _⟩
  · have hp : 0 < N := by omega
    unfold Room at hN
    have hr := fun ty => Lib.run_append_nil_zeros (P := Try.prog) w 28 3 ty 5 i0 (.int .u8 0) .i64 .i64 Try.underlying28 Try.underlying3 hi hz0 N hp (by rw [hz1]; omega) (by omega) (by rw [hz2]; omega)
    have g1 := grownCap_ge w N 0 5
    have g2 := grownCap_le_maxLen w N 0 5 (by unfold maxLen; omega)
    generalize grownCap w N 0 5 = G at *
    have G2 := Lib.hid g2
    unfold maxLen at g2
    have HR := Lib.hid hr; clear hr
    clear h0
    go_enter Try.func36, Try.ntmps36
    go_wp2_with (at_builtin; refine Lib.wpList_append_run _ rfl _ _ _ _ rfl _ _ rfl rfl _ _ (HR.out _) ?_)
    go_ret
    refine ⟨_, G, rfl, ⟨rfl, .inr ⟨w.heap.size, G, _, rfl, Nat.le_refl _, hnew rfl, Nat.zero_le _, G2.out, ?_, by simp⟩⟩, al (w1 := w.drew) ⟨rfl, rfl, rfl, Nat.le_refl _, fun _ _ => rfl⟩ (Nat.le_refl _)⟩
    simp [size_zeroCells, Value.cells]; omega
theorem flat_take {xss : List (List UInt8)} {k : Nat} {xs : List UInt8} (h : xss[k]? = some xs) : (xss.take (k + 1)).flatten = (xss.take k).flatten ++ xs := by
  obtain ⟨hk, h⟩ := List.getElem?_eq_some_iff.1 h
  rw [List.take_succ_eq_append_getElem hk, h, List.flatten_append]; simp
theorem flat_le (xss : List (List UInt8)) (k : Nat) : (xss.take k).flatten.length ≤ xss.flatten.length := by
  have : xss.flatten = (xss.take k).flatten ++ (xss.drop k).flatten := by rw [← List.flatten_append, List.take_append_drop]
  rw [this]; simp
set_option maxRecDepth 100000 in
set_option maxHeartbeats 1000000 in
theorem Concat_any (p : Option Addr) (n c : Nat) (xss : List (List UInt8)) (w : World) (h : Sl2 w p n c xss) (hr : Room xss.flatten.length) :
    Calls Try.prog 29 #[.slice p n c] w (RetB1 5 w xss.flatten) := by
  obtain ⟨i0, hi, hz0, hz1, hz2⟩ := info_parts info_u8
  have hn := h.bound
  obtain ⟨F, hF⟩ : ∃ F : Nat → List UInt8, F = fun k => (xss.take k).flatten := ⟨_, rfl⟩
  have HF : Hid (∀ k xs, xss[k]? = some xs → F (k + 1) = F k ++ xs) := fun k xs hx => by subst hF; exact flat_take hx
  have HM : Hid (∀ k, (F k).length ≤ 140737488355328) := fun k => by subst hF; exact Nat.le_trans (flat_le xss k) hr
  have HN : Hid (F n = xss.flatten) := by subst hF; show (xss.take n).flatten = _; rw [List.take_of_length_le (by rw [h.len]; omega)]
  have H0 : Hid (F 0 = []) := by subst hF; rfl
  obtain ⟨T, hT⟩ : ∃ T : Nat → Nat, T = fun k => (F k).length := ⟨_, rfl⟩
  have HL : Hid (∀ k, (F k).length = T k) := fun k => by subst hT; rfl
  have HT0 : T 0 = 0 := by rw [← HL.out, H0.out]; rfl
  have H := Lib.hid h
  have HTn : Hid (∀ k, T k ≤ 140737488355328) := fun k => by rw [← HL.out]; exact HM.out k
  clear h hr hF hT
  go_enter Try.func29, Try.ntmps29
  go_wp2
  go_loop [3, 11] (fun s i => ∃ k : Nat, k ≤ n ∧ i = .int .i64 k ∧ s = .int .i64 (T k)) (fun _ i => n - (intOf i).toNat)
  case atStart => exact ⟨0, Nat.zero_le _, rfl, by rw [HT0]; rfl⟩
  case round =>
    obtain ⟨k, hk, rfl, rfl⟩ := hrel
    have t1 := HTn.out k
    by_cases hlt : k < n
    · obtain ⟨b, o, q, m, c', xs, rfl, hc, hs, hx⟩ := H.out.at k hlt
      have e1 : T (k + 1) = T k + m := by rw [← HL.out, HF.out k xs hx.out, List.length_append, HL.out, hs.len]
      have t2 := HTn.out (k + 1)
      have hm := hs.bound
      have t3 : T k + m ≤ 140737488355328 := by omega
      have E1 := Lib.hid e1
      clear e1 t2 hs
      go_wp2
      go_round
      case rel => exact ⟨k + 1, by omega, by go_num, by rw [E1.out]; go_num⟩
      case measure => simp [intOf]; omega
    · have hkn : k = n := by omega
      subst hkn
      go_wp2_with fail
      refine (GrowNil_any (T k) w t1).mono ?_; rintro e w1 ⟨q0, c0, rfl, ho, hb⟩
      have HO := Lib.hid ho; clear ho
      go_wp2
      go_loopw [6, 27] (fun v i wr => ∃ (j : Nat) (q : Option Addr) (c' : Nat), j ≤ k ∧ i = .int .i64 j ∧ v = .slice q (T j) c' ∧ Hid (wr.ownsRow w.heap.size 5 1 (.slice q (T j) c') (T j) ((F j).map B8)) ∧ Below w.heap.size w wr) (fun _ i _ => k - (intOf i).toNat)
      case atStart => exact ⟨0, q0, c0, Nat.zero_le _, rfl, by rw [HT0], by rw [HT0, H0.out]; exact HO.out, hb⟩
      case round =>
        obtain ⟨j, q, c', hj, rfl, rfl, hov, hbv⟩ := hrel
        have s1 := HTn.out j
        by_cases hjk : j < k
        · obtain ⟨b, o, q', m, c'', xs, rfl, hc, hs, hx⟩ := H.out.at j hjk
          have hcw := (hbv.cell (p := ⟨b, o + j, none⟩) (lt_of_cell hc)).trans hc
          have e1 : T (j + 1) = T j + m := by rw [← HL.out, HF.out j xs hx.out, List.length_append, HL.out, hs.len]
          have e2 : F (j + 1) = F j ++ xs := HF.out j xs hx.out
          have t2 := HTn.out (j + 1)
          have hm := hs.bound
          have t3 : T j + m ≤ 140737488355328 := by omega
          have HS := Lib.hid hs
          have E1 := Lib.hid e1; have E2 := Lib.hid e2
          clear e1 e2 t2 hs
          go_wp2_with (at_builtin; refine wpList_append_rs _ rfl _ _ 28 rfl w.heap.size 5 i0 (.int .u8 0) 1 Try.underlying28 hi hz0 hz1 hz2 rfl _ (T j) _ rfl hov.out B8 _ _ _ xs (fun _ _ => rfl) rfl (HS.out.keep hbv) ?c1 ?c2 ?c3 ?_)
          case c1 => unfold maxLen; omega
          case c2 => omega
          case c3 => exact hbv.size
          intro v' w' ho' hg'
          obtain ⟨q2, c2, rfl⟩ := owns_shape ho'
          have hb' : Below w.heap.size w w' := hbv.grown hg' hbv.size (fun r hr' => (hov.out.lt r hr').1)
          clear hg'
          go_wp2
          go_roundw
          case rel => exact ⟨j + 1, q2, c2, by omega, by go_num, by rw [E1.out], by rw [E1.out, E2.out, List.map_append]; exact ho', hb'⟩
          case measure => simp [intOf]; omega
        · have hjk' : j = k := by omega
          subst hjk'
          go_wp2
          go_ret
          refine ⟨q, T j, c', ?_, rfl, ?_, hbv⟩
          · rw [← HN.out]; exact HL.out j
          · rw [← HN.out]; exact hov.out
end Go.Proofs.Ytnlfohbmdmeodaa
