/- The contracts of the reference's All and of the law's few; the chapter's example. -/
import Derived.Test.YtnlfohbmdmeodaaP5
import Derived.Test.YtnlfohbmdmeodaaP2
namespace Go.Proofs.Ytnlfohbmdmeodaa
open Go.RowKit Go.By
set_option maxRecDepth 100000 in
set_option maxHeartbeats 1000000 in
theorem RAll_any (l s n d : Int) (p : Option Addr) (m c : Nat) (xss : List (List UInt8)) (w : World) (h : Sl2 w p m c xss) (hl2 : l ≤ 9223372036854775807) :
    Calls Try.prog 8 #[.agg #[.int .i64 l, .int .i64 s, .int .i64 n, .int .u32 d], .slice p m c] w (RetB 5 w (wholeS l s n xss).1 (wholeS l s n xss).2) := by
  obtain ⟨i0, hi, hz0, hz1, hz2⟩ := info_parts info_u8
  have HC := Lib.hid (fun w => RCheck_any l s n d w hl2)
  have hB := fun o => al (o := o) (Below.refl w.heap.size w) (Nat.le_refl _)
  by_cases h0 : checkS l s n = 0
  · rw [h0] at HC
    obtain ⟨g1, g2, g3, g4, g5⟩ := checkS_ok h0
    obtain ⟨s0, rfl⟩ := Int.eq_ofNat_of_zero_le (show 0 ≤ s by omega)
    have HW : Hid (wholeS l s0 n xss = if (m : Int) = n then (if xss.all (fun y => decide (y.length = s0)) then (xss.flatten, 0) else ([], 4)) else ([], 5)) := by
      unfold wholeS; rw [Hid, if_pos h0, h.len, Int.toNat_natCast]
    have hmb := h.bound
    by_cases h1 : (m : Int) = n
    · have hb : ((m : Int) != n) = false := by simpa using h1
      rw [if_pos h1] at HW
      obtain ⟨F, hF⟩ : ∃ F : Nat → List UInt8, F = fun k => (xss.take k).flatten := ⟨_, rfl⟩
      have HF : Hid (∀ k xs, xss[k]? = some xs → F (k + 1) = F k ++ xs) := fun k xs hx => by subst hF; exact flat_take hx
      have HN : Hid (F m = xss.flatten) := by subst hF; show (xss.take m).flatten = _; rw [List.take_of_length_le (by rw [h.len]; omega)]
      have H0 : Hid (F 0 = []) := by subst hF; rfl
      obtain ⟨T, hT⟩ : ∃ T : Nat → Nat, T = fun k => (F k).length := ⟨_, rfl⟩
      have HL : Hid (∀ k, (F k).length = T k) := fun k => by subst hT; rfl
      have HT0 : T 0 = 0 := by rw [← HL.out, H0.out]; rfl
      have HTn : Hid (∀ j, j ≤ m → (∀ r ys, r < j → xss[r]? = some ys → ys.length = s0) → T j ≤ 4096 * 65535) := fun j hj ha => by
        rw [← HL.out]; subst hF
        show (xss.take j).flatten.length ≤ _
        rw [flat_len (s := s0) (fun x hx => by
          obtain ⟨r, hr, e⟩ := List.getElem_of_mem hx
          have hr' : r < j := by rw [List.length_take] at hr; omega
          exact ha r x hr' (by rw [← e, List.getElem_take, List.getElem?_eq_getElem]))]
        exact Nat.mul_le_mul (by rw [List.length_take]; have := h.len; omega) (by omega)
      have H := Lib.hid h
      clear h h0 g4 h1 hF hT
      go_enter Try.func8, Try.ntmps8
      go_wp2_with fail
      refine (HC.out _).mono ?_; rintro e w1 ⟨rfl, hb1⟩
      have k1 : Below w.heap.size w w1 := bl (hB _) hb1 (by simp)
      have e1 : w1.heap[w.heap.size]? = some (.cells #[.int .i64 l, .int .i64 s0, .int .i64 n, .int .u32 d] 34 (0, 0)) := by
        rw [hb1.block _ (by simp)]; exact hnew rfl
      have c2 : w1.cell? ⟨w.heap.size, 2, none⟩ = some (.int .i64 n) := cell_of_row _ _ 2 _ _ _ e1
      have c1 : Hid (w1.cell? ⟨w.heap.size, 1, none⟩ = some (.int .i64 s0)) := cell_of_row _ _ 1 _ _ _ e1
      have hlt1 : Hid (w.heap.size < w1.heap.size) := lt_of_cell c1.out
      clear e1
      go_wp2
      go_loopw [7, 22] (fun v i wr => ∃ (j : Nat) (q : Option Addr) (c' : Nat), j ≤ m ∧ i = .int .i64 j ∧ v = .slice q (T j) c' ∧ Hid (wr.ownsRow w1.heap.size 5 1 (.slice q (T j) c') (T j) ((F j).map B8)) ∧ Below w1.heap.size w1 wr ∧ Hid (∀ r ys, r < j → xss[r]? = some ys → ys.length = s0)) (fun _ i _ => m - (intOf i).toNat)
      case atStart => exact ⟨0, none, 0, Nat.zero_le _, rfl, by rw [HT0], by rw [HT0, H0.out]; exact World.ownsRow_nil _ _ _ _, Below.refl _ _, fun r ys hr => by omega⟩
      case round =>
        obtain ⟨j, q, c', hj, rfl, rfl, hov, hbv, hall⟩ := hrel
        have s1 := HTn.out j hj hall.out
        have c1' : wr.cell? ⟨w.heap.size, 1, none⟩ = some (.int .i64 s0) := (hbv.cell (p := ⟨w.heap.size, 1, none⟩) hlt1.out).trans c1.out
        by_cases hjk : j < m
        · obtain ⟨b, o, q', m', c'', xs, rfl, hc, hs, hx⟩ := H.out.at j hjk
          have kw : Below w.heap.size w wr := bl k1 hbv k1.size
          have hcw := (kw.cell (p := ⟨b, o + j, none⟩) (lt_of_cell hc)).trans hc
          have hm := hs.bound
          have HS := Lib.hid hs
          by_cases hml : (m' : Int) = s0
          · have hb2 : ((m' : Int) != s0) = false := by simpa using hml
            have e1 : T (j + 1) = T j + m' := by rw [← HL.out, HF.out j xs hx.out, List.length_append, HL.out, hs.len]
            have e2 : F (j + 1) = F j ++ xs := HF.out j xs hx.out
            have t3 : T j + m' ≤ 140737488355328 := by omega
            have E1 := Lib.hid e1; have E2 := Lib.hid e2; have HML := Lib.hid hml
            clear e1 e2 hs hml
            go_wp2_with (at_builtin; refine wpList_append_rs _ rfl _ _ 28 rfl w1.heap.size 5 i0 (.int .u8 0) 1 Try.underlying28 hi hz0 hz1 hz2 rfl _ (T j) _ rfl hov.out B8 _ _ _ xs (fun _ _ => rfl) rfl (HS.out.keep kw) ?c1 ?c2 ?c3 ?_)
            case c1 => unfold maxLen; omega
            case c2 => omega
            case c3 => exact hbv.size
            intro v' w' ho' hg'
            obtain ⟨q2, c2, rfl⟩ := owns_shape ho'
            have hb' : Below w1.heap.size w1 w' := hbv.grown hg' hbv.size (fun r hr' => (hov.out.lt r hr').1)
            clear hg' kw
            go_wp2
            go_roundw
            case rel => exact ⟨j + 1, q2, c2, by omega, by go_num, by rw [E1.out], by rw [E1.out, E2.out, List.map_append]; exact ho', hb', fun r ys hr hy => by
              by_cases e : r = j
              · subst e; have := hx.out.symm.trans hy; cases this; have := HS.out.len; have := HML.out; omega
              · exact hall.out r ys (by omega) hy⟩
            case measure => simp [intOf]; omega
          · have hb2 : ((m' : Int) != s0) = true := by simpa using hml
            have HML := Lib.hid hml
            clear hs hml
            go_wp2
            go_ret2
            have hna : xss.all (fun y => decide (y.length = s0)) = false := by
              rw [List.all_eq_false]
              exact ⟨xs, List.mem_of_getElem? hx.out, by have := HS.out.len; have := HML.out; simp; omega⟩
            rw [HW.out, hna]
            exact RetB.nil _ _ _ _ kw
        · have hjk' : j = m := by omega
          subst hjk'
          go_wp2
          go_ret2
          have ha : xss.all (fun y => decide (y.length = s0)) = true := List.all_eq_true.2 fun x hx => by
            obtain ⟨r, hr, e⟩ := List.getElem_of_mem hx
            exact decide_eq_true (hall.out r x (by have := H.out.len; omega) (by rw [List.getElem?_eq_getElem hr, e]))
          rw [HW.out, ha]
          refine ⟨q, T j, c', ?_, rfl, ?_, bl k1 hbv k1.size⟩
          · show xss.flatten.length = _; rw [← HN.out]; exact HL.out j
          · show World.ownsRow _ _ _ _ _ _ (xss.flatten.map B8); rw [← HN.out]; exact owns_mono hov.out k1.size
    · have hb : ((m : Int) != n) = true := by simpa using h1
      rw [if_neg h1] at HW
      clear h h0 g4 h1
      go_enter Try.func8, Try.ntmps8
      go_wp2_with fail
      refine (HC.out _).mono ?_; rintro e w1 ⟨rfl, hb1⟩
      have k1 : Below w.heap.size w w1 := bl (hB _) hb1 (by simp)
      have e1 : w1.heap[w.heap.size]? = some (.cells #[.int .i64 l, .int .i64 s0, .int .i64 n, .int .u32 d] 34 (0, 0)) := by
        rw [hb1.block _ (by simp)]; exact hnew rfl
      have c2 : w1.cell? ⟨w.heap.size, 2, none⟩ = some (.int .i64 n) := cell_of_row _ _ 2 _ _ _ e1
      clear e1
      go_wp2
      go_ret2
      rw [HW.out]
      exact RetB.nil _ _ _ _ k1
  · have HW : Hid (wholeS l s n xss = ([], checkS l s n)) := by unfold wholeS; rw [Hid, if_neg h0]
    have hb : (checkS l s n != 0) = true := by simpa using h0
    generalize checkS l s n = k at *
    clear h h0
    go_enter Try.func8, Try.ntmps8
    go_wp2_with fail
    refine (HC.out _).mono ?_; rintro e w1 ⟨rfl, hb1⟩
    have k1 : Below w.heap.size w w1 := bl (hB _) hb1 (by simp)
    go_wp2
    go_ret2
    rw [HW.out]
    exact RetB.nil _ _ _ _ k1
end Go.Proofs.Ytnlfohbmdmeodaa
