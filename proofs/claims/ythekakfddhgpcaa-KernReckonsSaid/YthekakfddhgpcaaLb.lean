/- The walk of the law KernReckons. -/
import Derived.Test.YthekakfddhgpcaaLa
namespace Go.Proofs.Ythekakfddhgpcaa
open Go.RowKit Go.By
def fewS (xss : List (List UInt8)) : Bool := xss.all (fun xs => decide (xs.length ≤ 100)) && decide (xss.length ≤ 40)
theorem fewS_room {xss : List (List UInt8)} (h : fewS xss = true) : (∀ xs, xs ∈ xss → Room xs.length) ∧ xss.length ≤ 40 := by
  simp only [fewS, Bool.and_eq_true, List.all_eq_true, decide_eq_true_eq] at h
  exact ⟨fun xs hx => by have := h.1 xs hx; unfold Room; omega, h.2⟩
set_option maxHeartbeats 400000 in
theorem Few_any (p : Option Addr) (n c : Nat) (xss : List (List UInt8)) (w : World) (h : Sl2 w p n c xss) :
    Calls Try.prog 21 #[.slice p n c] w fun e w' => e = .returned (.bool (fewS xss)) ∧ w = w' := by
  have hb := h.bound
  have H := Lib.hid h; clear h
  go_enter Try.func21, Try.ntmps21
  go_wp2
  go_loop [7] (fun i => ∃ k : Nat, k ≤ n ∧ i = .int .i64 k ∧ Hid (∀ (j : Nat) xs, j < k → xss[j]? = some xs → xs.length ≤ 100)) (fun i => n - (intOf i).toNat)
  case atStart => exact ⟨0, Nat.zero_le _, rfl, fun j xs hj => by omega⟩
  case round =>
    obtain ⟨k, hk, rfl, hj⟩ := hrel
    by_cases hlt : k < n
    · obtain ⟨b, o, q, m, c', xs, rfl, hc, hs, hx⟩ := H.out.at k hlt
      have hl := Lib.hid hs.len
      have hmb := hs.bound
      clear hs
      by_cases hm : m ≤ 100
      · have hm' : ¬ (100 : Int) < (m : Int) := by omega
        go_wp2
        go_round
        case rel => exact ⟨k + 1, by omega, by go_num, fun j ys hj' hy => by
          by_cases e : j = k
          · subst e; have := hx.out.symm.trans hy; cases this; rw [hl.out]; exact hm
          · exact hj.out j ys (by omega) hy⟩
        case measure => simp [intOf]; omega
      · have hm' : (100 : Int) < (m : Int) := by omega
        have HN := Lib.hid hm; clear hm
        go_wp2
        go_ret
        refine ⟨?_, rfl⟩
        have : fewS xss = false := by
          simp only [fewS, Bool.and_eq_false_iff]
          left
          rw [List.all_eq_false]
          exact ⟨xs, List.mem_of_getElem? hx.out, by rw [hl.out]; simpa using HN.out⟩
        rw [this]; rfl
    · have hkn : Hid (k = n) := show k = n by omega
      have hall : xss.all (fun xs => decide (xs.length ≤ 100)) = true := by
        rw [List.all_eq_true]
        intro xs hx
        obtain ⟨j, hj', e⟩ := List.getElem_of_mem hx
        exact decide_eq_true (hj.out j xs (by have := H.out.len; omega) (by rw [List.getElem?_eq_getElem hj', e]))
      have HR : Hid (fewS xss = decide (n ≤ 40)) := by unfold fewS; rw [hall, H.out.len]; simp [Hid]
      clear hall
      by_cases h40 : n ≤ 40
      · rw [decide_eq_true h40] at HR
        have h40' : (n : Int) ≤ 40 := by omega
        go_wp2
        go_ret
        exact ⟨by rw [HR.out]; simp [h40'], rfl⟩
      · rw [decide_eq_false h40] at HR
        have h40' : ¬ (n : Int) ≤ 40 := by omega
        go_wp2
        go_ret
        exact ⟨by rw [HR.out]; simp [h40'], rfl⟩
theorem sumS_comb (xss : List (List UInt8)) : combS (List.replicate xss.length 1) xss = sumS xss := by
  unfold combS sumS; simp
set_option maxRecDepth 100000 in
set_option maxHeartbeats 2000000 in
theorem KernReckons_any (c : UInt8) (p1 : Option Addr) (n1 c1 : Nat) (cs : List UInt8) (p2 : Option Addr) (n2 c2 : Nat) (xss : List (List UInt8)) (w : World) (h1 : Sl B8 w p1 n1 c1 cs) (h2 : Sl2 w p2 n2 c2 xss) :
    Calls Try.prog 4 #[B8 c, .slice p1 n1 c1, .slice p2 n2 c2] w fun e w' => e = .returned (.bool true) ∧ Below w.heap.size w w' := by
  have b1 := h1.bound; have b2 := h2.bound
  cases hf : fewS xss with
  | false =>
    have HF := Lib.hid hf
    have H2 := Lib.hid h2
    clear h1 h2 hf
    go_enter Try.func4, Try.ntmps4
    go_wp2_with fail
    refine (awake02 _).mono ?_; rintro e w1 ⟨rfl, hw1⟩
    go_wp2_with fail
    refine (Few_any _ _ _ xss w1 (H2.out.keep hw1)).mono ?_; rintro e w2 ⟨rfl, rfl⟩
    rw [HF.out]
    go_wp2
    go_ret
    exact ⟨rfl, hw1⟩
  | true =>
    obtain ⟨hr, h40⟩ := fewS_room hf
    by_cases g1 : n1 ≤ 100
    · have HF := Lib.hid hf
      have HR := Lib.hid hr
      have H1 := Lib.hid h1; have H2 := Lib.hid h2
      have hn2 : n2 ≤ 40 := by rw [h2.len] at h40; exact h40
      have r1 := Lib.hid (show Room n1 by unfold Room; omega)
      obtain ⟨i0, hi, hz0, hz1, hz2⟩ := info_parts info_u8
      have m1 := Lib.hid (show n2 ≤ maxLen by unfold maxLen; omega); have m2 := Lib.hid (show 1 * n2 ≤ 281474976710656 by omega)
      have g1' : ¬ (100 : Int) < (n1 : Int) := by omega
      have C1 := Lib.hid (fun w h1 h2 => Comb_any p1 p2 n1 n2 c1 c2 cs xss w h1 h2 hr)
      have C2 := Lib.hid (fun w h1 h2 => RComb_any p1 p2 n1 n2 c1 c2 cs xss w h1 h2 hr)
      have C3 := Lib.hid (fun w h2 => Sum_any p2 n2 c2 xss w h2 hr)
      have c4 := fun (p : Option Addr) (n c : Nat) (w : World) h1 h2 => RComb_any p p2 n n2 c c2 (List.replicate xss.length 1) xss w h1 h2 hr
      rw [sumS_comb] at c4
      have C4 := Lib.hid c4
      clear h1 h2 hf hr h40 c4 g1
      generalize combS cs xss = A at *
      generalize sumS xss = D at *
      go_enter Try.func4, Try.ntmps4
      go_wp2_with fail
      refine (awake02 _).mono ?_; rintro e w1 ⟨rfl, hw1⟩
      go_wp2_with fail
      refine (Few_any _ _ _ xss w1 (H2.out.keep hw1)).mono ?_; rintro e w2 ⟨rfl, rfl⟩
      rw [HF.out]
      go_wp2_with (at_make; refine wpList_make_full _ rfl _ _ 22 rfl w.heap.size 5 i0 (.int .u8 0) 1 Try.underlying22 hi hz0 hz1 .i64 .i64 _ _ n2 rfl rfl rfl rfl (by rw [hz2]; exact m2.out) m1.out hw1.size ?_)
      intro w2 ho hg
      have ho' : w2.ownsRow w.heap.size 5 1 (.slice (some ⟨w1.heap.size, 0, none⟩) n2 n2) n2 ((prog (List.replicate n2 1) (List.replicate n2 (0 : UInt8)) 0).map B8) := by
        have e : (madeCells #[Value.int .u8 0] n2).toList = (prog (List.replicate n2 1) (List.replicate n2 (0 : UInt8)) 0).map B8 := by
          rw [prog_zero, List.map_replicate]; exact toList_madeCells_one _ _
        rw [← e]; exact ho
      have HO := Lib.hid ho'; clear ho ho'
      have hw2 : Below w.heap.size w w2 := hw1.grown hg hw1.size (by simp)
      have hgr : w1.heap.size < w2.heap.size ∨ n2 = 0 := by
        by_cases h0 : n2 = 0
        · exact .inr h0
        · exact .inl (owns_new HO.out _ rfl).2
      clear hg
      generalize w1.heap.size = G at *
      go_wp2
      go_loopw [32] (fun i wr => ∃ k : Nat, k ≤ n2 ∧ i = .int .i64 k ∧ wr.ownsRow w.heap.size 5 1 (.slice (some ⟨G, 0, none⟩) n2 n2) n2 ((prog (List.replicate n2 1) (List.replicate n2 (0 : UInt8)) k).map B8) ∧ Below w.heap.size w wr) (fun i _ => n2 - (intOf i).toNat)
      case atStart => exact ⟨0, Nat.zero_le _, rfl, HO.out, hw2⟩
      case round =>
        clear hw2 hgr HO
        obtain ⟨k, hk, rfl, ho, hw2⟩ := hrel
        by_cases hlt : k < n2
        · have hcs : wr.cell? ⟨G, k, none⟩ = some (B8 0) := by
            rw [ho.cellAt k (by omega)]
            simp [prog_at (List.replicate n2 1) (List.replicate n2 (0 : UInt8)) k n2 (by simp) (by simp) hlt, hlt]
          have hfs : wr.frozen? ⟨G, k, none⟩ = false := ho.frozenAt k
          have hG := (owns_new ho _ rfl).1
          have HO := Lib.hid ho; clear ho
          go_wp2
          go_roundw
          case rel =>
            have st := HO.out.stored k (B8 1)
            rw [← List.map_set, prog_succ _ _ k n2 (by simp) (by simp) hlt 1 (by simp [hlt])] at st
            exact ⟨k + 1, by omega, by go_num, st.1, hw2.setCell (p := ⟨G, k, none⟩) hG _⟩
          case measure => simp [intOf]; omega
        · obtain rfl : k = n2 := by omega
          rw [prog_full _ _ k (by simp) (by simp)] at ho
          have s1 : Sl B8 wr (some ⟨G, 0, none⟩) k k (List.replicate xss.length 1) := by
            rw [H2.out.len]; exact Sl.of_owns ho
          have S1 := Lib.hid s1; clear s1 ho hk hlt
          go_wp2_with fail
          refine (C1.out wr (H1.out.keep hw2) (H2.out.keep hw2)).mono ?_; rintro e w3 ⟨q1, m1', c1', hm1, rfl, ho1, hw3⟩
          have HO1 := Lib.hid ho1; clear ho1
          have k3 := bl hw2 hw3 hw2.size
          go_wp2_with fail
          refine (C2.out w3 (H1.out.keep k3) (H2.out.keep k3)).mono ?_; rintro e w4 ⟨q2, m2', c2', hm2, rfl, ho2, hw4⟩
          have HO2 := Lib.hid ho2; clear ho2
          have k4 := bl k3 hw4 k3.size
          go_wp2_with fail
          refine (C3.out w4 (H2.out.keep k4)).mono ?_; rintro e w5 ⟨q3, m3', c3', hm3, rfl, ho3, hw5⟩
          have HO3 := Lib.hid ho3; clear ho3
          have k5 := bl k4 hw5 k4.size
          go_wp2_with fail
          refine (C4.out _ _ _ w5 (((S1.out.keep hw3).keep hw4).keep hw5) (H2.out.keep k5)).mono ?_; rintro e w6 ⟨q4, m4', c4', hm4, rfl, ho4, hw6⟩
          have HO4 := Lib.hid ho4; clear ho4
          have k6 := bl k5 hw6 k5.size
          go_wp2_with fail
          refine Calls.mono (Same_any _ _ _ _ _ _ A.1 A.1 w6 ((((Sl.of_owns HO1.out).keep hw4).keep hw5).keep hw6) (((Sl.of_owns HO2.out).keep hw5).keep hw6)) ?_; rintro e w7 ⟨rfl, hw7⟩
          have k7 := bl k6 hw7 k6.size
          rw [decide_eq_true rfl]
          have q7 := ((Sl.of_owns HO3.out).keep hw6).keep hw7
          have q7' := (Sl.of_owns HO4.out).keep hw7
          have Q7 := Lib.hid q7; have Q7' := Lib.hid q7'; clear q7 q7'
          go_wp2_with fail
          refine Calls.mono (Same_any _ _ _ _ _ _ D.1 D.1 w7 Q7.out Q7'.out) ?_; rintro e w8 ⟨rfl, hw8⟩
          have k8 := bl k7 hw8 k7.size
          rw [decide_eq_true rfl]
          go_wp2_with fail
          refine (Scale_any c p1 n1 c1 cs w8 (H1.out.keep k8) r1.out).mono ?_; rintro e w9 ⟨q5, m5', c5', hm5, rfl, ho5, hw9⟩
          have HO5 := Lib.hid ho5; clear ho5
          have k9 := bl k8 hw9 k8.size
          go_wp2_with fail
          refine (RScale_any c p1 n1 c1 cs w9 (H1.out.keep k9) r1.out).mono ?_; rintro e w10 ⟨q6, m6', c6', hm6, rfl, ho6, hw10⟩
          have HO6 := Lib.hid ho6; clear ho6
          have k10 := bl k9 hw10 k9.size
          have Q10 := Lib.hid ((Sl.of_owns HO5.out).keep hw10)
          generalize cs.map (Gf.gmul c) = L at *
          go_wp2_with fail
          refine Calls.mono (Same_any _ _ _ _ _ _ L L w10 Q10.out (Sl.of_owns HO6.out)) ?_; rintro e w11 ⟨rfl, hw11⟩
          have k11 := bl k10 hw11 k10.size
          rw [decide_eq_true rfl]
          go_wp2_with fail
          refine (Zero_any p1 n1 c1 cs w11 (H1.out.keep k11)).mono ?_; rintro e w12 ⟨rfl, rfl⟩
          go_wp2_with fail
          refine (RZero_any p1 n1 c1 cs w11 (H1.out.keep k11)).mono ?_; rintro e w12 ⟨rfl, rfl⟩
          generalize zeroS cs = z
          go_wp2
          go_ret
          exact ⟨by simp, k11⟩
    · have g1' : (100 : Int) < (n1 : Int) := by omega
      have HF := Lib.hid hf
      have H2 := Lib.hid h2
      clear h1 h2 hf g1
      go_enter Try.func4, Try.ntmps4
      go_wp2_with fail
      refine (awake02 _).mono ?_; rintro e w1 ⟨rfl, hw1⟩
      go_wp2_with fail
      refine (Few_any _ _ _ xss w1 (H2.out.keep hw1)).mono ?_; rintro e w2 ⟨rfl, rfl⟩
      rw [HF.out]
      go_wp2
      go_ret
      exact ⟨rfl, hw1⟩
end Go.Proofs.Ythekakfddhgpcaa
