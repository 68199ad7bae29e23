/- The reference's numbers: Mul. -/
import Derived.Test.YtmcehghbcjhkdaaDoorOD
import Derived.Test.YtmcehghbcjhkdaaDoorR5
import Derived.IntWalk
namespace Go.By
theorem mul_fitsB {x y p c : Nat} (hx : x < 256) (hy : y < 256) (hp : p < 256) (hc : c < 256) : (x * y + p + c) / 256 < 256 := by
  have : x * y ≤ 255 * 255 := Nat.mul_le_mul (by omega) (by omega)
  omega
theorem valB_zeros (k : Nat) : valB (List.replicate k 0) = 0 := by
  unfold valB
  rw [List.map_replicate]
  induction k with
  | zero => rfl
  | succ k ih => rw [List.replicate_succ]; show (0 : UInt8).toNat + 256 * valD 256 (List.replicate k ((0 : UInt8).toNat)) = 0; rw [ih]; rfl
end Go.By
namespace Go.Proofs.YtmcehghbcjhkdaaDoor
open Go.RowKit Go.By
set_option maxRecDepth 100000 in
set_option maxHeartbeats 4000000 in
theorem Mul_ref (p q : Option Addr) (n c m d : Nat) (xs ys : List UInt8) (w : World) (h1 : Sl B8 w p n c xs) (h2 : Sl B8 w q m d ys) (hn : n ≤ 10000) (hm : m ≤ 10000) :
    Calls Tryd.prog 25 #[.slice p n c, .slice q m d] w (RetV w (valB xs * valB ys)) := by
  obtain ⟨i0, hi, hz0, hz1, hz2⟩ := info_parts info_u8
  obtain ⟨N, hN⟩ : ∃ N, N = n + m + 1 := ⟨_, rfl⟩
  have HM1 : Hid (N ≤ maxLen) := by show N ≤ maxLen; unfold maxLen; omega
  have HM2 : Hid (1 * N ≤ 281474976710656) := by show 1 * N ≤ _; omega
  have HL : Hid (xs.length = n ∧ ys.length = m) := ⟨h1.len, h2.len⟩
  have HNi : (n : Int) + (m : Int) + 1 = (N : Int) := by omega
  have HNI := Lib.hid HNi
  have HNn := Lib.hid hN
  have hNb : N ≤ 20001 := by omega
  have H1 := Lib.hid h1; have H2 := Lib.hid h2
  clear h1 h2 hN HNi
  have e1 := HNI.out
  go_enter Tryd.func25, Tryd.ntmps25
  go_wp2_with (at_make; refine wpList_make_full _ rfl _ _ 34 rfl w.heap.size 5 i0 (.int .u8 0) 1 Tryd.underlying34 hi hz0 hz1 .i64 .i64 _ _ N rfl rfl (by simp) (by simp) (by rw [hz2]; exact HM2.out) HM1.out (Nat.le_refl _) ?_)
  intro w1 ho hg
  clear e1
  have HO : Hid (w1.ownsRow w.heap.size 5 1 (.slice (some ⟨w.heap.size, 0, none⟩) N N) N ((List.replicate N (0 : UInt8)).map B8)) := by
    have e : (madeCells #[Value.int .u8 0] N).toList = (List.replicate N (0 : UInt8)).map B8 := by rw [List.map_replicate]; exact toList_madeCells_one _ _
    show World.ownsRow _ _ _ _ _ _ _
    rw [← e]; simpa using ho
  have HB : Hid (Below w.heap.size w w1) := (Below.refl _ _).grown hg (Nat.le_refl _) (by simp)
  clear ho hg
  go_wp2
  go_loopw [6] (fun i wr => ∃ (k : Nat) (S : List UInt8), k ≤ n ∧ i = .int .i64 k ∧ Hid (S.length = N) ∧ Hid (wr.ownsRow w.heap.size 5 1 (.slice (some ⟨w.heap.size, 0, none⟩) N N) N (S.map B8)) ∧ Hid (valB S = valB (xs.take k) * valB ys) ∧ Hid (∀ j, k + m ≤ j → j < N → S[j]? = some 0) ∧ Hid (Below w.heap.size w wr)) (fun i _ => n - (intOf i).toNat)
  case atStart => exact ⟨0, _, Nat.zero_le _, rfl, by simp [Hid], HO.out, by show valB _ = valB (xs.take 0) * _; rw [valB_zeros, List.take_zero, valB_nil, Nat.zero_mul], fun j _ hj => List.getElem?_replicate_of_lt hj, HB.out⟩
  case round =>
    clear HO HB
    obtain ⟨k, S, hk, rfl, hSl, hO, hV, hZ, hB⟩ := hrel
    by_cases hlt : k < n
    · obtain ⟨b, o, x8, rfl, hc, hx⟩ := H1.out.at k hlt
      obtain ⟨x, hxn⟩ : ∃ x, x = x8.toNat := ⟨_, rfl⟩
      have hx256 : x < 256 := by rw [hxn]; exact x8.toNat_lt
      have HXV : Hid (valB (xs.take (k + 1)) = valB (xs.take k) + 256 ^ k * x) := by
        show _ = _
        rw [valB_takeD, dB_at hx.out, hxn]
      have HC : Hid (w.cell? ⟨b, o + k, none⟩ = some (.int .u8 (x : Int))) := by show _ = _; rw [hc, hxn]
      have hlt' : (k : Int) < (n : Int) := by omega
      obtain ⟨V0, hV0⟩ : ∃ V0, V0 = valB S := ⟨_, rfl⟩
      have HV0 : Hid (V0 = valB (xs.take k) * valB ys) := hV0.trans hV.out
      have ST2 : Hid (∃ S' : List UInt8, S'.length = N ∧ wr.ownsRow w.heap.size 5 1 (.slice (some ⟨w.heap.size, 0, none⟩) N N) N (S'.map B8) ∧ valB S' + 256 ^ (k + 0) * 0 = V0 + 256 ^ k * (x * valB (ys.take 0)) ∧ (∀ t, k + m ≤ t → k + 0 ≤ t → t < N → S'[t]? = some 0) ∧ Below w.heap.size w wr) := ⟨S, hSl.out, hO.out, by rw [List.take_zero, valB_nil, hV0]; simp, fun t h1 _ h3 => hZ.out t h1 h3, hB.out⟩
      clear hc hO hSl hB hV hZ hV0 hx hxn
      clear S
      go_wp2
      go_loopw [7, 8] (fun cv iv wr => ∃ (j cy : Nat) (S : List UInt8), j ≤ m + 1 ∧ iv = .int .i64 j ∧ cv = .int .i64 cy ∧ cy < 256 ∧ (m < j → cy = 0) ∧ Hid (S.length = N) ∧ Hid (wr.ownsRow w.heap.size 5 1 (.slice (some ⟨w.heap.size, 0, none⟩) N N) N (S.map B8)) ∧ Hid (valB S + 256 ^ (k + j) * cy = V0 + 256 ^ k * (x * valB (ys.take j))) ∧ Hid (∀ t, k + m ≤ t → k + j ≤ t → t < N → S[t]? = some 0) ∧ Hid (Below w.heap.size w wr)) (fun _ iv _ => m + 1 - (intOf iv).toNat)
      case atStart =>
        obtain ⟨S, g1, g2, g3, g4, g5⟩ := ST2.out
        exact ⟨0, 0, S, Nat.zero_le _, rfl, rfl, by decide, fun _ => rfl, g1, g2, g3, g4, g5⟩
      case round =>
        clear ST2
        obtain ⟨j, cy, S, hj, rfl, rfl, hcy, hmj, hSl, hO, hV, hZ, hB⟩ := hrel
        by_cases hgo : j < m ∨ 0 < cy
        · have hjm : j ≤ m := by
            rcases hgo with h | h
            · omega
            · rcases Nat.lt_or_ge m j with h2 | h2
              · have := hmj h2; omega
              · exact h2
          obtain ⟨y, hy⟩ : ∃ y, y = dB ys j := ⟨_, rfl⟩
          have hy256 : y < 256 := by rw [hy]; exact dB_lt _ _
          obtain ⟨kj, hkj⟩ : ∃ kj, kj = k + j := ⟨_, rfl⟩
          have hkN : kj < N := by have := HNn.out; omega
          obtain ⟨p8, hp8⟩ : ∃ p8, S[kj]? = some p8 := ⟨S[kj]'(by rw [hSl.out]; exact hkN), List.getElem?_eq_getElem _⟩
          obtain ⟨pr, hpr⟩ : ∃ pr, pr = p8.toNat := ⟨_, rfl⟩
          have hp256 : pr < 256 := by rw [hpr]; exact p8.toNat_lt
          have cP : wr.cell? ⟨w.heap.size, kj, none⟩ = some (.int .u8 (pr : Int)) := by
            rw [hO.out.cellAt _ (by omega), List.getElem?_map, hp8, hpr]; rfl
          have cX : wr.cell? ⟨b, o + k, none⟩ = some (.int .u8 (x : Int)) := (hB.out.cell (p := ⟨b, o + k, none⟩) (lt_of_cell HC.out)).trans HC.out
          obtain ⟨P, hP⟩ : ∃ P, P = x * y := ⟨_, rfl⟩
          have hPb : P ≤ 65025 := by rw [hP]; exact Nat.mul_le_mul (by omega : x ≤ 255) (by omega : y ≤ 255)
          obtain ⟨PP, hPP⟩ : ∃ PP, PP = pr + P := ⟨_, rfl⟩
          obtain ⟨s, hs⟩ : ∃ s, s = PP + cy := ⟨_, rfl⟩
          have CY : Hid (∀ W, Below wr.heap.size wr W → Calls Tryd.prog 38 #[.slice q m d, .int .i64 j] W fun e w' => e = .returned (.int .i64 y) ∧ W = w') := fun W hb => by
            rw [hy]; exact at_ref q m d ys j W ((H2.out.keep hB.out).keep hb) (by omega)
          have A1 : IntKind.i64.wrap ((k : Int) + (j : Int)) = (kj : Int) := (Go.IntWalk.i64_in _ ⟨by omega, by omega⟩).trans (by omega)
          have A2 : IntKind.i64.wrap ((x : Int) * (y : Int)) = (P : Int) := by
            have e : (x : Int) * (y : Int) = (P : Int) := by rw [hP]; exact (Int.natCast_mul x y).symm
            rw [e]
            exact Go.IntWalk.i64_in _ ⟨by omega, by omega⟩
          have A3 : IntKind.i64.wrap ((pr : Int) + (P : Int)) = (PP : Int) := (Go.IntWalk.i64_in _ ⟨by omega, by omega⟩).trans (by omega)
          have A4 : IntKind.i64.wrap ((PP : Int) + (cy : Int)) = (s : Int) := (Go.IntWalk.i64_in _ ⟨by omega, by omega⟩).trans (by omega)
          have A5 : IntKind.i64.wrap (pr : Int) = (pr : Int) := Go.IntWalk.i64_in _ ⟨by omega, by omega⟩
          have A6 : IntKind.i64.wrap (x : Int) = (x : Int) := Go.IntWalk.i64_in _ ⟨by omega, by omega⟩
          have K1 : 0 ≤ (kj : Int) := by omega
          have K2 : (kj : Int) < (N : Int) := by omega
          have K3 : kj < N := hkN
          have L1 : (k : Int) < (n : Int) := hlt'
          have FIN : Hid (∀ d8 : UInt8, d8.toNat = s % 256 → (S.set kj d8).length = N ∧ valB (S.set kj d8) + 256 ^ (k + (j + 1)) * (s / 256) = V0 + 256 ^ k * (x * valB (ys.take (j + 1))) ∧ ∀ t, k + m ≤ t → k + (j + 1) ≤ t → t < N → (S.set kj d8)[t]? = some 0) := fun d8 hd8 => by
            refine ⟨by rw [List.length_set]; exact hSl.out, ?_, fun t h1 h2 h3 => by rw [List.getElem?_set, if_neg (by omega)]; exact hZ.out t h1 (by omega) h3⟩
            rw [valB_takeD ys, ← hy]
            refine mul_step hV.out (p := pr) (s' := d8.toNat) ?_ ?_ ?_
            · rw [hd8, hs, hPP, hP, Nat.add_comm (x * y) pr]
            · rw [hs, hPP, hP, Nat.add_comm (x * y) pr]
            · have := valB_set (s := d8) hp8
              rw [← hkj, hpr]; exact this
          have CYB : s / 256 < 256 ∧ (m < j + 1 → s / 256 = 0) := by
            refine ⟨by omega, fun h => ?_⟩
            have hjm2 : j = m := by omega
            have e1 : y = 0 := by rw [hy]; exact dB_none (by have := HL.out.2; omega)
            have e2 := hZ.out kj (by omega) (by omega) hkN
            rw [hp8] at e2
            have e3 : pr = 0 := by rw [hpr, Option.some.inj e2]; rfl
            have e4 : P = 0 := by rw [hP, e1, Nat.mul_zero]
            omega
          have SB : s ≤ 66000 := by omega
          have hgo' : (j : Int) < (m : Int) ∨ (¬ (j : Int) < (m : Int) ∧ (0 : Int) < (cy : Int)) := by omega
          have HKJ := Lib.hid hkj; have HCYB := Lib.hid CYB
          clear hgo hy hpr hp8 hP hPP hs hkj CYB hV hZ
          rcases hgo' with g1 | ⟨g1, g2⟩
          all_goals
            go_wp2
            refine wp_region_shapes (fun ix => ([.val (.slice (some ⟨w.heap.size, 0, none⟩) N N), .val (.int .i64 k), .val (.int .i64 j), .val (.int .i64 kj), .val (.pointer (some ⟨w.heap.size, kj, none⟩)), .val (.int .u8 pr), .val (.int .i64 pr), .val (.slice (some ⟨b, o, none⟩) n c), .val (.int .i64 k), .val (.pointer (some ⟨b, o + k, none⟩)), .val (.int .u8 x), .val (.int .i64 x), .val (.slice q m d), .val (.int .i64 j), .val (.int .i64 y), .val (.int .i64 P), .val (.int .i64 PP), .val (.int .i64 cy), .val (.int .i64 s), .val (.int .i64 s)][ix]?).getD (.any)) 64 rfl (by kernel_rfl) (by decide) (by decide) (by decide) ?_ ?_
            · refine ⟨?_, ?_, ?_, ?_, ?_, ?_, ?_, ?_, ?_, ?_, ?_, ?_, ?_, ?_, ?_, ?_, ?_, ?_, ?_, ?_, trivial⟩
              · intro a W hb0 hs hp hi; have hb := undrew hb0; clear hb0
                have t5 : sl a 5 = .slice (some ⟨w.heap.size, 0, none⟩) N N := hi 5 (by decide)
                exact ite_y rfl (wp_val (sl a 5) rfl ⟨_, rfl, Below.refl _ _, t5⟩)
              · intro a W hb0 hs hp hi; have hb := undrew hb0; clear hb0
                have t6 : sl a 6 = .int .i64 k := hi 6 (by decide)
                exact ite_y rfl (wp_val (sl a 6) rfl ⟨_, rfl, Below.refl _ _, t6⟩)
              · intro a W hb0 hs hp hi; have hb := undrew hb0; clear hb0
                have t8 : sl a 8 = .int .i64 j := hi 8 (by decide)
                exact ite_y rfl (wp_val (sl a 8) rfl ⟨_, rfl, Below.refl _ _, t8⟩)
              · intro a W hb0 hs hp hi; have hb := undrew hb0; clear hb0
                have t34 : sl a 34 = .int .i64 k := hp 1 (by decide)
                have t35 : sl a 35 = .int .i64 j := hp 2 (by decide)
                refine ite_y rfl (wp_val (.int .i64 kj) ?_ ?_)
                · simp only [execOp, eval_tmp, eval_const, t34, t35]; simp [go_sem, A1]
                · exact ⟨_, rfl, Below.refl _ _, rfl⟩
              · intro a W hb0 hs hp hi; have hb := undrew hb0; clear hb0
                have ti0 : sl a 33 = .slice (some ⟨w.heap.size, 0, none⟩) N N := hp 0 (by decide)
                have ti1 : sl a 36 = .int .i64 kj := hp 3 (by decide)
                refine ite_y rfl (wp_val (.pointer (some ⟨w.heap.size, kj, none⟩)) ?_ ?_)
                · simp only [execOp, eval_tmp, eval_const, ti0, ti1]; simp [go_sem, K1, K2, K3]
                · exact ⟨_, rfl, Below.refl _ _, rfl⟩
              · intro a W hb0 hs hp hi; have hb := undrew hb0; clear hb0
                have tt : sl a 37 = .pointer (some ⟨w.heap.size, kj, none⟩) := hp 4 (by decide)
                have dd := (hb.cell (p := ⟨w.heap.size, kj, none⟩) (lt_of_cell cP)).trans cP
                refine ite_y rfl (wp_val (.int .u8 pr) ?_ ?_)
                · simp only [execOp, eval_tmp, tt]; simp [go_sem, dd]
                · exact ⟨_, rfl, Below.refl _ _, rfl⟩
              · intro a W hb0 hs hp hi; have hb := undrew hb0; clear hb0
                have tt : sl a 38 = .int .u8 pr := hp 5 (by decide)
                refine ite_y rfl (wp_val (.int .i64 pr) ?_ ?_)
                · simp only [execOp, eval_tmp, tt]; simp [go_sem, A5]
                · exact ⟨_, rfl, Below.refl _ _, rfl⟩
              · intro a W hb0 hs hp hi; have hb := undrew hb0; clear hb0
                have t0 : sl a 0 = .slice (some ⟨b, o, none⟩) n c := hi 0 (by decide)
                exact ite_y rfl (wp_val (sl a 0) rfl ⟨_, rfl, Below.refl _ _, t0⟩)
              · intro a W hb0 hs hp hi; have hb := undrew hb0; clear hb0
                have t6 : sl a 6 = .int .i64 k := hi 6 (by decide)
                exact ite_y rfl (wp_val (sl a 6) rfl ⟨_, rfl, Below.refl _ _, t6⟩)
              · intro a W hb0 hs hp hi; have hb := undrew hb0; clear hb0
                have ti0 : sl a 40 = .slice (some ⟨b, o, none⟩) n c := hp 7 (by decide)
                have ti1 : sl a 41 = .int .i64 k := hp 8 (by decide)
                refine ite_y rfl (wp_val (.pointer (some ⟨b, o + k, none⟩)) ?_ ?_)
                · simp only [execOp, eval_tmp, eval_const, ti0, ti1]; simp [go_sem, L1, hlt]
                · exact ⟨_, rfl, Below.refl _ _, rfl⟩
              · intro a W hb0 hs hp hi; have hb := undrew hb0; clear hb0
                have tt : sl a 42 = .pointer (some ⟨b, o + k, none⟩) := hp 9 (by decide)
                have dd := (hb.cell (p := ⟨b, o + k, none⟩) (lt_of_cell cX)).trans cX
                refine ite_y rfl (wp_val (.int .u8 x) ?_ ?_)
                · simp only [execOp, eval_tmp, tt]; simp [go_sem, dd]
                · exact ⟨_, rfl, Below.refl _ _, rfl⟩
              · intro a W hb0 hs hp hi; have hb := undrew hb0; clear hb0
                have tt : sl a 43 = .int .u8 x := hp 10 (by decide)
                refine ite_y rfl (wp_val (.int .i64 x) ?_ ?_)
                · simp only [execOp, eval_tmp, tt]; simp [go_sem, A6]
                · exact ⟨_, rfl, Below.refl _ _, rfl⟩
              · intro a W hb0 hs hp hi; have hb := undrew hb0; clear hb0
                have t1 : sl a 1 = .slice q m d := hi 1 (by decide)
                exact ite_y rfl (wp_val (sl a 1) rfl ⟨_, rfl, Below.refl _ _, t1⟩)
              · intro a W hb0 hs hp hi; have hb := undrew hb0; clear hb0
                have t8 : sl a 8 = .int .i64 j := hi 8 (by decide)
                exact ite_y rfl (wp_val (sl a 8) rfl ⟨_, rfl, Below.refl _ _, t8⟩)
              · intro a W hb0 hs hp hi; have hb := undrew hb0; clear hb0
                have t45 : sl a 45 = .slice q m d := hp 12 (by decide)
                have t46 : sl a 46 = .int .i64 j := hp 13 (by decide)
                refine ite_y rfl (wp_enter 38 #[.slice q m d, .int .i64 j] ?_ (CY.out W hb) ?_)
                · simp only [execOp, resolve, List.map_toArray, List.map, eval_tmp, eval_func, eval_const, t45, t46]; simp [go_sem]
                · rintro e W' ⟨rfl, rfl⟩; exact ⟨_, rfl, _, rfl, Below.refl _ _, rfl⟩
              · intro a W hb0 hs hp hi; have hb := undrew hb0; clear hb0
                have t44 : sl a 44 = .int .i64 x := hp 11 (by decide)
                have t47 : sl a 47 = .int .i64 y := hp 14 (by decide)
                refine ite_y rfl (wp_val (.int .i64 P) ?_ ?_)
                · simp only [execOp, eval_tmp, eval_const, t44, t47]; simp [go_sem, A2]
                · exact ⟨_, rfl, Below.refl _ _, rfl⟩
              · intro a W hb0 hs hp hi; have hb := undrew hb0; clear hb0
                have t39 : sl a 39 = .int .i64 pr := hp 6 (by decide)
                have t48 : sl a 48 = .int .i64 P := hp 15 (by decide)
                refine ite_y rfl (wp_val (.int .i64 PP) ?_ ?_)
                · simp only [execOp, eval_tmp, eval_const, t39, t48]; simp [go_sem, A3]
                · exact ⟨_, rfl, Below.refl _ _, rfl⟩
              · intro a W hb0 hs hp hi; have hb := undrew hb0; clear hb0
                have t7 : sl a 7 = .int .i64 cy := hi 7 (by decide)
                exact ite_y rfl (wp_val (sl a 7) rfl ⟨_, rfl, Below.refl _ _, t7⟩)
              · intro a W hb0 hs hp hi; have hb := undrew hb0; clear hb0
                have t49 : sl a 49 = .int .i64 PP := hp 16 (by decide)
                have t50 : sl a 50 = .int .i64 cy := hp 17 (by decide)
                refine ite_y rfl (wp_val (.int .i64 s) ?_ ?_)
                · simp only [execOp, eval_tmp, eval_const, t49, t50]; simp [go_sem, A4]
                · exact ⟨_, rfl, Below.refl _ _, rfl⟩
              · intro a W hb0 hs hp hi; have hb := undrew hb0; clear hb0
                have t51 : sl a 51 = .int .i64 s := hp 18 (by decide)
                exact ite_y rfl (wp_val (sl a 51) rfl ⟨_, rfl, Below.refl _ _, t51⟩)
            intro a wk hb hs hd hI ht
            have ha := act_is [33, 34, 35, 36, 37, 38, 39, 40, 41, 42, 43, 44, 45, 46, 47, 48, 49, 50, 51, 9] hs hd ht (by decide)
            have t51 : sl a 51 = .int .i64 s := hI 18 (by decide)
            have t9 : sl a 9 = .int .i64 s := hI 19 (by decide)
            simp only [List.foldl, t51, t9] at ha
            generalize sl a 33 = u33 at ha
            generalize sl a 34 = u34 at ha
            generalize sl a 35 = u35 at ha
            generalize sl a 36 = u36 at ha
            generalize sl a 37 = u37 at ha
            generalize sl a 38 = u38 at ha
            generalize sl a 39 = u39 at ha
            generalize sl a 40 = u40 at ha
            generalize sl a 41 = u41 at ha
            generalize sl a 42 = u42 at ha
            generalize sl a 43 = u43 at ha
            generalize sl a 44 = u44 at ha
            generalize sl a 45 = u45 at ha
            generalize sl a 46 = u46 at ha
            generalize sl a 47 = u47 at ha
            generalize sl a 48 = u48 at ha
            generalize sl a 49 = u49 at ha
            generalize sl a 50 = u50 at ha
            simp only [Act.put, List.setIfInBounds_toArray, List.set_cons_zero, List.set_cons_succ] at ha
            rw [ha]
            clear ha hI ht
            have hO2 := Lib.hid (owns_keep hO.out hb)
            have hB2 := Lib.hid (bl hB.out hb hB.out.size)
            obtain ⟨d8, hd8⟩ : ∃ d8 : UInt8, d8.toNat = s % 256 := ⟨UInt8.ofNat (s % 256), by simp⟩
            obtain ⟨cy', hcy'⟩ : ∃ cy', cy' = s / 256 := ⟨_, rfl⟩
            have F := Lib.hid (FIN.out d8 hd8)
            have D1 : (s : Int) % 256 = (d8.toNat : Int) := by omega
            have D2 : (s : Int) / 256 = (cy' : Int) := by omega
            have D3 : (k : Int) + (j : Int) = (kj : Int) := by have := HKJ.out; omega
            have HCY := Lib.hid hcy'
            have d256 := d8.toNat_lt
            have cP2 : wk.cell? ⟨w.heap.size, kj, none⟩ = some (.int .u8 (pr : Int)) := (hb.cell (p := ⟨w.heap.size, kj, none⟩) (lt_of_cell cP)).trans cP
            have zP2 : wk.frozen? ⟨w.heap.size, kj, none⟩ = false := hO2.out.frozenAt _
            have HST : Hid ((wk.setCell ⟨w.heap.size, kj, none⟩ (B8 d8)).ownsRow w.heap.size 5 1 (.slice (some ⟨w.heap.size, 0, none⟩) N N) N ((S.set kj d8).map B8) ∧ Below w.heap.size w (wk.setCell ⟨w.heap.size, kj, none⟩ (B8 d8))) := ⟨by rw [List.map_set]; exact (hO2.out.stored _ _).1, hB2.out.setCell (Nat.le_refl _) _⟩
            clear hb hO hB hSl cP cX A1 A2 A3 A4 A5 A6 CY FIN hd8 hcy' hO2 hB2
            go_wp2
            go_roundw
            case rel => exact ⟨j + 1, cy', S.set kj d8, by omega, by go_num, rfl, by have := HCYB.out.1; have := HCY.out; omega, fun h => by rw [HCY.out]; exact HCYB.out.2 h, F.out.1, HST.out.1, by have := F.out.2.1; rw [← HCY.out] at this; exact this, F.out.2.2, HST.out.2⟩
            case measure => simp [intOf]; omega
        · have hcy0 : cy = 0 := by omega
          subst hcy0
          have g1 : (m : Int) ≤ (j : Int) := by omega
          have F : Hid (valB S = valB (xs.take (k + 1)) * valB ys ∧ ∀ t, k + 1 + m ≤ t → t < N → S[t]? = some 0) := by
            refine ⟨?_, fun t h1 h2 => hZ.out t (by omega) (by omega) h2⟩
            have h1 := hV.out
            rw [valB_all (xs := ys) (by have := HL.out.2; omega), Nat.mul_zero, Nat.add_zero] at h1
            rw [h1, HV0.out, HXV.out]
            exact mul_next rfl
          clear hgo hmj hV hZ
          go_wp2
          go_roundw
          case rel => exact ⟨k + 1, S, by omega, by go_num, hSl.out, hO.out, F.out.1, F.out.2, hB.out⟩
          case measure => simp [intOf]; omega
    · obtain rfl : k = n := by omega
      have HS := Lib.hid (Sl.of_owns hO.out)
      have HV : Hid (valB S = valB xs * valB ys) := by
        show _ = _
        rw [hV.out, valB_all (xs := xs) (by have := HL.out.1; omega)]
      clear hV hZ hSl hO hlt
      go_wp2_with fail
      refine Calls.mono (Trim_ref _ _ _ S wr HS.out) ?_
      rintro e w1 ⟨q2, n2, c2, rfl, hs2, rfl⟩
      rw [HV.out] at hs2
      have HS2 := Lib.hid hs2
      clear hs2
      go_wp2
      go_ret
      exact ⟨_, _, _, rfl, HS2.out, hB.out⟩
end Go.Proofs.YtmcehghbcjhkdaaDoor
