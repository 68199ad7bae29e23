/- The walk of the law PlanChecks. -/
import Derived.Test.YtnlfohbmdmeodaaDoorQD
import Derived.OpenShut
namespace Go.Proofs.YtnlfohbmdmeodaaDoor
open Go.RowKit Go.By
set_option maxRecDepth 100000 in
set_option maxHeartbeats 1000000 in
theorem awake10 (w : World) : Calls Tryd.prog 6 #[] w fun e w' => e = .returned (.bool true) ∧ Below w.heap.size w w' := by
  have H1 : Hid (∀ w, Calls Tryd.prog 7 #[.int .i64 5, .int .i64 2, .int .u32 7] w fun e w' => e = .returned (.tuple #[.agg #[.int .i64 5, .int .i64 2, .int .i64 3, .int .u32 7], .int .i64 0]) ∧ Below w.heap.size w w') := fun w => POf_any 5 2 7 w (by omega)
  have H2 : Hid (∀ w, Calls Tryd.prog 7 #[.int .i64 0, .int .i64 2, .int .u32 7] w fun e w' => e = .returned (.tuple #[.agg #[.int .i64 0, .int .i64 2, .int .i64 1, .int .u32 7], .int .i64 0]) ∧ Below w.heap.size w w') := fun w => POf_any 0 2 7 w (by omega)
  have H3 : Hid (∀ w, Calls Tryd.prog 14 #[.agg #[.int .i64 5, .int .i64 2, .int .i64 3, .int .u32 7]] w fun e w' => e = .returned (.int .i64 1) ∧ Below w.heap.size w w') := fun w => PPad_any 5 2 3 7 w (by omega)
  have H4 : Hid (∀ w, Calls Tryd.prog 14 #[.agg #[.int .i64 0, .int .i64 2, .int .i64 1, .int .u32 7]] w fun e w' => e = .returned (.int .i64 2) ∧ Below w.heap.size w w') := fun w => PPad_any 0 2 1 7 w (by omega)
  go_enter Tryd.func6, Tryd.ntmps6
  go_wp2_with fail
  refine (H1.out _).mono ?_; rintro e w1 ⟨rfl, hb1⟩
  have k1 := Lib.hid hb1; clear hb1
  go_wp2_with fail
  refine use_wq (fun W => PC4 w1.heap.size 24 5 2 3 7 W ∧ Below w.heap.size w W) ⟨hnew rfl, al k1.out k1.out.size⟩ ?_
  rintro W2 ⟨x1, k2⟩
  refine (H2.out _).mono ?_; rintro e w2 ⟨rfl, hb2⟩
  have X1 := Lib.hid (x1.keep hb2)
  have K2 : Hid (Below w.heap.size w w2) := bl k2 hb2 k2.size
  clear x1 k2 hb2 k1
  obtain ⟨b1, hb1⟩ : ∃ b1, b1 = w1.heap.size := ⟨_, rfl⟩
  rw [← hb1] at X1 ⊢
  clear hb1
  have X1a : Hid (∀ o, PC4 b1 24 5 2 3 7 (w2.alloc o)) := fun o => hal X1.out
  have q2 := fun o => (X1a.out o).cells.2.2.1
  have q0 := fun o => (X1a.out o).cells.1
  have q1 := fun o => (X1a.out o).cells.2.1
  have q3 := fun o => (X1a.out o).cells.2.2.2
  go_wp2_with fail
  refine use_wq (fun W => PC4 w2.heap.size 24 0 2 1 7 W ∧ Below w.heap.size w W) ⟨hnew rfl, al K2.out K2.out.size⟩ ?_
  rintro W3 ⟨x2, k3⟩
  refine (H3.out _).mono ?_; rintro e w3 ⟨rfl, hb3⟩
  obtain ⟨c0, c1, c2, c3⟩ := (x2.keep hb3).cells
  have K3 : Hid (Below w.heap.size w w3) := bl k3 hb3 k3.size
  clear x2 k3 hb3 q0 q1 q2 q3
  go_wp2_with fail
  refine (H4.out _).mono ?_; rintro e w4 ⟨rfl, hb4⟩
  have K4 : Hid (Below w.heap.size w w4) := bl K3.out hb4 K3.out.size
  clear hb4
  go_wp2
  go_ret
  exact ⟨rfl, K4.out⟩
theorem fit_zero {l s : Int} (h : fitS l s = 0) : 0 ≤ l ∧ 1 ≤ s ∧ needS l s ≤ 4096 ∧ ofS l s = fun d => .tuple #[.agg #[.int .i64 l, .int .i64 s, .int .i64 (needS l s), .int .u32 d], .int .i64 0] := by
  rcases fitS_cases l s with ⟨a, _⟩ | ⟨_, h1, h2, h3, h4⟩
  · exact absurd h a
  · exact ⟨h1, h2, h4, by funext d; exact if_pos h⟩
theorem fit_not {l s : Int} (h : fitS l s ≠ 0) : ofS l s = (fun d => .tuple #[.agg #[.int .i64 0, .int .i64 0, .int .i64 0, .int .u32 0], .int .i64 (fitS l s)]) ∧ ∀ n, checkS l s n = fitS l s := ⟨by funext d; exact if_neg h, fun n => if_neg h⟩
set_option maxRecDepth 100000 in
set_option maxHeartbeats 8000000 in
theorem PlanChecks_A1 (l s n : Int) (d : Nat) (hd : d < 4294967296) (w : World) (hl2 : l ≤ 9223372036854775807) (hT : Tab10 w) (hf : fitS l s ≠ 0) (h0 : ¬ 0 ≤ l) :
    Calls Tryd.prog 3 #[.agg #[.int .i64 l, .int .i64 s, .int .i64 n, .int .u32 (d : Int)]] w fun e w' => e = .returned (.bool true) ∧ Below w.heap.size w w' := by
  have HT := Lib.hid hT
  clear hT
  have HC := Lib.hid (fun w => Check_any l s n d w hl2)
  have HRC := Lib.hid (fun w => RCheck_any l s n d w hl2)
  have HTX := Lib.hid (fun w hT => PText_any l s n d hd w hl2 hT)
  have HRT := Lib.hid (fun w hT => RText_any l s n d hd w hl2 hT)
  have HRM := Lib.hid (fun w => PRoom_any l s n d w hl2)
  have HPD := Lib.hid (fun w => PPad_any l s n d w hl2)
  have HO := Lib.hid (fun w => POf_any l s d w hl2)
  obtain ⟨e1, e2⟩ := fit_not hf
  simp only [e1] at HO
  rw [e2 n] at HC HRC
  have er : roomS l s n = 0 := if_neg (by rw [e2]; exact hf)
  have ep : padS l s n = 0 := if_neg (by rw [e2]; exact hf)
  rw [er] at HRM
  rw [ep] at HPD
  have HRK := HRC
  have hfb : (fitS l s == 0) = false := by simpa using hf
  have hfn : (fitS l s != 0) = true := by simpa using hf
  clear er ep e1 e2 hf
  generalize fitS l s = f at *
  generalize textS l s n d = tx at *
  go_enter Tryd.func3, Tryd.ntmps3
  go_wp2_with fail
  refine use_wq (fun W => PC4 w.heap.size 24 l s n d W ∧ Below w.heap.size w W) ⟨hnew rfl, al (Below.refl _ _) (Nat.le_refl _)⟩ ?_
  rintro W1 ⟨x0, k1⟩
  refine Calls.mono (awake10 _) ?_
  rintro e w1 ⟨rfl, hb⟩
  have X0 := Lib.hid (x0.keep hb)
  have K1 : Hid (Below w.heap.size w w1) := bl k1 hb k1.size
  clear x0 k1 hb
  obtain ⟨b0, hb0⟩ : ∃ b0, b0 = w.heap.size := ⟨_, rfl⟩
  rw [← hb0] at X0
  have HB0 := Lib.hid hb0
  have HBA : Hid (∀ (W : World) o, Below W.heap.size W (W.alloc o)) := fun W o => al (Below.refl _ _) (Nat.le_refl _)
  obtain ⟨x0, x1, x2, x3⟩ := X0.out.cells
  have y0 := fun o => (X0.out.keep (HBA.out _ o)).cells.1
  have y1 := fun o => (X0.out.keep (HBA.out _ o)).cells.2.1
  have y3 := fun o => (X0.out.keep (HBA.out _ o)).cells.2.2.2
  rw [← hb0]
  clear hb0
  go_wp2_with fail
  refine use_wq (fun W => PC4 b0 24 l s n d W ∧ PC4 w1.heap.size 26 l s n d W ∧ Below w.heap.size w W) ⟨hal X0.out, hnew rfl, al K1.out K1.out.size⟩ ?_
  rintro W2 ⟨z0, z1, k2⟩
  refine (HO.out _).mono ?_
  rintro e w2 ⟨rfl, hb⟩
  have Y0 := Lib.hid (z0.keep hb)
  have Y1 := Lib.hid (z1.keep hb)
  have K2 : Hid (Below w.heap.size w w2) := bl k2 hb k2.size
  clear z0 z1 k2 hb x0 x1 x2 x3 y0 y1 y3 X0 K1
  generalize w1.heap.size = b1 at *
  have p0 := fun o => (Y1.out.keep (HBA.out _ o)).cells.1
  have p1 := fun o => (Y1.out.keep (HBA.out _ o)).cells.2.1
  have p2 := fun o => (Y1.out.keep (HBA.out _ o)).cells.2.2.1
  have p3 := fun o => (Y1.out.keep (HBA.out _ o)).cells.2.2.2
  have q0 := fun o o' => ((Y1.out.keep (HBA.out _ o)).keep (HBA.out _ o')).cells.1
  have q1 := fun o o' => ((Y1.out.keep (HBA.out _ o)).keep (HBA.out _ o')).cells.2.1
  go_wp2_with fail
  refine use_wq (fun W => PC4 b0 24 l s n d W ∧ PC4 b1 26 l s n d W ∧ PC4 w2.heap.size 24 0 0 0 0 W ∧ PC4 (w2.heap.size + 1) 26 l s n d W ∧ Below w.heap.size w W) ⟨hal (hal Y0.out), hal (hal Y1.out), hal (hnew rfl), hnew (by simp), al (al K2.out K2.out.size) (by have := K2.out.size; simp; omega)⟩ ?_
  rintro W3 ⟨z0, z1, z2, z3, k3⟩
  refine Calls.mono (HRK.out _) ?_
  rintro e w3 ⟨rfl, hb⟩
  have Z0 := Lib.hid (z0.keep hb)
  have Z1 := Lib.hid (z1.keep hb)
  have Z2 := Lib.hid (z2.keep hb)
  have Z3 := Lib.hid (z3.keep hb)
  have K3 : Hid (Below w.heap.size w w3) := bl k3 hb k3.size
  have h23 : Hid (w.heap.size ≤ w2.heap.size) := K2.out.size
  have HLA := Y0.out.lt
  have HLB := Y1.out.lt
  clear z0 z1 z2 z3 k3 hb p0 p1 p2 p3 q0 q1 Y0 Y1 K2
  have hd2 : Hid (b0 < w2.heap.size + 1 ∧ b1 < w2.heap.size + 1) := ⟨Nat.lt_succ_of_lt HLA, Nat.lt_succ_of_lt HLB⟩
  clear HLA HLB
  obtain ⟨b2, hb2⟩ : ∃ b2, b2 = w2.heap.size := ⟨_, rfl⟩
  rw [← hb2] at Z2 Z3 hd2 h23 ⊢
  clear hb2
  obtain ⟨y0, y1, y2, y3⟩ := Z1.out.cells
  have d0 := Z3.out.cells.1
  have d1 := Z3.out.cells.2.1
  have d2 := Z3.out.cells.2.2.1
  have d3 := Z3.out.cells.2.2.2
  have zf := Z3.out.froz
  have hne1 : b2 + 1 ≠ b1 := by have := hd2.out; omega
  have hne2 : b1 ≠ b2 + 1 := by have := hd2.out; omega
  go_wp2_with fail
  refine use_wq (fun W => PC4 b0 24 l s n d W ∧ PC4 b1 26 l s n d W ∧ PC4 b2 24 0 0 0 0 W ∧ PC4 (b2 + 1) 26 0 0 0 0 W ∧ Below w.heap.size w W) ?use2 ?_
  case use2 =>
    have e0 : b0 ≠ b2 + 1 := by have := hd2.out; omega
    have e2 : b2 ≠ b2 + 1 := by omega
    have e3 : w.heap.size ≤ b2 + 1 := by have := h23.out; omega
    refine ⟨?_, ?_, ?_, ?_, ?_⟩
    · exact hsc (hsc (hsc (hsc Z0.out e0) e0) e0) e0
    · exact hsc (hsc (hsc (hsc Z1.out hne2) hne2) hne2) hne2
    · exact hsc (hsc (hsc (hsc Z2.out e2) e2) e2) e2
    · exact hss (hss (hss (hss Z3.out)))
    · exact (((K3.out.setCell e3 _).setCell e3 _).setCell e3 _).setCell e3 _
  rintro W4 ⟨z0, z1, z2, z3, k4⟩
  refine Calls.mono (HRC.out _) ?_
  rintro e w4 ⟨rfl, hb⟩
  have V0 := Lib.hid (z0.keep hb)
  have V1 := Lib.hid (z1.keep hb)
  have V2 := Lib.hid (z2.keep hb)
  have V3 := Lib.hid (z3.keep hb)
  have K4 : Hid (Below w.heap.size w w4) := bl k4 hb k4.size
  have HT4 := Lib.hid (HT.out.keep K4.out)
  clear z0 z1 z2 z3 k4 hb Z0 Z1 Z2 Z3 K3 y0 y1 y2 y3 d0 d1 d2 d3 zf hne1 hne2
  obtain ⟨b3, hb3⟩ : ∃ b3, b3 = b2 + 1 := ⟨_, rfl⟩
  rw [← hb3] at V3
  try rw [← hb3]
  clear hb3 hd2 h23
  obtain ⟨x0, x1, x2, x3⟩ := V0.out.cells
  obtain ⟨y0, y1, y2, y3⟩ := V1.out.cells
  obtain ⟨u0, u1, u2, u3⟩ := V2.out.cells
  obtain ⟨v0, v1, v2, v3⟩ := V3.out.cells
  go_wp2
  refine wp_region_shapes (fun ix => ([.val (.agg #[.int .i64 l, .int .i64 s, .int .i64 n, .int .u32 (d : Int)]), .val (.int .i64 f), .val (.agg #[.int .i64 l, .int .i64 s, .int .i64 n, .int .u32 (d : Int)]), .val (.int .i64 f), .val (.bool true), .val (.bool true), .val (.agg #[.int .i64 l, .int .i64 s, .int .i64 n, .int .u32 (d : Int)]), .val (.string (strB tx)), .val (.agg #[.int .i64 l, .int .i64 s, .int .i64 n, .int .u32 (d : Int)]), .val (.string (strB tx)), .val (.bool true), .val (.bool true), .val (.bool true), .val (.agg #[.int .i64 l, .int .i64 s, .int .i64 n, .int .u32 (d : Int)]), .val (.int .i64 0), .val (.int .i64 0), .val (.bool true), .val (.bool true), .val (.bool true), .val (.agg #[.int .i64 l, .int .i64 s, .int .i64 n, .int .u32 (d : Int)]), .val (.int .i64 0), .val (.int .i64 0), .val (.bool true), .val (.bool true), .val (.bool true), .val (.agg #[.int .i64 0, .int .i64 0, .int .i64 0, .int .u32 0]), .val (.agg #[.int .i64 0, .int .i64 0, .int .i64 0, .int .u32 0]), .val (.bool true), .val (.bool true), .val (.bool true), .val (.int .i64 f), .val (.int .i64 f), .val (.bool true), .val (.bool true), .val (.bool true)][ix]?).getD (.any)) 93 rfl (by kernel_rfl) (by decide) (by decide) (by decide) ?_ ?_
  · refine ⟨?_, ?_, ?_, ?_, ?_, ?_, ?_, ?_, ?_, ?_, ?_, ?_, ?_, ?_, ?_, ?_, ?_, ?_, ?_, ?_, ?_, ?_, ?_, ?_, ?_, ?_, ?_, ?_, ?_, ?_, ?_, ?_, ?_, ?_, ?_, trivial⟩
    · intro a W hb0 hs hp hi; have hb := undrew hb0; clear hb0
      have tt : sl a 1 = .pointer (some ⟨b0, 0, none⟩) := hi 1 (by decide)
      have dd0 := (hb.cell (p := ⟨b0, 0, none⟩) (lt_of_cell x0)).trans x0
      have dd1 := (hb.cell (p := ⟨b0, 1, none⟩) (lt_of_cell x1)).trans x1
      have dd2 := (hb.cell (p := ⟨b0, 2, none⟩) (lt_of_cell x2)).trans x2
      have dd3 := (hb.cell (p := ⟨b0, 3, none⟩) (lt_of_cell x3)).trans x3
      refine ite_y rfl (wp_val (.agg #[.int .i64 l, .int .i64 s, .int .i64 n, .int .u32 (d : Int)]) ?_ ?_)
      · simp only [execOp, eval_tmp, tt]; simp [go_sem, dd0, dd1, dd2, dd3]
      · exact ⟨_, rfl, Below.refl _ _, rfl⟩
    · intro a W hb0 hs hp hi; have hb := undrew hb0; clear hb0
      have t59 : sl a 59 = .agg #[.int .i64 l, .int .i64 s, .int .i64 n, .int .u32 (d : Int)] := hp 0 (by decide)
      refine ite_y rfl (wp_enter 10 #[.agg #[.int .i64 l, .int .i64 s, .int .i64 n, .int .u32 (d : Int)]] ?_ (HC.out W) ?_)
      · simp only [execOp, resolve, List.map_toArray, List.map, eval_tmp, eval_func, eval_const, t59]; simp [go_sem]
      · rintro e W' ⟨rfl, hw⟩; exact ⟨_, rfl, _, rfl, hw, rfl⟩
    · intro a W hb0 hs hp hi; have hb := undrew hb0; clear hb0
      have tt : sl a 3 = .pointer (some ⟨b1, 0, none⟩) := hi 3 (by decide)
      have dd0 := (hb.cell (p := ⟨b1, 0, none⟩) (lt_of_cell y0)).trans y0
      have dd1 := (hb.cell (p := ⟨b1, 1, none⟩) (lt_of_cell y1)).trans y1
      have dd2 := (hb.cell (p := ⟨b1, 2, none⟩) (lt_of_cell y2)).trans y2
      have dd3 := (hb.cell (p := ⟨b1, 3, none⟩) (lt_of_cell y3)).trans y3
      refine ite_y rfl (wp_val (.agg #[.int .i64 l, .int .i64 s, .int .i64 n, .int .u32 (d : Int)]) ?_ ?_)
      · simp only [execOp, eval_tmp, tt]; simp [go_sem, dd0, dd1, dd2, dd3]
      · exact ⟨_, rfl, Below.refl _ _, rfl⟩
    · intro a W hb0 hs hp hi; have hb := undrew hb0; clear hb0
      have t61 : sl a 61 = .agg #[.int .i64 l, .int .i64 s, .int .i64 n, .int .u32 (d : Int)] := hp 2 (by decide)
      refine ite_y rfl (wp_enter 9 #[.agg #[.int .i64 l, .int .i64 s, .int .i64 n, .int .u32 (d : Int)]] ?_ (HRC.out W) ?_)
      · simp only [execOp, resolve, List.map_toArray, List.map, eval_tmp, eval_func, eval_const, t61]; simp [go_sem]
      · rintro e W' ⟨rfl, hw⟩; exact ⟨_, rfl, _, rfl, hw, rfl⟩
    · intro a W hb0 hs hp hi; have hb := undrew hb0; clear hb0
      have t60 : sl a 60 = .int .i64 f := hp 1 (by decide)
      have t62 : sl a 62 = .int .i64 f := hp 3 (by decide)
      refine ite_y rfl (wp_val (.bool true) ?_ ?_)
      · simp only [execOp, eval_tmp, eval_const, t60, t62]; simp [go_sem]
      · exact ⟨_, rfl, Below.refl _ _, rfl⟩
    · intro a W hb0 hs hp hi; have hb := undrew hb0; clear hb0
      have t63 : sl a 63 = .bool true := hp 4 (by decide)
      exact ite_y rfl (wp_val (sl a 63) rfl ⟨_, rfl, Below.refl _ _, t63⟩)
    · intro a W hb0 hs hp hi; have hb := undrew hb0; clear hb0
      have tg : sl a 64 = .bool true := hp 5 (by decide)
      have tt : sl a 1 = .pointer (some ⟨b0, 0, none⟩) := hi 1 (by decide)
      have dd0 := (hb.cell (p := ⟨b0, 0, none⟩) (lt_of_cell x0)).trans x0
      have dd1 := (hb.cell (p := ⟨b0, 1, none⟩) (lt_of_cell x1)).trans x1
      have dd2 := (hb.cell (p := ⟨b0, 2, none⟩) (lt_of_cell x2)).trans x2
      have dd3 := (hb.cell (p := ⟨b0, 3, none⟩) (lt_of_cell x3)).trans x3
      refine ite_y (wanted_yes rfl rfl (by have hz : a.tmps.size = 93 := hs; rw [hz]; decide) tg) (wp_val (.agg #[.int .i64 l, .int .i64 s, .int .i64 n, .int .u32 (d : Int)]) ?_ ?_)
      · simp only [execOp, eval_tmp, tt]; simp [go_sem, dd0, dd1, dd2, dd3]
      · exact ⟨_, rfl, Below.refl _ _, rfl⟩
    · intro a W hb0 hs hp hi; have hb := undrew hb0; clear hb0
      have tg : sl a 64 = .bool true := hp 5 (by decide)
      have t65 : sl a 65 = .agg #[.int .i64 l, .int .i64 s, .int .i64 n, .int .u32 (d : Int)] := hp 6 (by decide)
      refine ite_y (wanted_yes rfl rfl (by have hz : a.tmps.size = 93 := hs; rw [hz]; decide) tg) (wp_enter 11 #[.agg #[.int .i64 l, .int .i64 s, .int .i64 n, .int .u32 (d : Int)]] ?_ (HTX.out W (HT4.out.keep hb)) ?_)
      · simp only [execOp, resolve, List.map_toArray, List.map, eval_tmp, eval_func, eval_const, t65]; simp [go_sem]
      · rintro e W' ⟨rfl, hw⟩; exact ⟨_, rfl, _, rfl, hw, rfl⟩
    · intro a W hb0 hs hp hi; have hb := undrew hb0; clear hb0
      have tg : sl a 64 = .bool true := hp 5 (by decide)
      have tt : sl a 3 = .pointer (some ⟨b1, 0, none⟩) := hi 3 (by decide)
      have dd0 := (hb.cell (p := ⟨b1, 0, none⟩) (lt_of_cell y0)).trans y0
      have dd1 := (hb.cell (p := ⟨b1, 1, none⟩) (lt_of_cell y1)).trans y1
      have dd2 := (hb.cell (p := ⟨b1, 2, none⟩) (lt_of_cell y2)).trans y2
      have dd3 := (hb.cell (p := ⟨b1, 3, none⟩) (lt_of_cell y3)).trans y3
      refine ite_y (wanted_yes rfl rfl (by have hz : a.tmps.size = 93 := hs; rw [hz]; decide) tg) (wp_val (.agg #[.int .i64 l, .int .i64 s, .int .i64 n, .int .u32 (d : Int)]) ?_ ?_)
      · simp only [execOp, eval_tmp, tt]; simp [go_sem, dd0, dd1, dd2, dd3]
      · exact ⟨_, rfl, Below.refl _ _, rfl⟩
    · intro a W hb0 hs hp hi; have hb := undrew hb0; clear hb0
      have tg : sl a 64 = .bool true := hp 5 (by decide)
      have t67 : sl a 67 = .agg #[.int .i64 l, .int .i64 s, .int .i64 n, .int .u32 (d : Int)] := hp 8 (by decide)
      refine ite_y (wanted_yes rfl rfl (by have hz : a.tmps.size = 93 := hs; rw [hz]; decide) tg) (wp_enter 12 #[.agg #[.int .i64 l, .int .i64 s, .int .i64 n, .int .u32 (d : Int)]] ?_ (HRT.out W (HT4.out.keep hb)) ?_)
      · simp only [execOp, resolve, List.map_toArray, List.map, eval_tmp, eval_func, eval_const, t67]; simp [go_sem]
      · rintro e W' ⟨rfl, hw⟩; exact ⟨_, rfl, _, rfl, hw, rfl⟩
    · intro a W hb0 hs hp hi; have hb := undrew hb0; clear hb0
      have tg : sl a 64 = .bool true := hp 5 (by decide)
      have t66 : sl a 66 = .string (strB tx) := hp 7 (by decide)
      have t68 : sl a 68 = .string (strB tx) := hp 9 (by decide)
      refine ite_y (wanted_yes rfl rfl (by have hz : a.tmps.size = 93 := hs; rw [hz]; decide) tg) (wp_val (.bool true) ?_ ?_)
      · simp only [execOp, eval_tmp, eval_const, t66, t68]; simp [go_sem]
      · exact ⟨_, rfl, Below.refl _ _, rfl⟩
    · intro a W hb0 hs hp hi; have hb := undrew hb0; clear hb0
      have t64 : sl a 64 = .bool true := hp 5 (by decide)
      have t69 : sl a 69 = .bool true := hp 10 (by decide)
      refine ite_y rfl (wp_val (.bool true) ?_ ?_)
      · simp only [execOp, eval_tmp, eval_const, t64, t69]; simp [go_sem]
      · exact ⟨_, rfl, Below.refl _ _, rfl⟩
    · intro a W hb0 hs hp hi; have hb := undrew hb0; clear hb0
      have t70 : sl a 70 = .bool true := hp 11 (by decide)
      exact ite_y rfl (wp_val (sl a 70) rfl ⟨_, rfl, Below.refl _ _, t70⟩)
    · intro a W hb0 hs hp hi; have hb := undrew hb0; clear hb0
      have tg : sl a 71 = .bool true := hp 12 (by decide)
      have tt : sl a 1 = .pointer (some ⟨b0, 0, none⟩) := hi 1 (by decide)
      have dd0 := (hb.cell (p := ⟨b0, 0, none⟩) (lt_of_cell x0)).trans x0
      have dd1 := (hb.cell (p := ⟨b0, 1, none⟩) (lt_of_cell x1)).trans x1
      have dd2 := (hb.cell (p := ⟨b0, 2, none⟩) (lt_of_cell x2)).trans x2
      have dd3 := (hb.cell (p := ⟨b0, 3, none⟩) (lt_of_cell x3)).trans x3
      refine ite_y (wanted_yes rfl rfl (by have hz : a.tmps.size = 93 := hs; rw [hz]; decide) tg) (wp_val (.agg #[.int .i64 l, .int .i64 s, .int .i64 n, .int .u32 (d : Int)]) ?_ ?_)
      · simp only [execOp, eval_tmp, tt]; simp [go_sem, dd0, dd1, dd2, dd3]
      · exact ⟨_, rfl, Below.refl _ _, rfl⟩
    · intro a W hb0 hs hp hi; have hb := undrew hb0; clear hb0
      have tg : sl a 71 = .bool true := hp 12 (by decide)
      have t72 : sl a 72 = .agg #[.int .i64 l, .int .i64 s, .int .i64 n, .int .u32 (d : Int)] := hp 13 (by decide)
      refine ite_y (wanted_yes rfl rfl (by have hz : a.tmps.size = 93 := hs; rw [hz]; decide) tg) (wp_enter 13 #[.agg #[.int .i64 l, .int .i64 s, .int .i64 n, .int .u32 (d : Int)]] ?_ (HRM.out W) ?_)
      · simp only [execOp, resolve, List.map_toArray, List.map, eval_tmp, eval_func, eval_const, t72]; simp [go_sem]
      · rintro e W' ⟨rfl, hw⟩; exact ⟨_, rfl, _, rfl, hw, rfl⟩
    · intro a W hb0 hs hp hi; have hb := undrew hb0; clear hb0
      have tg : sl a 71 = .bool true := hp 12 (by decide)
      have t8 : sl a 8 = .int .i64 0 := hi 8 (by decide)
      exact ite_y (wanted_yes rfl rfl (by have hz : a.tmps.size = 93 := hs; rw [hz]; decide) tg) (wp_val (sl a 8) rfl ⟨_, rfl, Below.refl _ _, t8⟩)
    · intro a W hb0 hs hp hi; have hb := undrew hb0; clear hb0
      have tg : sl a 71 = .bool true := hp 12 (by decide)
      have t73 : sl a 73 = .int .i64 0 := hp 14 (by decide)
      have t74 : sl a 74 = .int .i64 0 := hp 15 (by decide)
      refine ite_y (wanted_yes rfl rfl (by have hz : a.tmps.size = 93 := hs; rw [hz]; decide) tg) (wp_val (.bool true) ?_ ?_)
      · simp only [execOp, eval_tmp, eval_const, t73, t74]; simp [go_sem]
      · exact ⟨_, rfl, Below.refl _ _, rfl⟩
    · intro a W hb0 hs hp hi; have hb := undrew hb0; clear hb0
      have t71 : sl a 71 = .bool true := hp 12 (by decide)
      have t75 : sl a 75 = .bool true := hp 16 (by decide)
      refine ite_y rfl (wp_val (.bool true) ?_ ?_)
      · simp only [execOp, eval_tmp, eval_const, t71, t75]; simp [go_sem]
      · exact ⟨_, rfl, Below.refl _ _, rfl⟩
    · intro a W hb0 hs hp hi; have hb := undrew hb0; clear hb0
      have t76 : sl a 76 = .bool true := hp 17 (by decide)
      exact ite_y rfl (wp_val (sl a 76) rfl ⟨_, rfl, Below.refl _ _, t76⟩)
    · intro a W hb0 hs hp hi; have hb := undrew hb0; clear hb0
      have tg : sl a 77 = .bool true := hp 18 (by decide)
      have tt : sl a 1 = .pointer (some ⟨b0, 0, none⟩) := hi 1 (by decide)
      have dd0 := (hb.cell (p := ⟨b0, 0, none⟩) (lt_of_cell x0)).trans x0
      have dd1 := (hb.cell (p := ⟨b0, 1, none⟩) (lt_of_cell x1)).trans x1
      have dd2 := (hb.cell (p := ⟨b0, 2, none⟩) (lt_of_cell x2)).trans x2
      have dd3 := (hb.cell (p := ⟨b0, 3, none⟩) (lt_of_cell x3)).trans x3
      refine ite_y (wanted_yes rfl rfl (by have hz : a.tmps.size = 93 := hs; rw [hz]; decide) tg) (wp_val (.agg #[.int .i64 l, .int .i64 s, .int .i64 n, .int .u32 (d : Int)]) ?_ ?_)
      · simp only [execOp, eval_tmp, tt]; simp [go_sem, dd0, dd1, dd2, dd3]
      · exact ⟨_, rfl, Below.refl _ _, rfl⟩
    · intro a W hb0 hs hp hi; have hb := undrew hb0; clear hb0
      have tg : sl a 77 = .bool true := hp 18 (by decide)
      have t78 : sl a 78 = .agg #[.int .i64 l, .int .i64 s, .int .i64 n, .int .u32 (d : Int)] := hp 19 (by decide)
      refine ite_y (wanted_yes rfl rfl (by have hz : a.tmps.size = 93 := hs; rw [hz]; decide) tg) (wp_enter 14 #[.agg #[.int .i64 l, .int .i64 s, .int .i64 n, .int .u32 (d : Int)]] ?_ (HPD.out W) ?_)
      · simp only [execOp, resolve, List.map_toArray, List.map, eval_tmp, eval_func, eval_const, t78]; simp [go_sem]
      · rintro e W' ⟨rfl, hw⟩; exact ⟨_, rfl, _, rfl, hw, rfl⟩
    · intro a W hb0 hs hp hi; have hb := undrew hb0; clear hb0
      have tg : sl a 77 = .bool true := hp 18 (by decide)
      have t9 : sl a 9 = .int .i64 0 := hi 9 (by decide)
      exact ite_y (wanted_yes rfl rfl (by have hz : a.tmps.size = 93 := hs; rw [hz]; decide) tg) (wp_val (sl a 9) rfl ⟨_, rfl, Below.refl _ _, t9⟩)
    · intro a W hb0 hs hp hi; have hb := undrew hb0; clear hb0
      have tg : sl a 77 = .bool true := hp 18 (by decide)
      have t79 : sl a 79 = .int .i64 0 := hp 20 (by decide)
      have t80 : sl a 80 = .int .i64 0 := hp 21 (by decide)
      refine ite_y (wanted_yes rfl rfl (by have hz : a.tmps.size = 93 := hs; rw [hz]; decide) tg) (wp_val (.bool true) ?_ ?_)
      · simp only [execOp, eval_tmp, eval_const, t79, t80]; simp [go_sem]
      · exact ⟨_, rfl, Below.refl _ _, rfl⟩
    · intro a W hb0 hs hp hi; have hb := undrew hb0; clear hb0
      have t77 : sl a 77 = .bool true := hp 18 (by decide)
      have t81 : sl a 81 = .bool true := hp 22 (by decide)
      refine ite_y rfl (wp_val (.bool true) ?_ ?_)
      · simp only [execOp, eval_tmp, eval_const, t77, t81]; simp [go_sem]
      · exact ⟨_, rfl, Below.refl _ _, rfl⟩
    · intro a W hb0 hs hp hi; have hb := undrew hb0; clear hb0
      have t82 : sl a 82 = .bool true := hp 23 (by decide)
      exact ite_y rfl (wp_val (sl a 82) rfl ⟨_, rfl, Below.refl _ _, t82⟩)
    · intro a W hb0 hs hp hi; have hb := undrew hb0; clear hb0
      have tg : sl a 83 = .bool true := hp 24 (by decide)
      have tt : sl a 4 = .pointer (some ⟨b2, 0, none⟩) := hi 4 (by decide)
      have dd0 := (hb.cell (p := ⟨b2, 0, none⟩) (lt_of_cell u0)).trans u0
      have dd1 := (hb.cell (p := ⟨b2, 1, none⟩) (lt_of_cell u1)).trans u1
      have dd2 := (hb.cell (p := ⟨b2, 2, none⟩) (lt_of_cell u2)).trans u2
      have dd3 := (hb.cell (p := ⟨b2, 3, none⟩) (lt_of_cell u3)).trans u3
      refine ite_y (wanted_yes rfl rfl (by have hz : a.tmps.size = 93 := hs; rw [hz]; decide) tg) (wp_val (.agg #[.int .i64 0, .int .i64 0, .int .i64 0, .int .u32 0]) ?_ ?_)
      · simp only [execOp, eval_tmp, tt]; simp [go_sem, dd0, dd1, dd2, dd3]
      · exact ⟨_, rfl, Below.refl _ _, rfl⟩
    · intro a W hb0 hs hp hi; have hb := undrew hb0; clear hb0
      have tg : sl a 83 = .bool true := hp 24 (by decide)
      have tt : sl a 6 = .pointer (some ⟨b3, 0, none⟩) := hi 6 (by decide)
      have dd0 := (hb.cell (p := ⟨b3, 0, none⟩) (lt_of_cell v0)).trans v0
      have dd1 := (hb.cell (p := ⟨b3, 1, none⟩) (lt_of_cell v1)).trans v1
      have dd2 := (hb.cell (p := ⟨b3, 2, none⟩) (lt_of_cell v2)).trans v2
      have dd3 := (hb.cell (p := ⟨b3, 3, none⟩) (lt_of_cell v3)).trans v3
      refine ite_y (wanted_yes rfl rfl (by have hz : a.tmps.size = 93 := hs; rw [hz]; decide) tg) (wp_val (.agg #[.int .i64 0, .int .i64 0, .int .i64 0, .int .u32 0]) ?_ ?_)
      · simp only [execOp, eval_tmp, tt]; simp [go_sem, dd0, dd1, dd2, dd3]
      · exact ⟨_, rfl, Below.refl _ _, rfl⟩
    · intro a W hb0 hs hp hi; have hb := undrew hb0; clear hb0
      have tg : sl a 83 = .bool true := hp 24 (by decide)
      have t84 : sl a 84 = .agg #[.int .i64 0, .int .i64 0, .int .i64 0, .int .u32 0] := hp 25 (by decide)
      have t85 : sl a 85 = .agg #[.int .i64 0, .int .i64 0, .int .i64 0, .int .u32 0] := hp 26 (by decide)
      refine ite_y (wanted_yes rfl rfl (by have hz : a.tmps.size = 93 := hs; rw [hz]; decide) tg) (wp_val (.bool true) ?_ ?_)
      · simp only [execOp, eval_tmp, eval_const, t84, t85]; simp [go_sem, Tryd.underlying26, Tryd.underlying3, Tryd.underlying22]
      · exact ⟨_, rfl, Below.refl _ _, rfl⟩
    · intro a W hb0 hs hp hi; have hb := undrew hb0; clear hb0
      have t83 : sl a 83 = .bool true := hp 24 (by decide)
      have t86 : sl a 86 = .bool true := hp 27 (by decide)
      refine ite_y rfl (wp_val (.bool true) ?_ ?_)
      · simp only [execOp, eval_tmp, eval_const, t83, t86]; simp [go_sem]
      · exact ⟨_, rfl, Below.refl _ _, rfl⟩
    · intro a W hb0 hs hp hi; have hb := undrew hb0; clear hb0
      have t87 : sl a 87 = .bool true := hp 28 (by decide)
      exact ite_y rfl (wp_val (sl a 87) rfl ⟨_, rfl, Below.refl _ _, t87⟩)
    · intro a W hb0 hs hp hi; have hb := undrew hb0; clear hb0
      have tg : sl a 88 = .bool true := hp 29 (by decide)
      have t5 : sl a 5 = .int .i64 f := hi 5 (by decide)
      exact ite_y (wanted_yes rfl rfl (by have hz : a.tmps.size = 93 := hs; rw [hz]; decide) tg) (wp_val (sl a 5) rfl ⟨_, rfl, Below.refl _ _, t5⟩)
    · intro a W hb0 hs hp hi; have hb := undrew hb0; clear hb0
      have tg : sl a 88 = .bool true := hp 29 (by decide)
      have t7 : sl a 7 = .int .i64 f := hi 7 (by decide)
      exact ite_y (wanted_yes rfl rfl (by have hz : a.tmps.size = 93 := hs; rw [hz]; decide) tg) (wp_val (sl a 7) rfl ⟨_, rfl, Below.refl _ _, t7⟩)
    · intro a W hb0 hs hp hi; have hb := undrew hb0; clear hb0
      have tg : sl a 88 = .bool true := hp 29 (by decide)
      have t89 : sl a 89 = .int .i64 f := hp 30 (by decide)
      have t90 : sl a 90 = .int .i64 f := hp 31 (by decide)
      refine ite_y (wanted_yes rfl rfl (by have hz : a.tmps.size = 93 := hs; rw [hz]; decide) tg) (wp_val (.bool true) ?_ ?_)
      · simp only [execOp, eval_tmp, eval_const, t89, t90]; simp [go_sem]
      · exact ⟨_, rfl, Below.refl _ _, rfl⟩
    · intro a W hb0 hs hp hi; have hb := undrew hb0; clear hb0
      have t88 : sl a 88 = .bool true := hp 29 (by decide)
      have t91 : sl a 91 = .bool true := hp 32 (by decide)
      refine ite_y rfl (wp_val (.bool true) ?_ ?_)
      · simp only [execOp, eval_tmp, eval_const, t88, t91]; simp [go_sem]
      · exact ⟨_, rfl, Below.refl _ _, rfl⟩
    · intro a W hb0 hs hp hi; have hb := undrew hb0; clear hb0
      have t92 : sl a 92 = .bool true := hp 33 (by decide)
      exact ite_y rfl (wp_val (sl a 92) rfl ⟨_, rfl, Below.refl _ _, t92⟩)
  intro a w5 hb hs hd hI ht
  have ha := act_is [59, 60, 61, 62, 63, 64, 65, 66, 67, 68, 69, 70, 71, 72, 73, 74, 75, 76, 77, 78, 79, 80, 81, 82, 83, 84, 85, 86, 87, 88, 89, 90, 91, 92, 2] hs hd ht (by decide)
  have t2 : sl a 2 = .bool true := hI 34 (by decide)
  simp only [List.foldl, t2] at ha
  generalize sl a 59 = u59 at ha
  generalize sl a 60 = u60 at ha
  generalize sl a 61 = u61 at ha
  generalize sl a 62 = u62 at ha
  generalize sl a 63 = u63 at ha
  generalize sl a 64 = u64 at ha
  generalize sl a 65 = u65 at ha
  generalize sl a 66 = u66 at ha
  generalize sl a 67 = u67 at ha
  generalize sl a 68 = u68 at ha
  generalize sl a 69 = u69 at ha
  generalize sl a 70 = u70 at ha
  generalize sl a 71 = u71 at ha
  generalize sl a 72 = u72 at ha
  generalize sl a 73 = u73 at ha
  generalize sl a 74 = u74 at ha
  generalize sl a 75 = u75 at ha
  generalize sl a 76 = u76 at ha
  generalize sl a 77 = u77 at ha
  generalize sl a 78 = u78 at ha
  generalize sl a 79 = u79 at ha
  generalize sl a 80 = u80 at ha
  generalize sl a 81 = u81 at ha
  generalize sl a 82 = u82 at ha
  generalize sl a 83 = u83 at ha
  generalize sl a 84 = u84 at ha
  generalize sl a 85 = u85 at ha
  generalize sl a 86 = u86 at ha
  generalize sl a 87 = u87 at ha
  generalize sl a 88 = u88 at ha
  generalize sl a 89 = u89 at ha
  generalize sl a 90 = u90 at ha
  generalize sl a 91 = u91 at ha
  generalize sl a 92 = u92 at ha
  simp only [Act.put, List.setIfInBounds_toArray, List.set_cons_zero, List.set_cons_succ] at ha
  rw [ha]
  clear ha hI ht
  have K5 : Hid (Below w.heap.size w w5) := bl K4.out hb K4.out.size
  clear hb
  go_wp2
  go_ret
  exact ⟨rfl, K5.out⟩
set_option maxRecDepth 100000 in
set_option maxHeartbeats 8000000 in
theorem PlanChecks_A2 (l s n : Int) (d : Nat) (hd : d < 4294967296) (w : World) (hl2 : l ≤ 9223372036854775807) (hT : Tab10 w) (hf : fitS l s ≠ 0) (h0 : 0 ≤ l) (h1 : ¬ 1 ≤ s) :
    Calls Tryd.prog 3 #[.agg #[.int .i64 l, .int .i64 s, .int .i64 n, .int .u32 (d : Int)]] w fun e w' => e = .returned (.bool true) ∧ Below w.heap.size w w' := by
  have HT := Lib.hid hT
  clear hT
  have HC := Lib.hid (fun w => Check_any l s n d w hl2)
  have HRC := Lib.hid (fun w => RCheck_any l s n d w hl2)
  have HTX := Lib.hid (fun w hT => PText_any l s n d hd w hl2 hT)
  have HRT := Lib.hid (fun w hT => RText_any l s n d hd w hl2 hT)
  have HRM := Lib.hid (fun w => PRoom_any l s n d w hl2)
  have HPD := Lib.hid (fun w => PPad_any l s n d w hl2)
  have HO := Lib.hid (fun w => POf_any l s d w hl2)
  obtain ⟨e1, e2⟩ := fit_not hf
  simp only [e1] at HO
  rw [e2 n] at HC HRC
  have er : roomS l s n = 0 := if_neg (by rw [e2]; exact hf)
  have ep : padS l s n = 0 := if_neg (by rw [e2]; exact hf)
  rw [er] at HRM
  rw [ep] at HPD
  have HRK := HRC
  have hfb : (fitS l s == 0) = false := by simpa using hf
  have hfn : (fitS l s != 0) = true := by simpa using hf
  clear er ep e1 e2 hf
  generalize fitS l s = f at *
  generalize textS l s n d = tx at *
  go_enter Tryd.func3, Tryd.ntmps3
  go_wp2_with fail
  refine use_wq (fun W => PC4 w.heap.size 24 l s n d W ∧ Below w.heap.size w W) ⟨hnew rfl, al (Below.refl _ _) (Nat.le_refl _)⟩ ?_
  rintro W1 ⟨x0, k1⟩
  refine Calls.mono (awake10 _) ?_
  rintro e w1 ⟨rfl, hb⟩
  have X0 := Lib.hid (x0.keep hb)
  have K1 : Hid (Below w.heap.size w w1) := bl k1 hb k1.size
  clear x0 k1 hb
  obtain ⟨b0, hb0⟩ : ∃ b0, b0 = w.heap.size := ⟨_, rfl⟩
  rw [← hb0] at X0
  have HB0 := Lib.hid hb0
  have HBA : Hid (∀ (W : World) o, Below W.heap.size W (W.alloc o)) := fun W o => al (Below.refl _ _) (Nat.le_refl _)
  obtain ⟨x0, x1, x2, x3⟩ := X0.out.cells
  have y0 := fun o => (X0.out.keep (HBA.out _ o)).cells.1
  have y1 := fun o => (X0.out.keep (HBA.out _ o)).cells.2.1
  have y3 := fun o => (X0.out.keep (HBA.out _ o)).cells.2.2.2
  rw [← hb0]
  clear hb0
  go_wp2_with fail
  refine use_wq (fun W => PC4 b0 24 l s n d W ∧ PC4 w1.heap.size 26 l s n d W ∧ Below w.heap.size w W) ⟨hal X0.out, hnew rfl, al K1.out K1.out.size⟩ ?_
  rintro W2 ⟨z0, z1, k2⟩
  refine (HO.out _).mono ?_
  rintro e w2 ⟨rfl, hb⟩
  have Y0 := Lib.hid (z0.keep hb)
  have Y1 := Lib.hid (z1.keep hb)
  have K2 : Hid (Below w.heap.size w w2) := bl k2 hb k2.size
  clear z0 z1 k2 hb x0 x1 x2 x3 y0 y1 y3 X0 K1
  generalize w1.heap.size = b1 at *
  have p0 := fun o => (Y1.out.keep (HBA.out _ o)).cells.1
  have p1 := fun o => (Y1.out.keep (HBA.out _ o)).cells.2.1
  have p2 := fun o => (Y1.out.keep (HBA.out _ o)).cells.2.2.1
  have p3 := fun o => (Y1.out.keep (HBA.out _ o)).cells.2.2.2
  have q0 := fun o o' => ((Y1.out.keep (HBA.out _ o)).keep (HBA.out _ o')).cells.1
  have q1 := fun o o' => ((Y1.out.keep (HBA.out _ o)).keep (HBA.out _ o')).cells.2.1
  go_wp2_with fail
  refine use_wq (fun W => PC4 b0 24 l s n d W ∧ PC4 b1 26 l s n d W ∧ PC4 w2.heap.size 24 0 0 0 0 W ∧ PC4 (w2.heap.size + 1) 26 l s n d W ∧ Below w.heap.size w W) ⟨hal (hal Y0.out), hal (hal Y1.out), hal (hnew rfl), hnew (by simp), al (al K2.out K2.out.size) (by have := K2.out.size; simp; omega)⟩ ?_
  rintro W3 ⟨z0, z1, z2, z3, k3⟩
  refine Calls.mono (HRK.out _) ?_
  rintro e w3 ⟨rfl, hb⟩
  have Z0 := Lib.hid (z0.keep hb)
  have Z1 := Lib.hid (z1.keep hb)
  have Z2 := Lib.hid (z2.keep hb)
  have Z3 := Lib.hid (z3.keep hb)
  have K3 : Hid (Below w.heap.size w w3) := bl k3 hb k3.size
  have h23 : Hid (w.heap.size ≤ w2.heap.size) := K2.out.size
  have HLA := Y0.out.lt
  have HLB := Y1.out.lt
  clear z0 z1 z2 z3 k3 hb p0 p1 p2 p3 q0 q1 Y0 Y1 K2
  have hd2 : Hid (b0 < w2.heap.size + 1 ∧ b1 < w2.heap.size + 1) := ⟨Nat.lt_succ_of_lt HLA, Nat.lt_succ_of_lt HLB⟩
  clear HLA HLB
  obtain ⟨b2, hb2⟩ : ∃ b2, b2 = w2.heap.size := ⟨_, rfl⟩
  rw [← hb2] at Z2 Z3 hd2 h23 ⊢
  clear hb2
  obtain ⟨y0, y1, y2, y3⟩ := Z1.out.cells
  have d0 := Z3.out.cells.1
  have d1 := Z3.out.cells.2.1
  have d2 := Z3.out.cells.2.2.1
  have d3 := Z3.out.cells.2.2.2
  have zf := Z3.out.froz
  have hne1 : b2 + 1 ≠ b1 := by have := hd2.out; omega
  have hne2 : b1 ≠ b2 + 1 := by have := hd2.out; omega
  go_wp2_with fail
  refine use_wq (fun W => PC4 b0 24 l s n d W ∧ PC4 b1 26 l s n d W ∧ PC4 b2 24 0 0 0 0 W ∧ PC4 (b2 + 1) 26 0 0 0 0 W ∧ Below w.heap.size w W) ?use2 ?_
  case use2 =>
    have e0 : b0 ≠ b2 + 1 := by have := hd2.out; omega
    have e2 : b2 ≠ b2 + 1 := by omega
    have e3 : w.heap.size ≤ b2 + 1 := by have := h23.out; omega
    refine ⟨?_, ?_, ?_, ?_, ?_⟩
    · exact hsc (hsc (hsc (hsc Z0.out e0) e0) e0) e0
    · exact hsc (hsc (hsc (hsc Z1.out hne2) hne2) hne2) hne2
    · exact hsc (hsc (hsc (hsc Z2.out e2) e2) e2) e2
    · exact hss (hss (hss (hss Z3.out)))
    · exact (((K3.out.setCell e3 _).setCell e3 _).setCell e3 _).setCell e3 _
  rintro W4 ⟨z0, z1, z2, z3, k4⟩
  refine Calls.mono (HRC.out _) ?_
  rintro e w4 ⟨rfl, hb⟩
  have V0 := Lib.hid (z0.keep hb)
  have V1 := Lib.hid (z1.keep hb)
  have V2 := Lib.hid (z2.keep hb)
  have V3 := Lib.hid (z3.keep hb)
  have K4 : Hid (Below w.heap.size w w4) := bl k4 hb k4.size
  have HT4 := Lib.hid (HT.out.keep K4.out)
  clear z0 z1 z2 z3 k4 hb Z0 Z1 Z2 Z3 K3 y0 y1 y2 y3 d0 d1 d2 d3 zf hne1 hne2
  obtain ⟨b3, hb3⟩ : ∃ b3, b3 = b2 + 1 := ⟨_, rfl⟩
  rw [← hb3] at V3
  try rw [← hb3]
  clear hb3 hd2 h23
  obtain ⟨x0, x1, x2, x3⟩ := V0.out.cells
  obtain ⟨y0, y1, y2, y3⟩ := V1.out.cells
  obtain ⟨u0, u1, u2, u3⟩ := V2.out.cells
  obtain ⟨v0, v1, v2, v3⟩ := V3.out.cells
  go_wp2
  refine wp_region_shapes (fun ix => ([.val (.agg #[.int .i64 l, .int .i64 s, .int .i64 n, .int .u32 (d : Int)]), .val (.int .i64 f), .val (.agg #[.int .i64 l, .int .i64 s, .int .i64 n, .int .u32 (d : Int)]), .val (.int .i64 f), .val (.bool true), .val (.bool true), .val (.agg #[.int .i64 l, .int .i64 s, .int .i64 n, .int .u32 (d : Int)]), .val (.string (strB tx)), .val (.agg #[.int .i64 l, .int .i64 s, .int .i64 n, .int .u32 (d : Int)]), .val (.string (strB tx)), .val (.bool true), .val (.bool true), .val (.bool true), .val (.agg #[.int .i64 l, .int .i64 s, .int .i64 n, .int .u32 (d : Int)]), .val (.int .i64 0), .val (.int .i64 0), .val (.bool true), .val (.bool true), .val (.bool true), .val (.agg #[.int .i64 l, .int .i64 s, .int .i64 n, .int .u32 (d : Int)]), .val (.int .i64 0), .val (.int .i64 0), .val (.bool true), .val (.bool true), .val (.bool true), .val (.agg #[.int .i64 0, .int .i64 0, .int .i64 0, .int .u32 0]), .val (.agg #[.int .i64 0, .int .i64 0, .int .i64 0, .int .u32 0]), .val (.bool true), .val (.bool true), .val (.bool true), .val (.int .i64 f), .val (.int .i64 f), .val (.bool true), .val (.bool true), .val (.bool true)][ix]?).getD (.any)) 93 rfl (by kernel_rfl) (by decide) (by decide) (by decide) ?_ ?_
  · refine ⟨?_, ?_, ?_, ?_, ?_, ?_, ?_, ?_, ?_, ?_, ?_, ?_, ?_, ?_, ?_, ?_, ?_, ?_, ?_, ?_, ?_, ?_, ?_, ?_, ?_, ?_, ?_, ?_, ?_, ?_, ?_, ?_, ?_, ?_, ?_, trivial⟩
    · intro a W hb0 hs hp hi; have hb := undrew hb0; clear hb0
      have tt : sl a 1 = .pointer (some ⟨b0, 0, none⟩) := hi 1 (by decide)
      have dd0 := (hb.cell (p := ⟨b0, 0, none⟩) (lt_of_cell x0)).trans x0
      have dd1 := (hb.cell (p := ⟨b0, 1, none⟩) (lt_of_cell x1)).trans x1
      have dd2 := (hb.cell (p := ⟨b0, 2, none⟩) (lt_of_cell x2)).trans x2
      have dd3 := (hb.cell (p := ⟨b0, 3, none⟩) (lt_of_cell x3)).trans x3
      refine ite_y rfl (wp_val (.agg #[.int .i64 l, .int .i64 s, .int .i64 n, .int .u32 (d : Int)]) ?_ ?_)
      · simp only [execOp, eval_tmp, tt]; simp [go_sem, dd0, dd1, dd2, dd3]
      · exact ⟨_, rfl, Below.refl _ _, rfl⟩
    · intro a W hb0 hs hp hi; have hb := undrew hb0; clear hb0
      have t59 : sl a 59 = .agg #[.int .i64 l, .int .i64 s, .int .i64 n, .int .u32 (d : Int)] := hp 0 (by decide)
      refine ite_y rfl (wp_enter 10 #[.agg #[.int .i64 l, .int .i64 s, .int .i64 n, .int .u32 (d : Int)]] ?_ (HC.out W) ?_)
      · simp only [execOp, resolve, List.map_toArray, List.map, eval_tmp, eval_func, eval_const, t59]; simp [go_sem]
      · rintro e W' ⟨rfl, hw⟩; exact ⟨_, rfl, _, rfl, hw, rfl⟩
    · intro a W hb0 hs hp hi; have hb := undrew hb0; clear hb0
      have tt : sl a 3 = .pointer (some ⟨b1, 0, none⟩) := hi 3 (by decide)
      have dd0 := (hb.cell (p := ⟨b1, 0, none⟩) (lt_of_cell y0)).trans y0
      have dd1 := (hb.cell (p := ⟨b1, 1, none⟩) (lt_of_cell y1)).trans y1
      have dd2 := (hb.cell (p := ⟨b1, 2, none⟩) (lt_of_cell y2)).trans y2
      have dd3 := (hb.cell (p := ⟨b1, 3, none⟩) (lt_of_cell y3)).trans y3
      refine ite_y rfl (wp_val (.agg #[.int .i64 l, .int .i64 s, .int .i64 n, .int .u32 (d : Int)]) ?_ ?_)
      · simp only [execOp, eval_tmp, tt]; simp [go_sem, dd0, dd1, dd2, dd3]
      · exact ⟨_, rfl, Below.refl _ _, rfl⟩
    · intro a W hb0 hs hp hi; have hb := undrew hb0; clear hb0
      have t61 : sl a 61 = .agg #[.int .i64 l, .int .i64 s, .int .i64 n, .int .u32 (d : Int)] := hp 2 (by decide)
      refine ite_y rfl (wp_enter 9 #[.agg #[.int .i64 l, .int .i64 s, .int .i64 n, .int .u32 (d : Int)]] ?_ (HRC.out W) ?_)
      · simp only [execOp, resolve, List.map_toArray, List.map, eval_tmp, eval_func, eval_const, t61]; simp [go_sem]
      · rintro e W' ⟨rfl, hw⟩; exact ⟨_, rfl, _, rfl, hw, rfl⟩
    · intro a W hb0 hs hp hi; have hb := undrew hb0; clear hb0
      have t60 : sl a 60 = .int .i64 f := hp 1 (by decide)
      have t62 : sl a 62 = .int .i64 f := hp 3 (by decide)
      refine ite_y rfl (wp_val (.bool true) ?_ ?_)
      · simp only [execOp, eval_tmp, eval_const, t60, t62]; simp [go_sem]
      · exact ⟨_, rfl, Below.refl _ _, rfl⟩
    · intro a W hb0 hs hp hi; have hb := undrew hb0; clear hb0
      have t63 : sl a 63 = .bool true := hp 4 (by decide)
      exact ite_y rfl (wp_val (sl a 63) rfl ⟨_, rfl, Below.refl _ _, t63⟩)
    · intro a W hb0 hs hp hi; have hb := undrew hb0; clear hb0
      have tg : sl a 64 = .bool true := hp 5 (by decide)
      have tt : sl a 1 = .pointer (some ⟨b0, 0, none⟩) := hi 1 (by decide)
      have dd0 := (hb.cell (p := ⟨b0, 0, none⟩) (lt_of_cell x0)).trans x0
      have dd1 := (hb.cell (p := ⟨b0, 1, none⟩) (lt_of_cell x1)).trans x1
      have dd2 := (hb.cell (p := ⟨b0, 2, none⟩) (lt_of_cell x2)).trans x2
      have dd3 := (hb.cell (p := ⟨b0, 3, none⟩) (lt_of_cell x3)).trans x3
      refine ite_y (wanted_yes rfl rfl (by have hz : a.tmps.size = 93 := hs; rw [hz]; decide) tg) (wp_val (.agg #[.int .i64 l, .int .i64 s, .int .i64 n, .int .u32 (d : Int)]) ?_ ?_)
      · simp only [execOp, eval_tmp, tt]; simp [go_sem, dd0, dd1, dd2, dd3]
      · exact ⟨_, rfl, Below.refl _ _, rfl⟩
    · intro a W hb0 hs hp hi; have hb := undrew hb0; clear hb0
      have tg : sl a 64 = .bool true := hp 5 (by decide)
      have t65 : sl a 65 = .agg #[.int .i64 l, .int .i64 s, .int .i64 n, .int .u32 (d : Int)] := hp 6 (by decide)
      refine ite_y (wanted_yes rfl rfl (by have hz : a.tmps.size = 93 := hs; rw [hz]; decide) tg) (wp_enter 11 #[.agg #[.int .i64 l, .int .i64 s, .int .i64 n, .int .u32 (d : Int)]] ?_ (HTX.out W (HT4.out.keep hb)) ?_)
      · simp only [execOp, resolve, List.map_toArray, List.map, eval_tmp, eval_func, eval_const, t65]; simp [go_sem]
      · rintro e W' ⟨rfl, hw⟩; exact ⟨_, rfl, _, rfl, hw, rfl⟩
    · intro a W hb0 hs hp hi; have hb := undrew hb0; clear hb0
      have tg : sl a 64 = .bool true := hp 5 (by decide)
      have tt : sl a 3 = .pointer (some ⟨b1, 0, none⟩) := hi 3 (by decide)
      have dd0 := (hb.cell (p := ⟨b1, 0, none⟩) (lt_of_cell y0)).trans y0
      have dd1 := (hb.cell (p := ⟨b1, 1, none⟩) (lt_of_cell y1)).trans y1
      have dd2 := (hb.cell (p := ⟨b1, 2, none⟩) (lt_of_cell y2)).trans y2
      have dd3 := (hb.cell (p := ⟨b1, 3, none⟩) (lt_of_cell y3)).trans y3
      refine ite_y (wanted_yes rfl rfl (by have hz : a.tmps.size = 93 := hs; rw [hz]; decide) tg) (wp_val (.agg #[.int .i64 l, .int .i64 s, .int .i64 n, .int .u32 (d : Int)]) ?_ ?_)
      · simp only [execOp, eval_tmp, tt]; simp [go_sem, dd0, dd1, dd2, dd3]
      · exact ⟨_, rfl, Below.refl _ _, rfl⟩
    · intro a W hb0 hs hp hi; have hb := undrew hb0; clear hb0
      have tg : sl a 64 = .bool true := hp 5 (by decide)
      have t67 : sl a 67 = .agg #[.int .i64 l, .int .i64 s, .int .i64 n, .int .u32 (d : Int)] := hp 8 (by decide)
      refine ite_y (wanted_yes rfl rfl (by have hz : a.tmps.size = 93 := hs; rw [hz]; decide) tg) (wp_enter 12 #[.agg #[.int .i64 l, .int .i64 s, .int .i64 n, .int .u32 (d : Int)]] ?_ (HRT.out W (HT4.out.keep hb)) ?_)
      · simp only [execOp, resolve, List.map_toArray, List.map, eval_tmp, eval_func, eval_const, t67]; simp [go_sem]
      · rintro e W' ⟨rfl, hw⟩; exact ⟨_, rfl, _, rfl, hw, rfl⟩
    · intro a W hb0 hs hp hi; have hb := undrew hb0; clear hb0
      have tg : sl a 64 = .bool true := hp 5 (by decide)
      have t66 : sl a 66 = .string (strB tx) := hp 7 (by decide)
      have t68 : sl a 68 = .string (strB tx) := hp 9 (by decide)
      refine ite_y (wanted_yes rfl rfl (by have hz : a.tmps.size = 93 := hs; rw [hz]; decide) tg) (wp_val (.bool true) ?_ ?_)
      · simp only [execOp, eval_tmp, eval_const, t66, t68]; simp [go_sem]
      · exact ⟨_, rfl, Below.refl _ _, rfl⟩
    · intro a W hb0 hs hp hi; have hb := undrew hb0; clear hb0
      have t64 : sl a 64 = .bool true := hp 5 (by decide)
      have t69 : sl a 69 = .bool true := hp 10 (by decide)
      refine ite_y rfl (wp_val (.bool true) ?_ ?_)
      · simp only [execOp, eval_tmp, eval_const, t64, t69]; simp [go_sem]
      · exact ⟨_, rfl, Below.refl _ _, rfl⟩
    · intro a W hb0 hs hp hi; have hb := undrew hb0; clear hb0
      have t70 : sl a 70 = .bool true := hp 11 (by decide)
      exact ite_y rfl (wp_val (sl a 70) rfl ⟨_, rfl, Below.refl _ _, t70⟩)
    · intro a W hb0 hs hp hi; have hb := undrew hb0; clear hb0
      have tg : sl a 71 = .bool true := hp 12 (by decide)
      have tt : sl a 1 = .pointer (some ⟨b0, 0, none⟩) := hi 1 (by decide)
      have dd0 := (hb.cell (p := ⟨b0, 0, none⟩) (lt_of_cell x0)).trans x0
      have dd1 := (hb.cell (p := ⟨b0, 1, none⟩) (lt_of_cell x1)).trans x1
      have dd2 := (hb.cell (p := ⟨b0, 2, none⟩) (lt_of_cell x2)).trans x2
      have dd3 := (hb.cell (p := ⟨b0, 3, none⟩) (lt_of_cell x3)).trans x3
      refine ite_y (wanted_yes rfl rfl (by have hz : a.tmps.size = 93 := hs; rw [hz]; decide) tg) (wp_val (.agg #[.int .i64 l, .int .i64 s, .int .i64 n, .int .u32 (d : Int)]) ?_ ?_)
      · simp only [execOp, eval_tmp, tt]; simp [go_sem, dd0, dd1, dd2, dd3]
      · exact ⟨_, rfl, Below.refl _ _, rfl⟩
    · intro a W hb0 hs hp hi; have hb := undrew hb0; clear hb0
      have tg : sl a 71 = .bool true := hp 12 (by decide)
      have t72 : sl a 72 = .agg #[.int .i64 l, .int .i64 s, .int .i64 n, .int .u32 (d : Int)] := hp 13 (by decide)
      refine ite_y (wanted_yes rfl rfl (by have hz : a.tmps.size = 93 := hs; rw [hz]; decide) tg) (wp_enter 13 #[.agg #[.int .i64 l, .int .i64 s, .int .i64 n, .int .u32 (d : Int)]] ?_ (HRM.out W) ?_)
      · simp only [execOp, resolve, List.map_toArray, List.map, eval_tmp, eval_func, eval_const, t72]; simp [go_sem]
      · rintro e W' ⟨rfl, hw⟩; exact ⟨_, rfl, _, rfl, hw, rfl⟩
    · intro a W hb0 hs hp hi; have hb := undrew hb0; clear hb0
      have tg : sl a 71 = .bool true := hp 12 (by decide)
      have t8 : sl a 8 = .int .i64 0 := hi 8 (by decide)
      exact ite_y (wanted_yes rfl rfl (by have hz : a.tmps.size = 93 := hs; rw [hz]; decide) tg) (wp_val (sl a 8) rfl ⟨_, rfl, Below.refl _ _, t8⟩)
    · intro a W hb0 hs hp hi; have hb := undrew hb0; clear hb0
      have tg : sl a 71 = .bool true := hp 12 (by decide)
      have t73 : sl a 73 = .int .i64 0 := hp 14 (by decide)
      have t74 : sl a 74 = .int .i64 0 := hp 15 (by decide)
      refine ite_y (wanted_yes rfl rfl (by have hz : a.tmps.size = 93 := hs; rw [hz]; decide) tg) (wp_val (.bool true) ?_ ?_)
      · simp only [execOp, eval_tmp, eval_const, t73, t74]; simp [go_sem]
      · exact ⟨_, rfl, Below.refl _ _, rfl⟩
    · intro a W hb0 hs hp hi; have hb := undrew hb0; clear hb0
      have t71 : sl a 71 = .bool true := hp 12 (by decide)
      have t75 : sl a 75 = .bool true := hp 16 (by decide)
      refine ite_y rfl (wp_val (.bool true) ?_ ?_)
      · simp only [execOp, eval_tmp, eval_const, t71, t75]; simp [go_sem]
      · exact ⟨_, rfl, Below.refl _ _, rfl⟩
    · intro a W hb0 hs hp hi; have hb := undrew hb0; clear hb0
      have t76 : sl a 76 = .bool true := hp 17 (by decide)
      exact ite_y rfl (wp_val (sl a 76) rfl ⟨_, rfl, Below.refl _ _, t76⟩)
    · intro a W hb0 hs hp hi; have hb := undrew hb0; clear hb0
      have tg : sl a 77 = .bool true := hp 18 (by decide)
      have tt : sl a 1 = .pointer (some ⟨b0, 0, none⟩) := hi 1 (by decide)
      have dd0 := (hb.cell (p := ⟨b0, 0, none⟩) (lt_of_cell x0)).trans x0
      have dd1 := (hb.cell (p := ⟨b0, 1, none⟩) (lt_of_cell x1)).trans x1
      have dd2 := (hb.cell (p := ⟨b0, 2, none⟩) (lt_of_cell x2)).trans x2
      have dd3 := (hb.cell (p := ⟨b0, 3, none⟩) (lt_of_cell x3)).trans x3
      refine ite_y (wanted_yes rfl rfl (by have hz : a.tmps.size = 93 := hs; rw [hz]; decide) tg) (wp_val (.agg #[.int .i64 l, .int .i64 s, .int .i64 n, .int .u32 (d : Int)]) ?_ ?_)
      · simp only [execOp, eval_tmp, tt]; simp [go_sem, dd0, dd1, dd2, dd3]
      · exact ⟨_, rfl, Below.refl _ _, rfl⟩
    · intro a W hb0 hs hp hi; have hb := undrew hb0; clear hb0
      have tg : sl a 77 = .bool true := hp 18 (by decide)
      have t78 : sl a 78 = .agg #[.int .i64 l, .int .i64 s, .int .i64 n, .int .u32 (d : Int)] := hp 19 (by decide)
      refine ite_y (wanted_yes rfl rfl (by have hz : a.tmps.size = 93 := hs; rw [hz]; decide) tg) (wp_enter 14 #[.agg #[.int .i64 l, .int .i64 s, .int .i64 n, .int .u32 (d : Int)]] ?_ (HPD.out W) ?_)
      · simp only [execOp, resolve, List.map_toArray, List.map, eval_tmp, eval_func, eval_const, t78]; simp [go_sem]
      · rintro e W' ⟨rfl, hw⟩; exact ⟨_, rfl, _, rfl, hw, rfl⟩
    · intro a W hb0 hs hp hi; have hb := undrew hb0; clear hb0
      have tg : sl a 77 = .bool true := hp 18 (by decide)
      have t9 : sl a 9 = .int .i64 0 := hi 9 (by decide)
      exact ite_y (wanted_yes rfl rfl (by have hz : a.tmps.size = 93 := hs; rw [hz]; decide) tg) (wp_val (sl a 9) rfl ⟨_, rfl, Below.refl _ _, t9⟩)
    · intro a W hb0 hs hp hi; have hb := undrew hb0; clear hb0
      have tg : sl a 77 = .bool true := hp 18 (by decide)
      have t79 : sl a 79 = .int .i64 0 := hp 20 (by decide)
      have t80 : sl a 80 = .int .i64 0 := hp 21 (by decide)
      refine ite_y (wanted_yes rfl rfl (by have hz : a.tmps.size = 93 := hs; rw [hz]; decide) tg) (wp_val (.bool true) ?_ ?_)
      · simp only [execOp, eval_tmp, eval_const, t79, t80]; simp [go_sem]
      · exact ⟨_, rfl, Below.refl _ _, rfl⟩
    · intro a W hb0 hs hp hi; have hb := undrew hb0; clear hb0
      have t77 : sl a 77 = .bool true := hp 18 (by decide)
      have t81 : sl a 81 = .bool true := hp 22 (by decide)
      refine ite_y rfl (wp_val (.bool true) ?_ ?_)
      · simp only [execOp, eval_tmp, eval_const, t77, t81]; simp [go_sem]
      · exact ⟨_, rfl, Below.refl _ _, rfl⟩
    · intro a W hb0 hs hp hi; have hb := undrew hb0; clear hb0
      have t82 : sl a 82 = .bool true := hp 23 (by decide)
      exact ite_y rfl (wp_val (sl a 82) rfl ⟨_, rfl, Below.refl _ _, t82⟩)
    · intro a W hb0 hs hp hi; have hb := undrew hb0; clear hb0
      have tg : sl a 83 = .bool true := hp 24 (by decide)
      have tt : sl a 4 = .pointer (some ⟨b2, 0, none⟩) := hi 4 (by decide)
      have dd0 := (hb.cell (p := ⟨b2, 0, none⟩) (lt_of_cell u0)).trans u0
      have dd1 := (hb.cell (p := ⟨b2, 1, none⟩) (lt_of_cell u1)).trans u1
      have dd2 := (hb.cell (p := ⟨b2, 2, none⟩) (lt_of_cell u2)).trans u2
      have dd3 := (hb.cell (p := ⟨b2, 3, none⟩) (lt_of_cell u3)).trans u3
      refine ite_y (wanted_yes rfl rfl (by have hz : a.tmps.size = 93 := hs; rw [hz]; decide) tg) (wp_val (.agg #[.int .i64 0, .int .i64 0, .int .i64 0, .int .u32 0]) ?_ ?_)
      · simp only [execOp, eval_tmp, tt]; simp [go_sem, dd0, dd1, dd2, dd3]
      · exact ⟨_, rfl, Below.refl _ _, rfl⟩
    · intro a W hb0 hs hp hi; have hb := undrew hb0; clear hb0
      have tg : sl a 83 = .bool true := hp 24 (by decide)
      have tt : sl a 6 = .pointer (some ⟨b3, 0, none⟩) := hi 6 (by decide)
      have dd0 := (hb.cell (p := ⟨b3, 0, none⟩) (lt_of_cell v0)).trans v0
      have dd1 := (hb.cell (p := ⟨b3, 1, none⟩) (lt_of_cell v1)).trans v1
      have dd2 := (hb.cell (p := ⟨b3, 2, none⟩) (lt_of_cell v2)).trans v2
      have dd3 := (hb.cell (p := ⟨b3, 3, none⟩) (lt_of_cell v3)).trans v3
      refine ite_y (wanted_yes rfl rfl (by have hz : a.tmps.size = 93 := hs; rw [hz]; decide) tg) (wp_val (.agg #[.int .i64 0, .int .i64 0, .int .i64 0, .int .u32 0]) ?_ ?_)
      · simp only [execOp, eval_tmp, tt]; simp [go_sem, dd0, dd1, dd2, dd3]
      · exact ⟨_, rfl, Below.refl _ _, rfl⟩
    · intro a W hb0 hs hp hi; have hb := undrew hb0; clear hb0
      have tg : sl a 83 = .bool true := hp 24 (by decide)
      have t84 : sl a 84 = .agg #[.int .i64 0, .int .i64 0, .int .i64 0, .int .u32 0] := hp 25 (by decide)
      have t85 : sl a 85 = .agg #[.int .i64 0, .int .i64 0, .int .i64 0, .int .u32 0] := hp 26 (by decide)
      refine ite_y (wanted_yes rfl rfl (by have hz : a.tmps.size = 93 := hs; rw [hz]; decide) tg) (wp_val (.bool true) ?_ ?_)
      · simp only [execOp, eval_tmp, eval_const, t84, t85]; simp [go_sem, Tryd.underlying26, Tryd.underlying3, Tryd.underlying22]
      · exact ⟨_, rfl, Below.refl _ _, rfl⟩
    · intro a W hb0 hs hp hi; have hb := undrew hb0; clear hb0
      have t83 : sl a 83 = .bool true := hp 24 (by decide)
      have t86 : sl a 86 = .bool true := hp 27 (by decide)
      refine ite_y rfl (wp_val (.bool true) ?_ ?_)
      · simp only [execOp, eval_tmp, eval_const, t83, t86]; simp [go_sem]
      · exact ⟨_, rfl, Below.refl _ _, rfl⟩
    · intro a W hb0 hs hp hi; have hb := undrew hb0; clear hb0
      have t87 : sl a 87 = .bool true := hp 28 (by decide)
      exact ite_y rfl (wp_val (sl a 87) rfl ⟨_, rfl, Below.refl _ _, t87⟩)
    · intro a W hb0 hs hp hi; have hb := undrew hb0; clear hb0
      have tg : sl a 88 = .bool true := hp 29 (by decide)
      have t5 : sl a 5 = .int .i64 f := hi 5 (by decide)
      exact ite_y (wanted_yes rfl rfl (by have hz : a.tmps.size = 93 := hs; rw [hz]; decide) tg) (wp_val (sl a 5) rfl ⟨_, rfl, Below.refl _ _, t5⟩)
    · intro a W hb0 hs hp hi; have hb := undrew hb0; clear hb0
      have tg : sl a 88 = .bool true := hp 29 (by decide)
      have t7 : sl a 7 = .int .i64 f := hi 7 (by decide)
      exact ite_y (wanted_yes rfl rfl (by have hz : a.tmps.size = 93 := hs; rw [hz]; decide) tg) (wp_val (sl a 7) rfl ⟨_, rfl, Below.refl _ _, t7⟩)
    · intro a W hb0 hs hp hi; have hb := undrew hb0; clear hb0
      have tg : sl a 88 = .bool true := hp 29 (by decide)
      have t89 : sl a 89 = .int .i64 f := hp 30 (by decide)
      have t90 : sl a 90 = .int .i64 f := hp 31 (by decide)
      refine ite_y (wanted_yes rfl rfl (by have hz : a.tmps.size = 93 := hs; rw [hz]; decide) tg) (wp_val (.bool true) ?_ ?_)
      · simp only [execOp, eval_tmp, eval_const, t89, t90]; simp [go_sem]
      · exact ⟨_, rfl, Below.refl _ _, rfl⟩
    · intro a W hb0 hs hp hi; have hb := undrew hb0; clear hb0
      have t88 : sl a 88 = .bool true := hp 29 (by decide)
      have t91 : sl a 91 = .bool true := hp 32 (by decide)
      refine ite_y rfl (wp_val (.bool true) ?_ ?_)
      · simp only [execOp, eval_tmp, eval_const, t88, t91]; simp [go_sem]
      · exact ⟨_, rfl, Below.refl _ _, rfl⟩
    · intro a W hb0 hs hp hi; have hb := undrew hb0; clear hb0
      have t92 : sl a 92 = .bool true := hp 33 (by decide)
      exact ite_y rfl (wp_val (sl a 92) rfl ⟨_, rfl, Below.refl _ _, t92⟩)
  intro a w5 hb hs hd hI ht
  have ha := act_is [59, 60, 61, 62, 63, 64, 65, 66, 67, 68, 69, 70, 71, 72, 73, 74, 75, 76, 77, 78, 79, 80, 81, 82, 83, 84, 85, 86, 87, 88, 89, 90, 91, 92, 2] hs hd ht (by decide)
  have t2 : sl a 2 = .bool true := hI 34 (by decide)
  simp only [List.foldl, t2] at ha
  generalize sl a 59 = u59 at ha
  generalize sl a 60 = u60 at ha
  generalize sl a 61 = u61 at ha
  generalize sl a 62 = u62 at ha
  generalize sl a 63 = u63 at ha
  generalize sl a 64 = u64 at ha
  generalize sl a 65 = u65 at ha
  generalize sl a 66 = u66 at ha
  generalize sl a 67 = u67 at ha
  generalize sl a 68 = u68 at ha
  generalize sl a 69 = u69 at ha
  generalize sl a 70 = u70 at ha
  generalize sl a 71 = u71 at ha
  generalize sl a 72 = u72 at ha
  generalize sl a 73 = u73 at ha
  generalize sl a 74 = u74 at ha
  generalize sl a 75 = u75 at ha
  generalize sl a 76 = u76 at ha
  generalize sl a 77 = u77 at ha
  generalize sl a 78 = u78 at ha
  generalize sl a 79 = u79 at ha
  generalize sl a 80 = u80 at ha
  generalize sl a 81 = u81 at ha
  generalize sl a 82 = u82 at ha
  generalize sl a 83 = u83 at ha
  generalize sl a 84 = u84 at ha
  generalize sl a 85 = u85 at ha
  generalize sl a 86 = u86 at ha
  generalize sl a 87 = u87 at ha
  generalize sl a 88 = u88 at ha
  generalize sl a 89 = u89 at ha
  generalize sl a 90 = u90 at ha
  generalize sl a 91 = u91 at ha
  generalize sl a 92 = u92 at ha
  simp only [Act.put, List.setIfInBounds_toArray, List.set_cons_zero, List.set_cons_succ] at ha
  rw [ha]
  clear ha hI ht
  have K5 : Hid (Below w.heap.size w w5) := bl K4.out hb K4.out.size
  clear hb
  go_wp2
  go_ret
  exact ⟨rfl, K5.out⟩
set_option maxRecDepth 100000 in
set_option maxHeartbeats 8000000 in
theorem PlanChecks_B (l s n : Int) (d : Nat) (hd : d < 4294967296) (w : World) (hl2 : l ≤ 9223372036854775807) (hT : Tab10 w) (hf : fitS l s ≠ 0) (h0 : 0 ≤ l) (h1 : 1 ≤ s) :
    Calls Tryd.prog 3 #[.agg #[.int .i64 l, .int .i64 s, .int .i64 n, .int .u32 (d : Int)]] w fun e w' => e = .returned (.bool true) ∧ Below w.heap.size w w' := by
  have HT := Lib.hid hT
  clear hT
  have HC := Lib.hid (fun w => Check_any l s n d w hl2)
  have HRC := Lib.hid (fun w => RCheck_any l s n d w hl2)
  have HTX := Lib.hid (fun w hT => PText_any l s n d hd w hl2 hT)
  have HRT := Lib.hid (fun w hT => RText_any l s n d hd w hl2 hT)
  have HRM := Lib.hid (fun w => PRoom_any l s n d w hl2)
  have HPD := Lib.hid (fun w => PPad_any l s n d w hl2)
  have HO := Lib.hid (fun w => POf_any l s d w hl2)
  obtain ⟨e1, e2⟩ := fit_not hf
  simp only [e1] at HO
  rw [e2 n] at HC HRC
  have er : roomS l s n = 0 := if_neg (by rw [e2]; exact hf)
  have ep : padS l s n = 0 := if_neg (by rw [e2]; exact hf)
  rw [er] at HRM
  rw [ep] at HPD
  have HRK := Lib.hid (fun w => RCheck_any l s (rneedsS l s) d w hl2)
  rw [e2 (rneedsS l s)] at HRK
  have HN := Lib.hid (fun w => RNeeds_any l s w h0 hl2 h1)
  generalize rneedsS l s = m at *
  have hfb : (fitS l s == 0) = false := by simpa using hf
  have hfn : (fitS l s != 0) = true := by simpa using hf
  clear er ep e1 e2 hf
  generalize fitS l s = f at *
  generalize textS l s n d = tx at *
  go_enter Tryd.func3, Tryd.ntmps3
  go_wp2_with fail
  refine use_wq (fun W => PC4 w.heap.size 24 l s n d W ∧ Below w.heap.size w W) ⟨hnew rfl, al (Below.refl _ _) (Nat.le_refl _)⟩ ?_
  rintro W1 ⟨x0, k1⟩
  refine Calls.mono (awake10 _) ?_
  rintro e w1 ⟨rfl, hb⟩
  have X0 := Lib.hid (x0.keep hb)
  have K1 : Hid (Below w.heap.size w w1) := bl k1 hb k1.size
  clear x0 k1 hb
  obtain ⟨b0, hb0⟩ : ∃ b0, b0 = w.heap.size := ⟨_, rfl⟩
  rw [← hb0] at X0
  have HB0 := Lib.hid hb0
  have HBA : Hid (∀ (W : World) o, Below W.heap.size W (W.alloc o)) := fun W o => al (Below.refl _ _) (Nat.le_refl _)
  obtain ⟨x0, x1, x2, x3⟩ := X0.out.cells
  have y0 := fun o => (X0.out.keep (HBA.out _ o)).cells.1
  have y1 := fun o => (X0.out.keep (HBA.out _ o)).cells.2.1
  have y3 := fun o => (X0.out.keep (HBA.out _ o)).cells.2.2.2
  rw [← hb0]
  clear hb0
  go_wp2_with fail
  refine use_wq (fun W => PC4 b0 24 l s n d W ∧ PC4 w1.heap.size 26 l s n d W ∧ Below w.heap.size w W) ⟨hal X0.out, hnew rfl, al K1.out K1.out.size⟩ ?_
  rintro W2 ⟨z0, z1, k2⟩
  refine (HO.out _).mono ?_
  rintro e w2 ⟨rfl, hb⟩
  have Y0 := Lib.hid (z0.keep hb)
  have Y1 := Lib.hid (z1.keep hb)
  have K2 : Hid (Below w.heap.size w w2) := bl k2 hb k2.size
  clear z0 z1 k2 hb x0 x1 x2 x3 y0 y1 y3 X0 K1
  generalize w1.heap.size = b1 at *
  have p0 := fun o => (Y1.out.keep (HBA.out _ o)).cells.1
  have p1 := fun o => (Y1.out.keep (HBA.out _ o)).cells.2.1
  have p2 := fun o => (Y1.out.keep (HBA.out _ o)).cells.2.2.1
  have p3 := fun o => (Y1.out.keep (HBA.out _ o)).cells.2.2.2
  have q0 := fun o o' => ((Y1.out.keep (HBA.out _ o)).keep (HBA.out _ o')).cells.1
  have q1 := fun o o' => ((Y1.out.keep (HBA.out _ o)).keep (HBA.out _ o')).cells.2.1
  go_wp2_with fail
  refine (HN.out _).mono ?_
  rintro e w' ⟨rfl, rfl⟩
  go_wp2_with fail
  refine use_wq (fun W => PC4 b0 24 l s n d W ∧ PC4 b1 26 l s n d W ∧ PC4 w2.heap.size 24 0 0 0 0 W ∧ PC4 (w2.heap.size + 1) 26 l s m d W ∧ Below w.heap.size w W) ⟨hal (hal Y0.out), hal (hal Y1.out), hal (hnew rfl), hnew (by simp), al (al K2.out K2.out.size) (by have := K2.out.size; simp; omega)⟩ ?_
  rintro W3 ⟨z0, z1, z2, z3, k3⟩
  refine Calls.mono (HRK.out _) ?_
  rintro e w3 ⟨rfl, hb⟩
  have Z0 := Lib.hid (z0.keep hb)
  have Z1 := Lib.hid (z1.keep hb)
  have Z2 := Lib.hid (z2.keep hb)
  have Z3 := Lib.hid (z3.keep hb)
  have K3 : Hid (Below w.heap.size w w3) := bl k3 hb k3.size
  have h23 : Hid (w.heap.size ≤ w2.heap.size) := K2.out.size
  have HLA := Y0.out.lt
  have HLB := Y1.out.lt
  clear z0 z1 z2 z3 k3 hb p0 p1 p2 p3 q0 q1 Y0 Y1 K2
  have hd2 : Hid (b0 < w2.heap.size + 1 ∧ b1 < w2.heap.size + 1) := ⟨Nat.lt_succ_of_lt HLA, Nat.lt_succ_of_lt HLB⟩
  clear HLA HLB
  obtain ⟨b2, hb2⟩ : ∃ b2, b2 = w2.heap.size := ⟨_, rfl⟩
  rw [← hb2] at Z2 Z3 hd2 h23 ⊢
  clear hb2
  obtain ⟨y0, y1, y2, y3⟩ := Z1.out.cells
  have d0 := Z3.out.cells.1
  have d1 := Z3.out.cells.2.1
  have d2 := Z3.out.cells.2.2.1
  have d3 := Z3.out.cells.2.2.2
  have zf := Z3.out.froz
  have hne1 : b2 + 1 ≠ b1 := by have := hd2.out; omega
  have hne2 : b1 ≠ b2 + 1 := by have := hd2.out; omega
  go_wp2_with fail
  refine use_wq (fun W => PC4 b0 24 l s n d W ∧ PC4 b1 26 l s n d W ∧ PC4 b2 24 0 0 0 0 W ∧ PC4 (b2 + 1) 26 0 0 0 0 W ∧ Below w.heap.size w W) ?use2 ?_
  case use2 =>
    have e0 : b0 ≠ b2 + 1 := by have := hd2.out; omega
    have e2 : b2 ≠ b2 + 1 := by omega
    have e3 : w.heap.size ≤ b2 + 1 := by have := h23.out; omega
    refine ⟨?_, ?_, ?_, ?_, ?_⟩
    · exact hsc (hsc (hsc (hsc Z0.out e0) e0) e0) e0
    · exact hsc (hsc (hsc (hsc Z1.out hne2) hne2) hne2) hne2
    · exact hsc (hsc (hsc (hsc Z2.out e2) e2) e2) e2
    · exact hss (hss (hss (hss Z3.out)))
    · exact (((K3.out.setCell e3 _).setCell e3 _).setCell e3 _).setCell e3 _
  rintro W4 ⟨z0, z1, z2, z3, k4⟩
  refine Calls.mono (HRC.out _) ?_
  rintro e w4 ⟨rfl, hb⟩
  have V0 := Lib.hid (z0.keep hb)
  have V1 := Lib.hid (z1.keep hb)
  have V2 := Lib.hid (z2.keep hb)
  have V3 := Lib.hid (z3.keep hb)
  have K4 : Hid (Below w.heap.size w w4) := bl k4 hb k4.size
  have HT4 := Lib.hid (HT.out.keep K4.out)
  clear z0 z1 z2 z3 k4 hb Z0 Z1 Z2 Z3 K3 y0 y1 y2 y3 d0 d1 d2 d3 zf hne1 hne2
  obtain ⟨b3, hb3⟩ : ∃ b3, b3 = b2 + 1 := ⟨_, rfl⟩
  rw [← hb3] at V3
  try rw [← hb3]
  clear hb3 hd2 h23
  obtain ⟨x0, x1, x2, x3⟩ := V0.out.cells
  obtain ⟨y0, y1, y2, y3⟩ := V1.out.cells
  obtain ⟨u0, u1, u2, u3⟩ := V2.out.cells
  obtain ⟨v0, v1, v2, v3⟩ := V3.out.cells
  go_wp2
  refine wp_region_shapes (fun ix => ([.val (.agg #[.int .i64 l, .int .i64 s, .int .i64 n, .int .u32 (d : Int)]), .val (.int .i64 f), .val (.agg #[.int .i64 l, .int .i64 s, .int .i64 n, .int .u32 (d : Int)]), .val (.int .i64 f), .val (.bool true), .val (.bool true), .val (.agg #[.int .i64 l, .int .i64 s, .int .i64 n, .int .u32 (d : Int)]), .val (.string (strB tx)), .val (.agg #[.int .i64 l, .int .i64 s, .int .i64 n, .int .u32 (d : Int)]), .val (.string (strB tx)), .val (.bool true), .val (.bool true), .val (.bool true), .val (.agg #[.int .i64 l, .int .i64 s, .int .i64 n, .int .u32 (d : Int)]), .val (.int .i64 0), .val (.int .i64 0), .val (.bool true), .val (.bool true), .val (.bool true), .val (.agg #[.int .i64 l, .int .i64 s, .int .i64 n, .int .u32 (d : Int)]), .val (.int .i64 0), .val (.int .i64 0), .val (.bool true), .val (.bool true), .val (.bool true), .val (.agg #[.int .i64 0, .int .i64 0, .int .i64 0, .int .u32 0]), .val (.agg #[.int .i64 0, .int .i64 0, .int .i64 0, .int .u32 0]), .val (.bool true), .val (.bool true), .val (.bool true), .val (.int .i64 f), .val (.int .i64 f), .val (.bool true), .val (.bool true), .val (.bool true)][ix]?).getD (.any)) 93 rfl (by kernel_rfl) (by decide) (by decide) (by decide) ?_ ?_
  · refine ⟨?_, ?_, ?_, ?_, ?_, ?_, ?_, ?_, ?_, ?_, ?_, ?_, ?_, ?_, ?_, ?_, ?_, ?_, ?_, ?_, ?_, ?_, ?_, ?_, ?_, ?_, ?_, ?_, ?_, ?_, ?_, ?_, ?_, ?_, ?_, trivial⟩
    · intro a W hb0 hs hp hi; have hb := undrew hb0; clear hb0
      have tt : sl a 1 = .pointer (some ⟨b0, 0, none⟩) := hi 1 (by decide)
      have dd0 := (hb.cell (p := ⟨b0, 0, none⟩) (lt_of_cell x0)).trans x0
      have dd1 := (hb.cell (p := ⟨b0, 1, none⟩) (lt_of_cell x1)).trans x1
      have dd2 := (hb.cell (p := ⟨b0, 2, none⟩) (lt_of_cell x2)).trans x2
      have dd3 := (hb.cell (p := ⟨b0, 3, none⟩) (lt_of_cell x3)).trans x3
      refine ite_y rfl (wp_val (.agg #[.int .i64 l, .int .i64 s, .int .i64 n, .int .u32 (d : Int)]) ?_ ?_)
      · simp only [execOp, eval_tmp, tt]; simp [go_sem, dd0, dd1, dd2, dd3]
      · exact ⟨_, rfl, Below.refl _ _, rfl⟩
    · intro a W hb0 hs hp hi; have hb := undrew hb0; clear hb0
      have t59 : sl a 59 = .agg #[.int .i64 l, .int .i64 s, .int .i64 n, .int .u32 (d : Int)] := hp 0 (by decide)
      refine ite_y rfl (wp_enter 10 #[.agg #[.int .i64 l, .int .i64 s, .int .i64 n, .int .u32 (d : Int)]] ?_ (HC.out W) ?_)
      · simp only [execOp, resolve, List.map_toArray, List.map, eval_tmp, eval_func, eval_const, t59]; simp [go_sem]
      · rintro e W' ⟨rfl, hw⟩; exact ⟨_, rfl, _, rfl, hw, rfl⟩
    · intro a W hb0 hs hp hi; have hb := undrew hb0; clear hb0
      have tt : sl a 3 = .pointer (some ⟨b1, 0, none⟩) := hi 3 (by decide)
      have dd0 := (hb.cell (p := ⟨b1, 0, none⟩) (lt_of_cell y0)).trans y0
      have dd1 := (hb.cell (p := ⟨b1, 1, none⟩) (lt_of_cell y1)).trans y1
      have dd2 := (hb.cell (p := ⟨b1, 2, none⟩) (lt_of_cell y2)).trans y2
      have dd3 := (hb.cell (p := ⟨b1, 3, none⟩) (lt_of_cell y3)).trans y3
      refine ite_y rfl (wp_val (.agg #[.int .i64 l, .int .i64 s, .int .i64 n, .int .u32 (d : Int)]) ?_ ?_)
      · simp only [execOp, eval_tmp, tt]; simp [go_sem, dd0, dd1, dd2, dd3]
      · exact ⟨_, rfl, Below.refl _ _, rfl⟩
    · intro a W hb0 hs hp hi; have hb := undrew hb0; clear hb0
      have t61 : sl a 61 = .agg #[.int .i64 l, .int .i64 s, .int .i64 n, .int .u32 (d : Int)] := hp 2 (by decide)
      refine ite_y rfl (wp_enter 9 #[.agg #[.int .i64 l, .int .i64 s, .int .i64 n, .int .u32 (d : Int)]] ?_ (HRC.out W) ?_)
      · simp only [execOp, resolve, List.map_toArray, List.map, eval_tmp, eval_func, eval_const, t61]; simp [go_sem]
      · rintro e W' ⟨rfl, hw⟩; exact ⟨_, rfl, _, rfl, hw, rfl⟩
    · intro a W hb0 hs hp hi; have hb := undrew hb0; clear hb0
      have t60 : sl a 60 = .int .i64 f := hp 1 (by decide)
      have t62 : sl a 62 = .int .i64 f := hp 3 (by decide)
      refine ite_y rfl (wp_val (.bool true) ?_ ?_)
      · simp only [execOp, eval_tmp, eval_const, t60, t62]; simp [go_sem]
      · exact ⟨_, rfl, Below.refl _ _, rfl⟩
    · intro a W hb0 hs hp hi; have hb := undrew hb0; clear hb0
      have t63 : sl a 63 = .bool true := hp 4 (by decide)
      exact ite_y rfl (wp_val (sl a 63) rfl ⟨_, rfl, Below.refl _ _, t63⟩)
    · intro a W hb0 hs hp hi; have hb := undrew hb0; clear hb0
      have tg : sl a 64 = .bool true := hp 5 (by decide)
      have tt : sl a 1 = .pointer (some ⟨b0, 0, none⟩) := hi 1 (by decide)
      have dd0 := (hb.cell (p := ⟨b0, 0, none⟩) (lt_of_cell x0)).trans x0
      have dd1 := (hb.cell (p := ⟨b0, 1, none⟩) (lt_of_cell x1)).trans x1
      have dd2 := (hb.cell (p := ⟨b0, 2, none⟩) (lt_of_cell x2)).trans x2
      have dd3 := (hb.cell (p := ⟨b0, 3, none⟩) (lt_of_cell x3)).trans x3
      refine ite_y (wanted_yes rfl rfl (by have hz : a.tmps.size = 93 := hs; rw [hz]; decide) tg) (wp_val (.agg #[.int .i64 l, .int .i64 s, .int .i64 n, .int .u32 (d : Int)]) ?_ ?_)
      · simp only [execOp, eval_tmp, tt]; simp [go_sem, dd0, dd1, dd2, dd3]
      · exact ⟨_, rfl, Below.refl _ _, rfl⟩
    · intro a W hb0 hs hp hi; have hb := undrew hb0; clear hb0
      have tg : sl a 64 = .bool true := hp 5 (by decide)
      have t65 : sl a 65 = .agg #[.int .i64 l, .int .i64 s, .int .i64 n, .int .u32 (d : Int)] := hp 6 (by decide)
      refine ite_y (wanted_yes rfl rfl (by have hz : a.tmps.size = 93 := hs; rw [hz]; decide) tg) (wp_enter 11 #[.agg #[.int .i64 l, .int .i64 s, .int .i64 n, .int .u32 (d : Int)]] ?_ (HTX.out W (HT4.out.keep hb)) ?_)
      · simp only [execOp, resolve, List.map_toArray, List.map, eval_tmp, eval_func, eval_const, t65]; simp [go_sem]
      · rintro e W' ⟨rfl, hw⟩; exact ⟨_, rfl, _, rfl, hw, rfl⟩
    · intro a W hb0 hs hp hi; have hb := undrew hb0; clear hb0
      have tg : sl a 64 = .bool true := hp 5 (by decide)
      have tt : sl a 3 = .pointer (some ⟨b1, 0, none⟩) := hi 3 (by decide)
      have dd0 := (hb.cell (p := ⟨b1, 0, none⟩) (lt_of_cell y0)).trans y0
      have dd1 := (hb.cell (p := ⟨b1, 1, none⟩) (lt_of_cell y1)).trans y1
      have dd2 := (hb.cell (p := ⟨b1, 2, none⟩) (lt_of_cell y2)).trans y2
      have dd3 := (hb.cell (p := ⟨b1, 3, none⟩) (lt_of_cell y3)).trans y3
      refine ite_y (wanted_yes rfl rfl (by have hz : a.tmps.size = 93 := hs; rw [hz]; decide) tg) (wp_val (.agg #[.int .i64 l, .int .i64 s, .int .i64 n, .int .u32 (d : Int)]) ?_ ?_)
      · simp only [execOp, eval_tmp, tt]; simp [go_sem, dd0, dd1, dd2, dd3]
      · exact ⟨_, rfl, Below.refl _ _, rfl⟩
    · intro a W hb0 hs hp hi; have hb := undrew hb0; clear hb0
      have tg : sl a 64 = .bool true := hp 5 (by decide)
      have t67 : sl a 67 = .agg #[.int .i64 l, .int .i64 s, .int .i64 n, .int .u32 (d : Int)] := hp 8 (by decide)
      refine ite_y (wanted_yes rfl rfl (by have hz : a.tmps.size = 93 := hs; rw [hz]; decide) tg) (wp_enter 12 #[.agg #[.int .i64 l, .int .i64 s, .int .i64 n, .int .u32 (d : Int)]] ?_ (HRT.out W (HT4.out.keep hb)) ?_)
      · simp only [execOp, resolve, List.map_toArray, List.map, eval_tmp, eval_func, eval_const, t67]; simp [go_sem]
      · rintro e W' ⟨rfl, hw⟩; exact ⟨_, rfl, _, rfl, hw, rfl⟩
    · intro a W hb0 hs hp hi; have hb := undrew hb0; clear hb0
      have tg : sl a 64 = .bool true := hp 5 (by decide)
      have t66 : sl a 66 = .string (strB tx) := hp 7 (by decide)
      have t68 : sl a 68 = .string (strB tx) := hp 9 (by decide)
      refine ite_y (wanted_yes rfl rfl (by have hz : a.tmps.size = 93 := hs; rw [hz]; decide) tg) (wp_val (.bool true) ?_ ?_)
      · simp only [execOp, eval_tmp, eval_const, t66, t68]; simp [go_sem]
      · exact ⟨_, rfl, Below.refl _ _, rfl⟩
    · intro a W hb0 hs hp hi; have hb := undrew hb0; clear hb0
      have t64 : sl a 64 = .bool true := hp 5 (by decide)
      have t69 : sl a 69 = .bool true := hp 10 (by decide)
      refine ite_y rfl (wp_val (.bool true) ?_ ?_)
      · simp only [execOp, eval_tmp, eval_const, t64, t69]; simp [go_sem]
      · exact ⟨_, rfl, Below.refl _ _, rfl⟩
    · intro a W hb0 hs hp hi; have hb := undrew hb0; clear hb0
      have t70 : sl a 70 = .bool true := hp 11 (by decide)
      exact ite_y rfl (wp_val (sl a 70) rfl ⟨_, rfl, Below.refl _ _, t70⟩)
    · intro a W hb0 hs hp hi; have hb := undrew hb0; clear hb0
      have tg : sl a 71 = .bool true := hp 12 (by decide)
      have tt : sl a 1 = .pointer (some ⟨b0, 0, none⟩) := hi 1 (by decide)
      have dd0 := (hb.cell (p := ⟨b0, 0, none⟩) (lt_of_cell x0)).trans x0
      have dd1 := (hb.cell (p := ⟨b0, 1, none⟩) (lt_of_cell x1)).trans x1
      have dd2 := (hb.cell (p := ⟨b0, 2, none⟩) (lt_of_cell x2)).trans x2
      have dd3 := (hb.cell (p := ⟨b0, 3, none⟩) (lt_of_cell x3)).trans x3
      refine ite_y (wanted_yes rfl rfl (by have hz : a.tmps.size = 93 := hs; rw [hz]; decide) tg) (wp_val (.agg #[.int .i64 l, .int .i64 s, .int .i64 n, .int .u32 (d : Int)]) ?_ ?_)
      · simp only [execOp, eval_tmp, tt]; simp [go_sem, dd0, dd1, dd2, dd3]
      · exact ⟨_, rfl, Below.refl _ _, rfl⟩
    · intro a W hb0 hs hp hi; have hb := undrew hb0; clear hb0
      have tg : sl a 71 = .bool true := hp 12 (by decide)
      have t72 : sl a 72 = .agg #[.int .i64 l, .int .i64 s, .int .i64 n, .int .u32 (d : Int)] := hp 13 (by decide)
      refine ite_y (wanted_yes rfl rfl (by have hz : a.tmps.size = 93 := hs; rw [hz]; decide) tg) (wp_enter 13 #[.agg #[.int .i64 l, .int .i64 s, .int .i64 n, .int .u32 (d : Int)]] ?_ (HRM.out W) ?_)
      · simp only [execOp, resolve, List.map_toArray, List.map, eval_tmp, eval_func, eval_const, t72]; simp [go_sem]
      · rintro e W' ⟨rfl, hw⟩; exact ⟨_, rfl, _, rfl, hw, rfl⟩
    · intro a W hb0 hs hp hi; have hb := undrew hb0; clear hb0
      have tg : sl a 71 = .bool true := hp 12 (by decide)
      have t8 : sl a 8 = .int .i64 0 := hi 8 (by decide)
      exact ite_y (wanted_yes rfl rfl (by have hz : a.tmps.size = 93 := hs; rw [hz]; decide) tg) (wp_val (sl a 8) rfl ⟨_, rfl, Below.refl _ _, t8⟩)
    · intro a W hb0 hs hp hi; have hb := undrew hb0; clear hb0
      have tg : sl a 71 = .bool true := hp 12 (by decide)
      have t73 : sl a 73 = .int .i64 0 := hp 14 (by decide)
      have t74 : sl a 74 = .int .i64 0 := hp 15 (by decide)
      refine ite_y (wanted_yes rfl rfl (by have hz : a.tmps.size = 93 := hs; rw [hz]; decide) tg) (wp_val (.bool true) ?_ ?_)
      · simp only [execOp, eval_tmp, eval_const, t73, t74]; simp [go_sem]
      · exact ⟨_, rfl, Below.refl _ _, rfl⟩
    · intro a W hb0 hs hp hi; have hb := undrew hb0; clear hb0
      have t71 : sl a 71 = .bool true := hp 12 (by decide)
      have t75 : sl a 75 = .bool true := hp 16 (by decide)
      refine ite_y rfl (wp_val (.bool true) ?_ ?_)
      · simp only [execOp, eval_tmp, eval_const, t71, t75]; simp [go_sem]
      · exact ⟨_, rfl, Below.refl _ _, rfl⟩
    · intro a W hb0 hs hp hi; have hb := undrew hb0; clear hb0
      have t76 : sl a 76 = .bool true := hp 17 (by decide)
      exact ite_y rfl (wp_val (sl a 76) rfl ⟨_, rfl, Below.refl _ _, t76⟩)
    · intro a W hb0 hs hp hi; have hb := undrew hb0; clear hb0
      have tg : sl a 77 = .bool true := hp 18 (by decide)
      have tt : sl a 1 = .pointer (some ⟨b0, 0, none⟩) := hi 1 (by decide)
      have dd0 := (hb.cell (p := ⟨b0, 0, none⟩) (lt_of_cell x0)).trans x0
      have dd1 := (hb.cell (p := ⟨b0, 1, none⟩) (lt_of_cell x1)).trans x1
      have dd2 := (hb.cell (p := ⟨b0, 2, none⟩) (lt_of_cell x2)).trans x2
      have dd3 := (hb.cell (p := ⟨b0, 3, none⟩) (lt_of_cell x3)).trans x3
      refine ite_y (wanted_yes rfl rfl (by have hz : a.tmps.size = 93 := hs; rw [hz]; decide) tg) (wp_val (.agg #[.int .i64 l, .int .i64 s, .int .i64 n, .int .u32 (d : Int)]) ?_ ?_)
      · simp only [execOp, eval_tmp, tt]; simp [go_sem, dd0, dd1, dd2, dd3]
      · exact ⟨_, rfl, Below.refl _ _, rfl⟩
    · intro a W hb0 hs hp hi; have hb := undrew hb0; clear hb0
      have tg : sl a 77 = .bool true := hp 18 (by decide)
      have t78 : sl a 78 = .agg #[.int .i64 l, .int .i64 s, .int .i64 n, .int .u32 (d : Int)] := hp 19 (by decide)
      refine ite_y (wanted_yes rfl rfl (by have hz : a.tmps.size = 93 := hs; rw [hz]; decide) tg) (wp_enter 14 #[.agg #[.int .i64 l, .int .i64 s, .int .i64 n, .int .u32 (d : Int)]] ?_ (HPD.out W) ?_)
      · simp only [execOp, resolve, List.map_toArray, List.map, eval_tmp, eval_func, eval_const, t78]; simp [go_sem]
      · rintro e W' ⟨rfl, hw⟩; exact ⟨_, rfl, _, rfl, hw, rfl⟩
    · intro a W hb0 hs hp hi; have hb := undrew hb0; clear hb0
      have tg : sl a 77 = .bool true := hp 18 (by decide)
      have t9 : sl a 9 = .int .i64 0 := hi 9 (by decide)
      exact ite_y (wanted_yes rfl rfl (by have hz : a.tmps.size = 93 := hs; rw [hz]; decide) tg) (wp_val (sl a 9) rfl ⟨_, rfl, Below.refl _ _, t9⟩)
    · intro a W hb0 hs hp hi; have hb := undrew hb0; clear hb0
      have tg : sl a 77 = .bool true := hp 18 (by decide)
      have t79 : sl a 79 = .int .i64 0 := hp 20 (by decide)
      have t80 : sl a 80 = .int .i64 0 := hp 21 (by decide)
      refine ite_y (wanted_yes rfl rfl (by have hz : a.tmps.size = 93 := hs; rw [hz]; decide) tg) (wp_val (.bool true) ?_ ?_)
      · simp only [execOp, eval_tmp, eval_const, t79, t80]; simp [go_sem]
      · exact ⟨_, rfl, Below.refl _ _, rfl⟩
    · intro a W hb0 hs hp hi; have hb := undrew hb0; clear hb0
      have t77 : sl a 77 = .bool true := hp 18 (by decide)
      have t81 : sl a 81 = .bool true := hp 22 (by decide)
      refine ite_y rfl (wp_val (.bool true) ?_ ?_)
      · simp only [execOp, eval_tmp, eval_const, t77, t81]; simp [go_sem]
      · exact ⟨_, rfl, Below.refl _ _, rfl⟩
    · intro a W hb0 hs hp hi; have hb := undrew hb0; clear hb0
      have t82 : sl a 82 = .bool true := hp 23 (by decide)
      exact ite_y rfl (wp_val (sl a 82) rfl ⟨_, rfl, Below.refl _ _, t82⟩)
    · intro a W hb0 hs hp hi; have hb := undrew hb0; clear hb0
      have tg : sl a 83 = .bool true := hp 24 (by decide)
      have tt : sl a 4 = .pointer (some ⟨b2, 0, none⟩) := hi 4 (by decide)
      have dd0 := (hb.cell (p := ⟨b2, 0, none⟩) (lt_of_cell u0)).trans u0
      have dd1 := (hb.cell (p := ⟨b2, 1, none⟩) (lt_of_cell u1)).trans u1
      have dd2 := (hb.cell (p := ⟨b2, 2, none⟩) (lt_of_cell u2)).trans u2
      have dd3 := (hb.cell (p := ⟨b2, 3, none⟩) (lt_of_cell u3)).trans u3
      refine ite_y (wanted_yes rfl rfl (by have hz : a.tmps.size = 93 := hs; rw [hz]; decide) tg) (wp_val (.agg #[.int .i64 0, .int .i64 0, .int .i64 0, .int .u32 0]) ?_ ?_)
      · simp only [execOp, eval_tmp, tt]; simp [go_sem, dd0, dd1, dd2, dd3]
      · exact ⟨_, rfl, Below.refl _ _, rfl⟩
    · intro a W hb0 hs hp hi; have hb := undrew hb0; clear hb0
      have tg : sl a 83 = .bool true := hp 24 (by decide)
      have tt : sl a 6 = .pointer (some ⟨b3, 0, none⟩) := hi 6 (by decide)
      have dd0 := (hb.cell (p := ⟨b3, 0, none⟩) (lt_of_cell v0)).trans v0
      have dd1 := (hb.cell (p := ⟨b3, 1, none⟩) (lt_of_cell v1)).trans v1
      have dd2 := (hb.cell (p := ⟨b3, 2, none⟩) (lt_of_cell v2)).trans v2
      have dd3 := (hb.cell (p := ⟨b3, 3, none⟩) (lt_of_cell v3)).trans v3
      refine ite_y (wanted_yes rfl rfl (by have hz : a.tmps.size = 93 := hs; rw [hz]; decide) tg) (wp_val (.agg #[.int .i64 0, .int .i64 0, .int .i64 0, .int .u32 0]) ?_ ?_)
      · simp only [execOp, eval_tmp, tt]; simp [go_sem, dd0, dd1, dd2, dd3]
      · exact ⟨_, rfl, Below.refl _ _, rfl⟩
    · intro a W hb0 hs hp hi; have hb := undrew hb0; clear hb0
      have tg : sl a 83 = .bool true := hp 24 (by decide)
      have t84 : sl a 84 = .agg #[.int .i64 0, .int .i64 0, .int .i64 0, .int .u32 0] := hp 25 (by decide)
      have t85 : sl a 85 = .agg #[.int .i64 0, .int .i64 0, .int .i64 0, .int .u32 0] := hp 26 (by decide)
      refine ite_y (wanted_yes rfl rfl (by have hz : a.tmps.size = 93 := hs; rw [hz]; decide) tg) (wp_val (.bool true) ?_ ?_)
      · simp only [execOp, eval_tmp, eval_const, t84, t85]; simp [go_sem, Tryd.underlying26, Tryd.underlying3, Tryd.underlying22]
      · exact ⟨_, rfl, Below.refl _ _, rfl⟩
    · intro a W hb0 hs hp hi; have hb := undrew hb0; clear hb0
      have t83 : sl a 83 = .bool true := hp 24 (by decide)
      have t86 : sl a 86 = .bool true := hp 27 (by decide)
      refine ite_y rfl (wp_val (.bool true) ?_ ?_)
      · simp only [execOp, eval_tmp, eval_const, t83, t86]; simp [go_sem]
      · exact ⟨_, rfl, Below.refl _ _, rfl⟩
    · intro a W hb0 hs hp hi; have hb := undrew hb0; clear hb0
      have t87 : sl a 87 = .bool true := hp 28 (by decide)
      exact ite_y rfl (wp_val (sl a 87) rfl ⟨_, rfl, Below.refl _ _, t87⟩)
    · intro a W hb0 hs hp hi; have hb := undrew hb0; clear hb0
      have tg : sl a 88 = .bool true := hp 29 (by decide)
      have t5 : sl a 5 = .int .i64 f := hi 5 (by decide)
      exact ite_y (wanted_yes rfl rfl (by have hz : a.tmps.size = 93 := hs; rw [hz]; decide) tg) (wp_val (sl a 5) rfl ⟨_, rfl, Below.refl _ _, t5⟩)
    · intro a W hb0 hs hp hi; have hb := undrew hb0; clear hb0
      have tg : sl a 88 = .bool true := hp 29 (by decide)
      have t7 : sl a 7 = .int .i64 f := hi 7 (by decide)
      exact ite_y (wanted_yes rfl rfl (by have hz : a.tmps.size = 93 := hs; rw [hz]; decide) tg) (wp_val (sl a 7) rfl ⟨_, rfl, Below.refl _ _, t7⟩)
    · intro a W hb0 hs hp hi; have hb := undrew hb0; clear hb0
      have tg : sl a 88 = .bool true := hp 29 (by decide)
      have t89 : sl a 89 = .int .i64 f := hp 30 (by decide)
      have t90 : sl a 90 = .int .i64 f := hp 31 (by decide)
      refine ite_y (wanted_yes rfl rfl (by have hz : a.tmps.size = 93 := hs; rw [hz]; decide) tg) (wp_val (.bool true) ?_ ?_)
      · simp only [execOp, eval_tmp, eval_const, t89, t90]; simp [go_sem]
      · exact ⟨_, rfl, Below.refl _ _, rfl⟩
    · intro a W hb0 hs hp hi; have hb := undrew hb0; clear hb0
      have t88 : sl a 88 = .bool true := hp 29 (by decide)
      have t91 : sl a 91 = .bool true := hp 32 (by decide)
      refine ite_y rfl (wp_val (.bool true) ?_ ?_)
      · simp only [execOp, eval_tmp, eval_const, t88, t91]; simp [go_sem]
      · exact ⟨_, rfl, Below.refl _ _, rfl⟩
    · intro a W hb0 hs hp hi; have hb := undrew hb0; clear hb0
      have t92 : sl a 92 = .bool true := hp 33 (by decide)
      exact ite_y rfl (wp_val (sl a 92) rfl ⟨_, rfl, Below.refl _ _, t92⟩)
  intro a w5 hb hs hd hI ht
  have ha := act_is [59, 60, 61, 62, 63, 64, 65, 66, 67, 68, 69, 70, 71, 72, 73, 74, 75, 76, 77, 78, 79, 80, 81, 82, 83, 84, 85, 86, 87, 88, 89, 90, 91, 92, 2] hs hd ht (by decide)
  have t2 : sl a 2 = .bool true := hI 34 (by decide)
  simp only [List.foldl, t2] at ha
  generalize sl a 59 = u59 at ha
  generalize sl a 60 = u60 at ha
  generalize sl a 61 = u61 at ha
  generalize sl a 62 = u62 at ha
  generalize sl a 63 = u63 at ha
  generalize sl a 64 = u64 at ha
  generalize sl a 65 = u65 at ha
  generalize sl a 66 = u66 at ha
  generalize sl a 67 = u67 at ha
  generalize sl a 68 = u68 at ha
  generalize sl a 69 = u69 at ha
  generalize sl a 70 = u70 at ha
  generalize sl a 71 = u71 at ha
  generalize sl a 72 = u72 at ha
  generalize sl a 73 = u73 at ha
  generalize sl a 74 = u74 at ha
  generalize sl a 75 = u75 at ha
  generalize sl a 76 = u76 at ha
  generalize sl a 77 = u77 at ha
  generalize sl a 78 = u78 at ha
  generalize sl a 79 = u79 at ha
  generalize sl a 80 = u80 at ha
  generalize sl a 81 = u81 at ha
  generalize sl a 82 = u82 at ha
  generalize sl a 83 = u83 at ha
  generalize sl a 84 = u84 at ha
  generalize sl a 85 = u85 at ha
  generalize sl a 86 = u86 at ha
  generalize sl a 87 = u87 at ha
  generalize sl a 88 = u88 at ha
  generalize sl a 89 = u89 at ha
  generalize sl a 90 = u90 at ha
  generalize sl a 91 = u91 at ha
  generalize sl a 92 = u92 at ha
  simp only [Act.put, List.setIfInBounds_toArray, List.set_cons_zero, List.set_cons_succ] at ha
  rw [ha]
  clear ha hI ht
  have K5 : Hid (Below w.heap.size w w5) := bl K4.out hb K4.out.size
  clear hb
  go_wp2
  go_ret
  exact ⟨rfl, K5.out⟩
set_option maxRecDepth 100000 in
set_option maxHeartbeats 8000000 in
theorem PlanChecks_N (l s n : Int) (d : Nat) (hd : d < 4294967296) (w : World) (hl2 : l ≤ 9223372036854775807) (hT : Tab10 w) (hf : fitS l s = 0) (hz : checkS l s n ≠ 0) :
    Calls Tryd.prog 3 #[.agg #[.int .i64 l, .int .i64 s, .int .i64 n, .int .u32 (d : Int)]] w fun e w' => e = .returned (.bool true) ∧ Below w.heap.size w w' := by
  have HT := Lib.hid hT
  clear hT
  have HC := Lib.hid (fun w => Check_any l s n d w hl2)
  have HRC := Lib.hid (fun w => RCheck_any l s n d w hl2)
  have HTX := Lib.hid (fun w hT => PText_any l s n d hd w hl2 hT)
  have HRT := Lib.hid (fun w hT => RText_any l s n d hd w hl2 hT)
  have HRM := Lib.hid (fun w => PRoom_any l s n d w hl2)
  have HPD := Lib.hid (fun w => PPad_any l s n d w hl2)
  have HO := Lib.hid (fun w => POf_any l s d w hl2)
  obtain ⟨h0, h1, h2, e1⟩ := fit_zero hf
  simp only [e1] at HO
  have hk : checkS l s (needS l s) = 0 := by unfold checkS; rw [if_pos hf, if_pos rfl]
  have HRK := Lib.hid (fun w => RCheck_any l s (needS l s) d w hl2)
  rw [hk] at HRK
  have en : rneedsS l s = needS l s := if_pos h2
  have HN := Lib.hid (fun w => RNeeds_any l s w h0 hl2 h1)
  rw [en] at HN
  have er : roomS l s n = 0 := if_neg hz
  have ep : padS l s n = 0 := if_neg hz
  rw [er] at HRM
  rw [ep] at HPD
  have hkb : (checkS l s n == 0) = false := by simpa using hz
  clear er ep hz
  generalize checkS l s n = c at *
  clear hf e1 hk en h2
  generalize needS l s = m at *
  generalize textS l s n d = tx at *
  go_enter Tryd.func3, Tryd.ntmps3
  go_wp2_with fail
  refine use_wq (fun W => PC4 w.heap.size 24 l s n d W ∧ Below w.heap.size w W) ⟨hnew rfl, al (Below.refl _ _) (Nat.le_refl _)⟩ ?_
  rintro W1 ⟨x0, k1⟩
  refine Calls.mono (awake10 _) ?_
  rintro e w1 ⟨rfl, hb⟩
  have X0 := Lib.hid (x0.keep hb)
  have K1 : Hid (Below w.heap.size w w1) := bl k1 hb k1.size
  clear x0 k1 hb
  obtain ⟨b0, hb0⟩ : ∃ b0, b0 = w.heap.size := ⟨_, rfl⟩
  rw [← hb0] at X0
  have HB0 := Lib.hid hb0
  have HBA : Hid (∀ (W : World) o, Below W.heap.size W (W.alloc o)) := fun W o => al (Below.refl _ _) (Nat.le_refl _)
  obtain ⟨x0, x1, x2, x3⟩ := X0.out.cells
  have y0 := fun o => (X0.out.keep (HBA.out _ o)).cells.1
  have y1 := fun o => (X0.out.keep (HBA.out _ o)).cells.2.1
  have y3 := fun o => (X0.out.keep (HBA.out _ o)).cells.2.2.2
  rw [← hb0]
  clear hb0
  go_wp2_with fail
  refine use_wq (fun W => PC4 b0 24 l s n d W ∧ PC4 w1.heap.size 26 l s n d W ∧ Below w.heap.size w W) ⟨hal X0.out, hnew rfl, al K1.out K1.out.size⟩ ?_
  rintro W2 ⟨z0, z1, k2⟩
  refine (HO.out _).mono ?_
  rintro e w2 ⟨rfl, hb⟩
  have Y0 := Lib.hid (z0.keep hb)
  have Y1 := Lib.hid (z1.keep hb)
  have K2 : Hid (Below w.heap.size w w2) := bl k2 hb k2.size
  clear z0 z1 k2 hb x0 x1 x2 x3 y0 y1 y3 X0 K1
  generalize w1.heap.size = b1 at *
  have p0 := fun o => (Y1.out.keep (HBA.out _ o)).cells.1
  have p1 := fun o => (Y1.out.keep (HBA.out _ o)).cells.2.1
  have p2 := fun o => (Y1.out.keep (HBA.out _ o)).cells.2.2.1
  have p3 := fun o => (Y1.out.keep (HBA.out _ o)).cells.2.2.2
  have q0 := fun o o' => ((Y1.out.keep (HBA.out _ o)).keep (HBA.out _ o')).cells.1
  have q1 := fun o o' => ((Y1.out.keep (HBA.out _ o)).keep (HBA.out _ o')).cells.2.1
  go_wp2_with fail
  refine (HN.out _).mono ?_
  rintro e w' ⟨rfl, rfl⟩
  go_wp2_with fail
  refine use_wq (fun W => PC4 b0 24 l s n d W ∧ PC4 b1 26 l s n d W ∧ PC4 w2.heap.size 24 l s m d W ∧ PC4 (w2.heap.size + 1) 26 l s m d W ∧ Below w.heap.size w W) ⟨hal (hal Y0.out), hal (hal Y1.out), hal (hnew rfl), hnew (by simp), al (al K2.out K2.out.size) (by have := K2.out.size; simp; omega)⟩ ?_
  rintro W3 ⟨z0, z1, z2, z3, k3⟩
  refine Calls.mono (HRK.out _) ?_
  rintro e w3 ⟨rfl, hb⟩
  have Z0 := Lib.hid (z0.keep hb)
  have Z1 := Lib.hid (z1.keep hb)
  have Z2 := Lib.hid (z2.keep hb)
  have Z3 := Lib.hid (z3.keep hb)
  have K3 : Hid (Below w.heap.size w w3) := bl k3 hb k3.size
  have h23 : Hid (w.heap.size ≤ w2.heap.size) := K2.out.size
  have HLA := Y0.out.lt
  have HLB := Y1.out.lt
  clear z0 z1 z2 z3 k3 hb p0 p1 p2 p3 q0 q1 Y0 Y1 K2
  have hd2 : Hid (b0 < w2.heap.size + 1 ∧ b1 < w2.heap.size + 1) := ⟨Nat.lt_succ_of_lt HLA, Nat.lt_succ_of_lt HLB⟩
  clear HLA HLB
  obtain ⟨b2, hb2⟩ : ∃ b2, b2 = w2.heap.size := ⟨_, rfl⟩
  rw [← hb2] at Z2 Z3 hd2 h23 ⊢
  clear hb2
  obtain ⟨y0, y1, y2, y3⟩ := Z1.out.cells
  go_wp2_with fail
  refine use_wq (fun W => PC4 b0 24 l s n d W ∧ PC4 b1 26 l s n d W ∧ PC4 b2 24 l s m d W ∧ PC4 (b2 + 1) 26 l s m d W ∧ Below w.heap.size w W) ⟨Z0.out, Z1.out, Z2.out, Z3.out, K3.out⟩ ?_
  rintro W4 ⟨z0, z1, z2, z3, k4⟩
  refine Calls.mono (HRC.out _) ?_
  rintro e w4 ⟨rfl, hb⟩
  have V0 := Lib.hid (z0.keep hb)
  have V1 := Lib.hid (z1.keep hb)
  have V2 := Lib.hid (z2.keep hb)
  have V3 := Lib.hid (z3.keep hb)
  have K4 : Hid (Below w.heap.size w w4) := bl k4 hb k4.size
  have HT4 := Lib.hid (HT.out.keep K4.out)
  clear z0 z1 z2 z3 k4 hb Z0 Z1 Z2 Z3 K3 y0 y1 y2 y3 
  obtain ⟨b3, hb3⟩ : ∃ b3, b3 = b2 + 1 := ⟨_, rfl⟩
  rw [← hb3] at V3
  try rw [← hb3]
  clear hb3 hd2 h23
  obtain ⟨x0, x1, x2, x3⟩ := V0.out.cells
  obtain ⟨y0, y1, y2, y3⟩ := V1.out.cells
  obtain ⟨u0, u1, u2, u3⟩ := V2.out.cells
  obtain ⟨v0, v1, v2, v3⟩ := V3.out.cells
  go_wp2
  refine wp_region_shapes (fun ix => ([.val (.agg #[.int .i64 l, .int .i64 s, .int .i64 n, .int .u32 (d : Int)]), .val (.int .i64 c), .val (.agg #[.int .i64 l, .int .i64 s, .int .i64 n, .int .u32 (d : Int)]), .val (.int .i64 c), .val (.bool true), .val (.bool true), .val (.agg #[.int .i64 l, .int .i64 s, .int .i64 n, .int .u32 (d : Int)]), .val (.string (strB tx)), .val (.agg #[.int .i64 l, .int .i64 s, .int .i64 n, .int .u32 (d : Int)]), .val (.string (strB tx)), .val (.bool true), .val (.bool true), .val (.bool true), .val (.agg #[.int .i64 l, .int .i64 s, .int .i64 n, .int .u32 (d : Int)]), .val (.int .i64 0), .val (.int .i64 0), .val (.bool true), .val (.bool true), .val (.bool true), .val (.agg #[.int .i64 l, .int .i64 s, .int .i64 n, .int .u32 (d : Int)]), .val (.int .i64 0), .val (.int .i64 0), .val (.bool true), .val (.bool true), .val (.bool true), .val (.agg #[.int .i64 l, .int .i64 s, .int .i64 m, .int .u32 (d : Int)]), .val (.agg #[.int .i64 l, .int .i64 s, .int .i64 m, .int .u32 (d : Int)]), .val (.bool true), .val (.bool true), .val (.bool true), .val (.int .i64 0), .val (.int .i64 0), .val (.bool true), .val (.bool true), .val (.bool true)][ix]?).getD (.any)) 93 rfl (by kernel_rfl) (by decide) (by decide) (by decide) ?_ ?_
  · refine ⟨?_, ?_, ?_, ?_, ?_, ?_, ?_, ?_, ?_, ?_, ?_, ?_, ?_, ?_, ?_, ?_, ?_, ?_, ?_, ?_, ?_, ?_, ?_, ?_, ?_, ?_, ?_, ?_, ?_, ?_, ?_, ?_, ?_, ?_, ?_, trivial⟩
    · intro a W hb0 hs hp hi; have hb := undrew hb0; clear hb0
      have tt : sl a 1 = .pointer (some ⟨b0, 0, none⟩) := hi 1 (by decide)
      have dd0 := (hb.cell (p := ⟨b0, 0, none⟩) (lt_of_cell x0)).trans x0
      have dd1 := (hb.cell (p := ⟨b0, 1, none⟩) (lt_of_cell x1)).trans x1
      have dd2 := (hb.cell (p := ⟨b0, 2, none⟩) (lt_of_cell x2)).trans x2
      have dd3 := (hb.cell (p := ⟨b0, 3, none⟩) (lt_of_cell x3)).trans x3
      refine ite_y rfl (wp_val (.agg #[.int .i64 l, .int .i64 s, .int .i64 n, .int .u32 (d : Int)]) ?_ ?_)
      · simp only [execOp, eval_tmp, tt]; simp [go_sem, dd0, dd1, dd2, dd3]
      · exact ⟨_, rfl, Below.refl _ _, rfl⟩
    · intro a W hb0 hs hp hi; have hb := undrew hb0; clear hb0
      have t59 : sl a 59 = .agg #[.int .i64 l, .int .i64 s, .int .i64 n, .int .u32 (d : Int)] := hp 0 (by decide)
      refine ite_y rfl (wp_enter 10 #[.agg #[.int .i64 l, .int .i64 s, .int .i64 n, .int .u32 (d : Int)]] ?_ (HC.out W) ?_)
      · simp only [execOp, resolve, List.map_toArray, List.map, eval_tmp, eval_func, eval_const, t59]; simp [go_sem]
      · rintro e W' ⟨rfl, hw⟩; exact ⟨_, rfl, _, rfl, hw, rfl⟩
    · intro a W hb0 hs hp hi; have hb := undrew hb0; clear hb0
      have tt : sl a 3 = .pointer (some ⟨b1, 0, none⟩) := hi 3 (by decide)
      have dd0 := (hb.cell (p := ⟨b1, 0, none⟩) (lt_of_cell y0)).trans y0
      have dd1 := (hb.cell (p := ⟨b1, 1, none⟩) (lt_of_cell y1)).trans y1
      have dd2 := (hb.cell (p := ⟨b1, 2, none⟩) (lt_of_cell y2)).trans y2
      have dd3 := (hb.cell (p := ⟨b1, 3, none⟩) (lt_of_cell y3)).trans y3
      refine ite_y rfl (wp_val (.agg #[.int .i64 l, .int .i64 s, .int .i64 n, .int .u32 (d : Int)]) ?_ ?_)
      · simp only [execOp, eval_tmp, tt]; simp [go_sem, dd0, dd1, dd2, dd3]
      · exact ⟨_, rfl, Below.refl _ _, rfl⟩
    · intro a W hb0 hs hp hi; have hb := undrew hb0; clear hb0
      have t61 : sl a 61 = .agg #[.int .i64 l, .int .i64 s, .int .i64 n, .int .u32 (d : Int)] := hp 2 (by decide)
      refine ite_y rfl (wp_enter 9 #[.agg #[.int .i64 l, .int .i64 s, .int .i64 n, .int .u32 (d : Int)]] ?_ (HRC.out W) ?_)
      · simp only [execOp, resolve, List.map_toArray, List.map, eval_tmp, eval_func, eval_const, t61]; simp [go_sem]
      · rintro e W' ⟨rfl, hw⟩; exact ⟨_, rfl, _, rfl, hw, rfl⟩
    · intro a W hb0 hs hp hi; have hb := undrew hb0; clear hb0
      have t60 : sl a 60 = .int .i64 c := hp 1 (by decide)
      have t62 : sl a 62 = .int .i64 c := hp 3 (by decide)
      refine ite_y rfl (wp_val (.bool true) ?_ ?_)
      · simp only [execOp, eval_tmp, eval_const, t60, t62]; simp [go_sem]
      · exact ⟨_, rfl, Below.refl _ _, rfl⟩
    · intro a W hb0 hs hp hi; have hb := undrew hb0; clear hb0
      have t63 : sl a 63 = .bool true := hp 4 (by decide)
      exact ite_y rfl (wp_val (sl a 63) rfl ⟨_, rfl, Below.refl _ _, t63⟩)
    · intro a W hb0 hs hp hi; have hb := undrew hb0; clear hb0
      have tg : sl a 64 = .bool true := hp 5 (by decide)
      have tt : sl a 1 = .pointer (some ⟨b0, 0, none⟩) := hi 1 (by decide)
      have dd0 := (hb.cell (p := ⟨b0, 0, none⟩) (lt_of_cell x0)).trans x0
      have dd1 := (hb.cell (p := ⟨b0, 1, none⟩) (lt_of_cell x1)).trans x1
      have dd2 := (hb.cell (p := ⟨b0, 2, none⟩) (lt_of_cell x2)).trans x2
      have dd3 := (hb.cell (p := ⟨b0, 3, none⟩) (lt_of_cell x3)).trans x3
      refine ite_y (wanted_yes rfl rfl (by have hz : a.tmps.size = 93 := hs; rw [hz]; decide) tg) (wp_val (.agg #[.int .i64 l, .int .i64 s, .int .i64 n, .int .u32 (d : Int)]) ?_ ?_)
      · simp only [execOp, eval_tmp, tt]; simp [go_sem, dd0, dd1, dd2, dd3]
      · exact ⟨_, rfl, Below.refl _ _, rfl⟩
    · intro a W hb0 hs hp hi; have hb := undrew hb0; clear hb0
      have tg : sl a 64 = .bool true := hp 5 (by decide)
      have t65 : sl a 65 = .agg #[.int .i64 l, .int .i64 s, .int .i64 n, .int .u32 (d : Int)] := hp 6 (by decide)
      refine ite_y (wanted_yes rfl rfl (by have hz : a.tmps.size = 93 := hs; rw [hz]; decide) tg) (wp_enter 11 #[.agg #[.int .i64 l, .int .i64 s, .int .i64 n, .int .u32 (d : Int)]] ?_ (HTX.out W (HT4.out.keep hb)) ?_)
      · simp only [execOp, resolve, List.map_toArray, List.map, eval_tmp, eval_func, eval_const, t65]; simp [go_sem]
      · rintro e W' ⟨rfl, hw⟩; exact ⟨_, rfl, _, rfl, hw, rfl⟩
    · intro a W hb0 hs hp hi; have hb := undrew hb0; clear hb0
      have tg : sl a 64 = .bool true := hp 5 (by decide)
      have tt : sl a 3 = .pointer (some ⟨b1, 0, none⟩) := hi 3 (by decide)
      have dd0 := (hb.cell (p := ⟨b1, 0, none⟩) (lt_of_cell y0)).trans y0
      have dd1 := (hb.cell (p := ⟨b1, 1, none⟩) (lt_of_cell y1)).trans y1
      have dd2 := (hb.cell (p := ⟨b1, 2, none⟩) (lt_of_cell y2)).trans y2
      have dd3 := (hb.cell (p := ⟨b1, 3, none⟩) (lt_of_cell y3)).trans y3
      refine ite_y (wanted_yes rfl rfl (by have hz : a.tmps.size = 93 := hs; rw [hz]; decide) tg) (wp_val (.agg #[.int .i64 l, .int .i64 s, .int .i64 n, .int .u32 (d : Int)]) ?_ ?_)
      · simp only [execOp, eval_tmp, tt]; simp [go_sem, dd0, dd1, dd2, dd3]
      · exact ⟨_, rfl, Below.refl _ _, rfl⟩
    · intro a W hb0 hs hp hi; have hb := undrew hb0; clear hb0
      have tg : sl a 64 = .bool true := hp 5 (by decide)
      have t67 : sl a 67 = .agg #[.int .i64 l, .int .i64 s, .int .i64 n, .int .u32 (d : Int)] := hp 8 (by decide)
      refine ite_y (wanted_yes rfl rfl (by have hz : a.tmps.size = 93 := hs; rw [hz]; decide) tg) (wp_enter 12 #[.agg #[.int .i64 l, .int .i64 s, .int .i64 n, .int .u32 (d : Int)]] ?_ (HRT.out W (HT4.out.keep hb)) ?_)
      · simp only [execOp, resolve, List.map_toArray, List.map, eval_tmp, eval_func, eval_const, t67]; simp [go_sem]
      · rintro e W' ⟨rfl, hw⟩; exact ⟨_, rfl, _, rfl, hw, rfl⟩
    · intro a W hb0 hs hp hi; have hb := undrew hb0; clear hb0
      have tg : sl a 64 = .bool true := hp 5 (by decide)
      have t66 : sl a 66 = .string (strB tx) := hp 7 (by decide)
      have t68 : sl a 68 = .string (strB tx) := hp 9 (by decide)
      refine ite_y (wanted_yes rfl rfl (by have hz : a.tmps.size = 93 := hs; rw [hz]; decide) tg) (wp_val (.bool true) ?_ ?_)
      · simp only [execOp, eval_tmp, eval_const, t66, t68]; simp [go_sem]
      · exact ⟨_, rfl, Below.refl _ _, rfl⟩
    · intro a W hb0 hs hp hi; have hb := undrew hb0; clear hb0
      have t64 : sl a 64 = .bool true := hp 5 (by decide)
      have t69 : sl a 69 = .bool true := hp 10 (by decide)
      refine ite_y rfl (wp_val (.bool true) ?_ ?_)
      · simp only [execOp, eval_tmp, eval_const, t64, t69]; simp [go_sem]
      · exact ⟨_, rfl, Below.refl _ _, rfl⟩
    · intro a W hb0 hs hp hi; have hb := undrew hb0; clear hb0
      have t70 : sl a 70 = .bool true := hp 11 (by decide)
      exact ite_y rfl (wp_val (sl a 70) rfl ⟨_, rfl, Below.refl _ _, t70⟩)
    · intro a W hb0 hs hp hi; have hb := undrew hb0; clear hb0
      have tg : sl a 71 = .bool true := hp 12 (by decide)
      have tt : sl a 1 = .pointer (some ⟨b0, 0, none⟩) := hi 1 (by decide)
      have dd0 := (hb.cell (p := ⟨b0, 0, none⟩) (lt_of_cell x0)).trans x0
      have dd1 := (hb.cell (p := ⟨b0, 1, none⟩) (lt_of_cell x1)).trans x1
      have dd2 := (hb.cell (p := ⟨b0, 2, none⟩) (lt_of_cell x2)).trans x2
      have dd3 := (hb.cell (p := ⟨b0, 3, none⟩) (lt_of_cell x3)).trans x3
      refine ite_y (wanted_yes rfl rfl (by have hz : a.tmps.size = 93 := hs; rw [hz]; decide) tg) (wp_val (.agg #[.int .i64 l, .int .i64 s, .int .i64 n, .int .u32 (d : Int)]) ?_ ?_)
      · simp only [execOp, eval_tmp, tt]; simp [go_sem, dd0, dd1, dd2, dd3]
      · exact ⟨_, rfl, Below.refl _ _, rfl⟩
    · intro a W hb0 hs hp hi; have hb := undrew hb0; clear hb0
      have tg : sl a 71 = .bool true := hp 12 (by decide)
      have t72 : sl a 72 = .agg #[.int .i64 l, .int .i64 s, .int .i64 n, .int .u32 (d : Int)] := hp 13 (by decide)
      refine ite_y (wanted_yes rfl rfl (by have hz : a.tmps.size = 93 := hs; rw [hz]; decide) tg) (wp_enter 13 #[.agg #[.int .i64 l, .int .i64 s, .int .i64 n, .int .u32 (d : Int)]] ?_ (HRM.out W) ?_)
      · simp only [execOp, resolve, List.map_toArray, List.map, eval_tmp, eval_func, eval_const, t72]; simp [go_sem]
      · rintro e W' ⟨rfl, hw⟩; exact ⟨_, rfl, _, rfl, hw, rfl⟩
    · intro a W hb0 hs hp hi; have hb := undrew hb0; clear hb0
      have tg : sl a 71 = .bool true := hp 12 (by decide)
      have t8 : sl a 8 = .int .i64 0 := hi 8 (by decide)
      exact ite_y (wanted_yes rfl rfl (by have hz : a.tmps.size = 93 := hs; rw [hz]; decide) tg) (wp_val (sl a 8) rfl ⟨_, rfl, Below.refl _ _, t8⟩)
    · intro a W hb0 hs hp hi; have hb := undrew hb0; clear hb0
      have tg : sl a 71 = .bool true := hp 12 (by decide)
      have t73 : sl a 73 = .int .i64 0 := hp 14 (by decide)
      have t74 : sl a 74 = .int .i64 0 := hp 15 (by decide)
      refine ite_y (wanted_yes rfl rfl (by have hz : a.tmps.size = 93 := hs; rw [hz]; decide) tg) (wp_val (.bool true) ?_ ?_)
      · simp only [execOp, eval_tmp, eval_const, t73, t74]; simp [go_sem]
      · exact ⟨_, rfl, Below.refl _ _, rfl⟩
    · intro a W hb0 hs hp hi; have hb := undrew hb0; clear hb0
      have t71 : sl a 71 = .bool true := hp 12 (by decide)
      have t75 : sl a 75 = .bool true := hp 16 (by decide)
      refine ite_y rfl (wp_val (.bool true) ?_ ?_)
      · simp only [execOp, eval_tmp, eval_const, t71, t75]; simp [go_sem]
      · exact ⟨_, rfl, Below.refl _ _, rfl⟩
    · intro a W hb0 hs hp hi; have hb := undrew hb0; clear hb0
      have t76 : sl a 76 = .bool true := hp 17 (by decide)
      exact ite_y rfl (wp_val (sl a 76) rfl ⟨_, rfl, Below.refl _ _, t76⟩)
    · intro a W hb0 hs hp hi; have hb := undrew hb0; clear hb0
      have tg : sl a 77 = .bool true := hp 18 (by decide)
      have tt : sl a 1 = .pointer (some ⟨b0, 0, none⟩) := hi 1 (by decide)
      have dd0 := (hb.cell (p := ⟨b0, 0, none⟩) (lt_of_cell x0)).trans x0
      have dd1 := (hb.cell (p := ⟨b0, 1, none⟩) (lt_of_cell x1)).trans x1
      have dd2 := (hb.cell (p := ⟨b0, 2, none⟩) (lt_of_cell x2)).trans x2
      have dd3 := (hb.cell (p := ⟨b0, 3, none⟩) (lt_of_cell x3)).trans x3
      refine ite_y (wanted_yes rfl rfl (by have hz : a.tmps.size = 93 := hs; rw [hz]; decide) tg) (wp_val (.agg #[.int .i64 l, .int .i64 s, .int .i64 n, .int .u32 (d : Int)]) ?_ ?_)
      · simp only [execOp, eval_tmp, tt]; simp [go_sem, dd0, dd1, dd2, dd3]
      · exact ⟨_, rfl, Below.refl _ _, rfl⟩
    · intro a W hb0 hs hp hi; have hb := undrew hb0; clear hb0
      have tg : sl a 77 = .bool true := hp 18 (by decide)
      have t78 : sl a 78 = .agg #[.int .i64 l, .int .i64 s, .int .i64 n, .int .u32 (d : Int)] := hp 19 (by decide)
      refine ite_y (wanted_yes rfl rfl (by have hz : a.tmps.size = 93 := hs; rw [hz]; decide) tg) (wp_enter 14 #[.agg #[.int .i64 l, .int .i64 s, .int .i64 n, .int .u32 (d : Int)]] ?_ (HPD.out W) ?_)
      · simp only [execOp, resolve, List.map_toArray, List.map, eval_tmp, eval_func, eval_const, t78]; simp [go_sem]
      · rintro e W' ⟨rfl, hw⟩; exact ⟨_, rfl, _, rfl, hw, rfl⟩
    · intro a W hb0 hs hp hi; have hb := undrew hb0; clear hb0
      have tg : sl a 77 = .bool true := hp 18 (by decide)
      have t9 : sl a 9 = .int .i64 0 := hi 9 (by decide)
      exact ite_y (wanted_yes rfl rfl (by have hz : a.tmps.size = 93 := hs; rw [hz]; decide) tg) (wp_val (sl a 9) rfl ⟨_, rfl, Below.refl _ _, t9⟩)
    · intro a W hb0 hs hp hi; have hb := undrew hb0; clear hb0
      have tg : sl a 77 = .bool true := hp 18 (by decide)
      have t79 : sl a 79 = .int .i64 0 := hp 20 (by decide)
      have t80 : sl a 80 = .int .i64 0 := hp 21 (by decide)
      refine ite_y (wanted_yes rfl rfl (by have hz : a.tmps.size = 93 := hs; rw [hz]; decide) tg) (wp_val (.bool true) ?_ ?_)
      · simp only [execOp, eval_tmp, eval_const, t79, t80]; simp [go_sem]
      · exact ⟨_, rfl, Below.refl _ _, rfl⟩
    · intro a W hb0 hs hp hi; have hb := undrew hb0; clear hb0
      have t77 : sl a 77 = .bool true := hp 18 (by decide)
      have t81 : sl a 81 = .bool true := hp 22 (by decide)
      refine ite_y rfl (wp_val (.bool true) ?_ ?_)
      · simp only [execOp, eval_tmp, eval_const, t77, t81]; simp [go_sem]
      · exact ⟨_, rfl, Below.refl _ _, rfl⟩
    · intro a W hb0 hs hp hi; have hb := undrew hb0; clear hb0
      have t82 : sl a 82 = .bool true := hp 23 (by decide)
      exact ite_y rfl (wp_val (sl a 82) rfl ⟨_, rfl, Below.refl _ _, t82⟩)
    · intro a W hb0 hs hp hi; have hb := undrew hb0; clear hb0
      have tg : sl a 83 = .bool true := hp 24 (by decide)
      have tt : sl a 4 = .pointer (some ⟨b2, 0, none⟩) := hi 4 (by decide)
      have dd0 := (hb.cell (p := ⟨b2, 0, none⟩) (lt_of_cell u0)).trans u0
      have dd1 := (hb.cell (p := ⟨b2, 1, none⟩) (lt_of_cell u1)).trans u1
      have dd2 := (hb.cell (p := ⟨b2, 2, none⟩) (lt_of_cell u2)).trans u2
      have dd3 := (hb.cell (p := ⟨b2, 3, none⟩) (lt_of_cell u3)).trans u3
      refine ite_y (wanted_yes rfl rfl (by have hz : a.tmps.size = 93 := hs; rw [hz]; decide) tg) (wp_val (.agg #[.int .i64 l, .int .i64 s, .int .i64 m, .int .u32 (d : Int)]) ?_ ?_)
      · simp only [execOp, eval_tmp, tt]; simp [go_sem, dd0, dd1, dd2, dd3]
      · exact ⟨_, rfl, Below.refl _ _, rfl⟩
    · intro a W hb0 hs hp hi; have hb := undrew hb0; clear hb0
      have tg : sl a 83 = .bool true := hp 24 (by decide)
      have tt : sl a 6 = .pointer (some ⟨b3, 0, none⟩) := hi 6 (by decide)
      have dd0 := (hb.cell (p := ⟨b3, 0, none⟩) (lt_of_cell v0)).trans v0
      have dd1 := (hb.cell (p := ⟨b3, 1, none⟩) (lt_of_cell v1)).trans v1
      have dd2 := (hb.cell (p := ⟨b3, 2, none⟩) (lt_of_cell v2)).trans v2
      have dd3 := (hb.cell (p := ⟨b3, 3, none⟩) (lt_of_cell v3)).trans v3
      refine ite_y (wanted_yes rfl rfl (by have hz : a.tmps.size = 93 := hs; rw [hz]; decide) tg) (wp_val (.agg #[.int .i64 l, .int .i64 s, .int .i64 m, .int .u32 (d : Int)]) ?_ ?_)
      · simp only [execOp, eval_tmp, tt]; simp [go_sem, dd0, dd1, dd2, dd3]
      · exact ⟨_, rfl, Below.refl _ _, rfl⟩
    · intro a W hb0 hs hp hi; have hb := undrew hb0; clear hb0
      have tg : sl a 83 = .bool true := hp 24 (by decide)
      have t84 : sl a 84 = .agg #[.int .i64 l, .int .i64 s, .int .i64 m, .int .u32 (d : Int)] := hp 25 (by decide)
      have t85 : sl a 85 = .agg #[.int .i64 l, .int .i64 s, .int .i64 m, .int .u32 (d : Int)] := hp 26 (by decide)
      refine ite_y (wanted_yes rfl rfl (by have hz : a.tmps.size = 93 := hs; rw [hz]; decide) tg) (wp_val (.bool true) ?_ ?_)
      · simp only [execOp, eval_tmp, eval_const, t84, t85]; simp [go_sem, Tryd.underlying26, Tryd.underlying3, Tryd.underlying22]
      · exact ⟨_, rfl, Below.refl _ _, rfl⟩
    · intro a W hb0 hs hp hi; have hb := undrew hb0; clear hb0
      have t83 : sl a 83 = .bool true := hp 24 (by decide)
      have t86 : sl a 86 = .bool true := hp 27 (by decide)
      refine ite_y rfl (wp_val (.bool true) ?_ ?_)
      · simp only [execOp, eval_tmp, eval_const, t83, t86]; simp [go_sem]
      · exact ⟨_, rfl, Below.refl _ _, rfl⟩
    · intro a W hb0 hs hp hi; have hb := undrew hb0; clear hb0
      have t87 : sl a 87 = .bool true := hp 28 (by decide)
      exact ite_y rfl (wp_val (sl a 87) rfl ⟨_, rfl, Below.refl _ _, t87⟩)
    · intro a W hb0 hs hp hi; have hb := undrew hb0; clear hb0
      have tg : sl a 88 = .bool true := hp 29 (by decide)
      have t5 : sl a 5 = .int .i64 0 := hi 5 (by decide)
      exact ite_y (wanted_yes rfl rfl (by have hz : a.tmps.size = 93 := hs; rw [hz]; decide) tg) (wp_val (sl a 5) rfl ⟨_, rfl, Below.refl _ _, t5⟩)
    · intro a W hb0 hs hp hi; have hb := undrew hb0; clear hb0
      have tg : sl a 88 = .bool true := hp 29 (by decide)
      have t7 : sl a 7 = .int .i64 0 := hi 7 (by decide)
      exact ite_y (wanted_yes rfl rfl (by have hz : a.tmps.size = 93 := hs; rw [hz]; decide) tg) (wp_val (sl a 7) rfl ⟨_, rfl, Below.refl _ _, t7⟩)
    · intro a W hb0 hs hp hi; have hb := undrew hb0; clear hb0
      have tg : sl a 88 = .bool true := hp 29 (by decide)
      have t89 : sl a 89 = .int .i64 0 := hp 30 (by decide)
      have t90 : sl a 90 = .int .i64 0 := hp 31 (by decide)
      refine ite_y (wanted_yes rfl rfl (by have hz : a.tmps.size = 93 := hs; rw [hz]; decide) tg) (wp_val (.bool true) ?_ ?_)
      · simp only [execOp, eval_tmp, eval_const, t89, t90]; simp [go_sem]
      · exact ⟨_, rfl, Below.refl _ _, rfl⟩
    · intro a W hb0 hs hp hi; have hb := undrew hb0; clear hb0
      have t88 : sl a 88 = .bool true := hp 29 (by decide)
      have t91 : sl a 91 = .bool true := hp 32 (by decide)
      refine ite_y rfl (wp_val (.bool true) ?_ ?_)
      · simp only [execOp, eval_tmp, eval_const, t88, t91]; simp [go_sem]
      · exact ⟨_, rfl, Below.refl _ _, rfl⟩
    · intro a W hb0 hs hp hi; have hb := undrew hb0; clear hb0
      have t92 : sl a 92 = .bool true := hp 33 (by decide)
      exact ite_y rfl (wp_val (sl a 92) rfl ⟨_, rfl, Below.refl _ _, t92⟩)
  intro a w5 hb hs hd hI ht
  have ha := act_is [59, 60, 61, 62, 63, 64, 65, 66, 67, 68, 69, 70, 71, 72, 73, 74, 75, 76, 77, 78, 79, 80, 81, 82, 83, 84, 85, 86, 87, 88, 89, 90, 91, 92, 2] hs hd ht (by decide)
  have t2 : sl a 2 = .bool true := hI 34 (by decide)
  simp only [List.foldl, t2] at ha
  generalize sl a 59 = u59 at ha
  generalize sl a 60 = u60 at ha
  generalize sl a 61 = u61 at ha
  generalize sl a 62 = u62 at ha
  generalize sl a 63 = u63 at ha
  generalize sl a 64 = u64 at ha
  generalize sl a 65 = u65 at ha
  generalize sl a 66 = u66 at ha
  generalize sl a 67 = u67 at ha
  generalize sl a 68 = u68 at ha
  generalize sl a 69 = u69 at ha
  generalize sl a 70 = u70 at ha
  generalize sl a 71 = u71 at ha
  generalize sl a 72 = u72 at ha
  generalize sl a 73 = u73 at ha
  generalize sl a 74 = u74 at ha
  generalize sl a 75 = u75 at ha
  generalize sl a 76 = u76 at ha
  generalize sl a 77 = u77 at ha
  generalize sl a 78 = u78 at ha
  generalize sl a 79 = u79 at ha
  generalize sl a 80 = u80 at ha
  generalize sl a 81 = u81 at ha
  generalize sl a 82 = u82 at ha
  generalize sl a 83 = u83 at ha
  generalize sl a 84 = u84 at ha
  generalize sl a 85 = u85 at ha
  generalize sl a 86 = u86 at ha
  generalize sl a 87 = u87 at ha
  generalize sl a 88 = u88 at ha
  generalize sl a 89 = u89 at ha
  generalize sl a 90 = u90 at ha
  generalize sl a 91 = u91 at ha
  generalize sl a 92 = u92 at ha
  simp only [Act.put, List.setIfInBounds_toArray, List.set_cons_zero, List.set_cons_succ] at ha
  rw [ha]
  clear ha hI ht
  have K5 : Hid (Below w.heap.size w w5) := bl K4.out hb K4.out.size
  clear hb
  go_wp2
  go_ret
  exact ⟨rfl, K5.out⟩
set_option maxRecDepth 100000 in
set_option maxHeartbeats 8000000 in
theorem PlanChecks_Z (l s n : Int) (d : Nat) (hd : d < 4294967296) (w : World) (hl2 : l ≤ 9223372036854775807) (hT : Tab10 w) (hf : fitS l s = 0) (hz : checkS l s n = 0) :
    Calls Tryd.prog 3 #[.agg #[.int .i64 l, .int .i64 s, .int .i64 n, .int .u32 (d : Int)]] w fun e w' => e = .returned (.bool true) ∧ Below w.heap.size w w' := by
  have HT := Lib.hid hT
  clear hT
  have HC := Lib.hid (fun w => Check_any l s n d w hl2)
  have HRC := Lib.hid (fun w => RCheck_any l s n d w hl2)
  have HTX := Lib.hid (fun w hT => PText_any l s n d hd w hl2 hT)
  have HRT := Lib.hid (fun w hT => RText_any l s n d hd w hl2 hT)
  have HRM := Lib.hid (fun w => PRoom_any l s n d w hl2)
  have HPD := Lib.hid (fun w => PPad_any l s n d w hl2)
  have HO := Lib.hid (fun w => POf_any l s d w hl2)
  obtain ⟨h0, h1, h2, e1⟩ := fit_zero hf
  simp only [e1] at HO
  have hk : checkS l s (needS l s) = 0 := by unfold checkS; rw [if_pos hf, if_pos rfl]
  have HRK := Lib.hid (fun w => RCheck_any l s (needS l s) d w hl2)
  rw [hk] at HRK
  have en : rneedsS l s = needS l s := if_pos h2
  have HN := Lib.hid (fun w => RNeeds_any l s w h0 hl2 h1)
  rw [en] at HN
  rw [hz] at HC HRC
  have er : roomS l s n = n * s := if_pos hz
  have ep : padS l s n = n * s - l := if_pos hz
  rw [er] at HRM
  rw [ep] at HPD
  obtain ⟨-, -, -, -, -, -, g1, g2, g3⟩ := checkS_zero hz
  have hcm : n * s = s * n := Int.mul_comm _ _
  rw [hcm] at HRM HPD g1 g2 g3
  obtain ⟨r, hr⟩ : ∃ r, r = s * n := ⟨_, rfl⟩
  rw [← hr] at HRM HPD g1 g2 g3
  have HR := Lib.hid hr
  clear hr hcm er ep hz
  clear hf e1 hk en h2
  generalize needS l s = m at *
  generalize textS l s n d = tx at *
  go_enter Tryd.func3, Tryd.ntmps3
  go_wp2_with fail
  refine use_wq (fun W => PC4 w.heap.size 24 l s n d W ∧ Below w.heap.size w W) ⟨hnew rfl, al (Below.refl _ _) (Nat.le_refl _)⟩ ?_
  rintro W1 ⟨x0, k1⟩
  refine Calls.mono (awake10 _) ?_
  rintro e w1 ⟨rfl, hb⟩
  have X0 := Lib.hid (x0.keep hb)
  have K1 : Hid (Below w.heap.size w w1) := bl k1 hb k1.size
  clear x0 k1 hb
  obtain ⟨b0, hb0⟩ : ∃ b0, b0 = w.heap.size := ⟨_, rfl⟩
  rw [← hb0] at X0
  have HB0 := Lib.hid hb0
  have HBA : Hid (∀ (W : World) o, Below W.heap.size W (W.alloc o)) := fun W o => al (Below.refl _ _) (Nat.le_refl _)
  obtain ⟨x0, x1, x2, x3⟩ := X0.out.cells
  have y0 := fun o => (X0.out.keep (HBA.out _ o)).cells.1
  have y1 := fun o => (X0.out.keep (HBA.out _ o)).cells.2.1
  have y3 := fun o => (X0.out.keep (HBA.out _ o)).cells.2.2.2
  rw [← hb0]
  clear hb0
  go_wp2_with fail
  refine use_wq (fun W => PC4 b0 24 l s n d W ∧ PC4 w1.heap.size 26 l s n d W ∧ Below w.heap.size w W) ⟨hal X0.out, hnew rfl, al K1.out K1.out.size⟩ ?_
  rintro W2 ⟨z0, z1, k2⟩
  refine (HO.out _).mono ?_
  rintro e w2 ⟨rfl, hb⟩
  have Y0 := Lib.hid (z0.keep hb)
  have Y1 := Lib.hid (z1.keep hb)
  have K2 : Hid (Below w.heap.size w w2) := bl k2 hb k2.size
  clear z0 z1 k2 hb x0 x1 x2 x3 y0 y1 y3 X0 K1
  generalize w1.heap.size = b1 at *
  have p0 := fun o => (Y1.out.keep (HBA.out _ o)).cells.1
  have p1 := fun o => (Y1.out.keep (HBA.out _ o)).cells.2.1
  have p2 := fun o => (Y1.out.keep (HBA.out _ o)).cells.2.2.1
  have p3 := fun o => (Y1.out.keep (HBA.out _ o)).cells.2.2.2
  have q0 := fun o o' => ((Y1.out.keep (HBA.out _ o)).keep (HBA.out _ o')).cells.1
  have q1 := fun o o' => ((Y1.out.keep (HBA.out _ o)).keep (HBA.out _ o')).cells.2.1
  go_wp2_with fail
  refine (HN.out _).mono ?_
  rintro e w' ⟨rfl, rfl⟩
  go_wp2_with fail
  refine use_wq (fun W => PC4 b0 24 l s n d W ∧ PC4 b1 26 l s n d W ∧ PC4 w2.heap.size 24 l s m d W ∧ PC4 (w2.heap.size + 1) 26 l s m d W ∧ Below w.heap.size w W) ⟨hal (hal Y0.out), hal (hal Y1.out), hal (hnew rfl), hnew (by simp), al (al K2.out K2.out.size) (by have := K2.out.size; simp; omega)⟩ ?_
  rintro W3 ⟨z0, z1, z2, z3, k3⟩
  refine Calls.mono (HRK.out _) ?_
  rintro e w3 ⟨rfl, hb⟩
  have Z0 := Lib.hid (z0.keep hb)
  have Z1 := Lib.hid (z1.keep hb)
  have Z2 := Lib.hid (z2.keep hb)
  have Z3 := Lib.hid (z3.keep hb)
  have K3 : Hid (Below w.heap.size w w3) := bl k3 hb k3.size
  have h23 : Hid (w.heap.size ≤ w2.heap.size) := K2.out.size
  have HLA := Y0.out.lt
  have HLB := Y1.out.lt
  clear z0 z1 z2 z3 k3 hb p0 p1 p2 p3 q0 q1 Y0 Y1 K2
  have hd2 : Hid (b0 < w2.heap.size + 1 ∧ b1 < w2.heap.size + 1) := ⟨Nat.lt_succ_of_lt HLA, Nat.lt_succ_of_lt HLB⟩
  clear HLA HLB
  obtain ⟨b2, hb2⟩ : ∃ b2, b2 = w2.heap.size := ⟨_, rfl⟩
  rw [← hb2] at Z2 Z3 hd2 h23 ⊢
  clear hb2
  obtain ⟨y0, y1, y2, y3⟩ := Z1.out.cells
  go_wp2_with fail
  refine use_wq (fun W => PC4 b0 24 l s n d W ∧ PC4 b1 26 l s n d W ∧ PC4 b2 24 l s m d W ∧ PC4 (b2 + 1) 26 l s m d W ∧ Below w.heap.size w W) ⟨Z0.out, Z1.out, Z2.out, Z3.out, K3.out⟩ ?_
  rintro W4 ⟨z0, z1, z2, z3, k4⟩
  refine Calls.mono (HRC.out _) ?_
  rintro e w4 ⟨rfl, hb⟩
  have V0 := Lib.hid (z0.keep hb)
  have V1 := Lib.hid (z1.keep hb)
  have V2 := Lib.hid (z2.keep hb)
  have V3 := Lib.hid (z3.keep hb)
  have K4 : Hid (Below w.heap.size w w4) := bl k4 hb k4.size
  have HT4 := Lib.hid (HT.out.keep K4.out)
  clear z0 z1 z2 z3 k4 hb Z0 Z1 Z2 Z3 K3 y0 y1 y2 y3 
  obtain ⟨b3, hb3⟩ : ∃ b3, b3 = b2 + 1 := ⟨_, rfl⟩
  rw [← hb3] at V3
  try rw [← hb3]
  clear hb3 hd2 h23
  obtain ⟨x0, x1, x2, x3⟩ := V0.out.cells
  obtain ⟨y0, y1, y2, y3⟩ := V1.out.cells
  obtain ⟨u0, u1, u2, u3⟩ := V2.out.cells
  obtain ⟨v0, v1, v2, v3⟩ := V3.out.cells
  go_wp2
  have hr2 := HR.out.symm
  go_quiet (fail)
  go_wp2
  clear hr2
  refine wp_region_shapes (fun ix => ([.val (.agg #[.int .i64 l, .int .i64 s, .int .i64 n, .int .u32 (d : Int)]), .val (.int .i64 0), .val (.agg #[.int .i64 l, .int .i64 s, .int .i64 n, .int .u32 (d : Int)]), .val (.int .i64 0), .val (.bool true), .val (.bool true), .val (.agg #[.int .i64 l, .int .i64 s, .int .i64 n, .int .u32 (d : Int)]), .val (.string (strB tx)), .val (.agg #[.int .i64 l, .int .i64 s, .int .i64 n, .int .u32 (d : Int)]), .val (.string (strB tx)), .val (.bool true), .val (.bool true), .val (.bool true), .val (.agg #[.int .i64 l, .int .i64 s, .int .i64 n, .int .u32 (d : Int)]), .val (.int .i64 r), .val (.int .i64 r), .val (.bool true), .val (.bool true), .val (.bool true), .val (.agg #[.int .i64 l, .int .i64 s, .int .i64 n, .int .u32 (d : Int)]), .val (.int .i64 (r - l)), .val (.int .i64 (r - l)), .val (.bool true), .val (.bool true), .val (.bool true), .val (.agg #[.int .i64 l, .int .i64 s, .int .i64 m, .int .u32 (d : Int)]), .val (.agg #[.int .i64 l, .int .i64 s, .int .i64 m, .int .u32 (d : Int)]), .val (.bool true), .val (.bool true), .val (.bool true), .val (.int .i64 0), .val (.int .i64 0), .val (.bool true), .val (.bool true), .val (.bool true)][ix]?).getD (.any)) 93 rfl (by kernel_rfl) (by decide) (by decide) (by decide) ?_ ?_
  · refine ⟨?_, ?_, ?_, ?_, ?_, ?_, ?_, ?_, ?_, ?_, ?_, ?_, ?_, ?_, ?_, ?_, ?_, ?_, ?_, ?_, ?_, ?_, ?_, ?_, ?_, ?_, ?_, ?_, ?_, ?_, ?_, ?_, ?_, ?_, ?_, trivial⟩
    · intro a W hb0 hs hp hi; have hb := undrew hb0; clear hb0
      have tt : sl a 1 = .pointer (some ⟨b0, 0, none⟩) := hi 1 (by decide)
      have dd0 := (hb.cell (p := ⟨b0, 0, none⟩) (lt_of_cell x0)).trans x0
      have dd1 := (hb.cell (p := ⟨b0, 1, none⟩) (lt_of_cell x1)).trans x1
      have dd2 := (hb.cell (p := ⟨b0, 2, none⟩) (lt_of_cell x2)).trans x2
      have dd3 := (hb.cell (p := ⟨b0, 3, none⟩) (lt_of_cell x3)).trans x3
      refine ite_y rfl (wp_val (.agg #[.int .i64 l, .int .i64 s, .int .i64 n, .int .u32 (d : Int)]) ?_ ?_)
      · simp only [execOp, eval_tmp, tt]; simp [go_sem, dd0, dd1, dd2, dd3]
      · exact ⟨_, rfl, Below.refl _ _, rfl⟩
    · intro a W hb0 hs hp hi; have hb := undrew hb0; clear hb0
      have t59 : sl a 59 = .agg #[.int .i64 l, .int .i64 s, .int .i64 n, .int .u32 (d : Int)] := hp 0 (by decide)
      refine ite_y rfl (wp_enter 10 #[.agg #[.int .i64 l, .int .i64 s, .int .i64 n, .int .u32 (d : Int)]] ?_ (HC.out W) ?_)
      · simp only [execOp, resolve, List.map_toArray, List.map, eval_tmp, eval_func, eval_const, t59]; simp [go_sem]
      · rintro e W' ⟨rfl, hw⟩; exact ⟨_, rfl, _, rfl, hw, rfl⟩
    · intro a W hb0 hs hp hi; have hb := undrew hb0; clear hb0
      have tt : sl a 3 = .pointer (some ⟨b1, 0, none⟩) := hi 3 (by decide)
      have dd0 := (hb.cell (p := ⟨b1, 0, none⟩) (lt_of_cell y0)).trans y0
      have dd1 := (hb.cell (p := ⟨b1, 1, none⟩) (lt_of_cell y1)).trans y1
      have dd2 := (hb.cell (p := ⟨b1, 2, none⟩) (lt_of_cell y2)).trans y2
      have dd3 := (hb.cell (p := ⟨b1, 3, none⟩) (lt_of_cell y3)).trans y3
      refine ite_y rfl (wp_val (.agg #[.int .i64 l, .int .i64 s, .int .i64 n, .int .u32 (d : Int)]) ?_ ?_)
      · simp only [execOp, eval_tmp, tt]; simp [go_sem, dd0, dd1, dd2, dd3]
      · exact ⟨_, rfl, Below.refl _ _, rfl⟩
    · intro a W hb0 hs hp hi; have hb := undrew hb0; clear hb0
      have t61 : sl a 61 = .agg #[.int .i64 l, .int .i64 s, .int .i64 n, .int .u32 (d : Int)] := hp 2 (by decide)
      refine ite_y rfl (wp_enter 9 #[.agg #[.int .i64 l, .int .i64 s, .int .i64 n, .int .u32 (d : Int)]] ?_ (HRC.out W) ?_)
      · simp only [execOp, resolve, List.map_toArray, List.map, eval_tmp, eval_func, eval_const, t61]; simp [go_sem]
      · rintro e W' ⟨rfl, hw⟩; exact ⟨_, rfl, _, rfl, hw, rfl⟩
    · intro a W hb0 hs hp hi; have hb := undrew hb0; clear hb0
      have t60 : sl a 60 = .int .i64 0 := hp 1 (by decide)
      have t62 : sl a 62 = .int .i64 0 := hp 3 (by decide)
      refine ite_y rfl (wp_val (.bool true) ?_ ?_)
      · simp only [execOp, eval_tmp, eval_const, t60, t62]; simp [go_sem]
      · exact ⟨_, rfl, Below.refl _ _, rfl⟩
    · intro a W hb0 hs hp hi; have hb := undrew hb0; clear hb0
      have t63 : sl a 63 = .bool true := hp 4 (by decide)
      exact ite_y rfl (wp_val (sl a 63) rfl ⟨_, rfl, Below.refl _ _, t63⟩)
    · intro a W hb0 hs hp hi; have hb := undrew hb0; clear hb0
      have tg : sl a 64 = .bool true := hp 5 (by decide)
      have tt : sl a 1 = .pointer (some ⟨b0, 0, none⟩) := hi 1 (by decide)
      have dd0 := (hb.cell (p := ⟨b0, 0, none⟩) (lt_of_cell x0)).trans x0
      have dd1 := (hb.cell (p := ⟨b0, 1, none⟩) (lt_of_cell x1)).trans x1
      have dd2 := (hb.cell (p := ⟨b0, 2, none⟩) (lt_of_cell x2)).trans x2
      have dd3 := (hb.cell (p := ⟨b0, 3, none⟩) (lt_of_cell x3)).trans x3
      refine ite_y (wanted_yes rfl rfl (by have hz : a.tmps.size = 93 := hs; rw [hz]; decide) tg) (wp_val (.agg #[.int .i64 l, .int .i64 s, .int .i64 n, .int .u32 (d : Int)]) ?_ ?_)
      · simp only [execOp, eval_tmp, tt]; simp [go_sem, dd0, dd1, dd2, dd3]
      · exact ⟨_, rfl, Below.refl _ _, rfl⟩
    · intro a W hb0 hs hp hi; have hb := undrew hb0; clear hb0
      have tg : sl a 64 = .bool true := hp 5 (by decide)
      have t65 : sl a 65 = .agg #[.int .i64 l, .int .i64 s, .int .i64 n, .int .u32 (d : Int)] := hp 6 (by decide)
      refine ite_y (wanted_yes rfl rfl (by have hz : a.tmps.size = 93 := hs; rw [hz]; decide) tg) (wp_enter 11 #[.agg #[.int .i64 l, .int .i64 s, .int .i64 n, .int .u32 (d : Int)]] ?_ (HTX.out W (HT4.out.keep (bl (bdn (Below.refl _ _)) hb (by simp)))) ?_)
      · simp only [execOp, resolve, List.map_toArray, List.map, eval_tmp, eval_func, eval_const, t65]; simp [go_sem]
      · rintro e W' ⟨rfl, hw⟩; exact ⟨_, rfl, _, rfl, hw, rfl⟩
    · intro a W hb0 hs hp hi; have hb := undrew hb0; clear hb0
      have tg : sl a 64 = .bool true := hp 5 (by decide)
      have tt : sl a 3 = .pointer (some ⟨b1, 0, none⟩) := hi 3 (by decide)
      have dd0 := (hb.cell (p := ⟨b1, 0, none⟩) (lt_of_cell y0)).trans y0
      have dd1 := (hb.cell (p := ⟨b1, 1, none⟩) (lt_of_cell y1)).trans y1
      have dd2 := (hb.cell (p := ⟨b1, 2, none⟩) (lt_of_cell y2)).trans y2
      have dd3 := (hb.cell (p := ⟨b1, 3, none⟩) (lt_of_cell y3)).trans y3
      refine ite_y (wanted_yes rfl rfl (by have hz : a.tmps.size = 93 := hs; rw [hz]; decide) tg) (wp_val (.agg #[.int .i64 l, .int .i64 s, .int .i64 n, .int .u32 (d : Int)]) ?_ ?_)
      · simp only [execOp, eval_tmp, tt]; simp [go_sem, dd0, dd1, dd2, dd3]
      · exact ⟨_, rfl, Below.refl _ _, rfl⟩
    · intro a W hb0 hs hp hi; have hb := undrew hb0; clear hb0
      have tg : sl a 64 = .bool true := hp 5 (by decide)
      have t67 : sl a 67 = .agg #[.int .i64 l, .int .i64 s, .int .i64 n, .int .u32 (d : Int)] := hp 8 (by decide)
      refine ite_y (wanted_yes rfl rfl (by have hz : a.tmps.size = 93 := hs; rw [hz]; decide) tg) (wp_enter 12 #[.agg #[.int .i64 l, .int .i64 s, .int .i64 n, .int .u32 (d : Int)]] ?_ (HRT.out W (HT4.out.keep (bl (bdn (Below.refl _ _)) hb (by simp)))) ?_)
      · simp only [execOp, resolve, List.map_toArray, List.map, eval_tmp, eval_func, eval_const, t67]; simp [go_sem]
      · rintro e W' ⟨rfl, hw⟩; exact ⟨_, rfl, _, rfl, hw, rfl⟩
    · intro a W hb0 hs hp hi; have hb := undrew hb0; clear hb0
      have tg : sl a 64 = .bool true := hp 5 (by decide)
      have t66 : sl a 66 = .string (strB tx) := hp 7 (by decide)
      have t68 : sl a 68 = .string (strB tx) := hp 9 (by decide)
      refine ite_y (wanted_yes rfl rfl (by have hz : a.tmps.size = 93 := hs; rw [hz]; decide) tg) (wp_val (.bool true) ?_ ?_)
      · simp only [execOp, eval_tmp, eval_const, t66, t68]; simp [go_sem]
      · exact ⟨_, rfl, Below.refl _ _, rfl⟩
    · intro a W hb0 hs hp hi; have hb := undrew hb0; clear hb0
      have t64 : sl a 64 = .bool true := hp 5 (by decide)
      have t69 : sl a 69 = .bool true := hp 10 (by decide)
      refine ite_y rfl (wp_val (.bool true) ?_ ?_)
      · simp only [execOp, eval_tmp, eval_const, t64, t69]; simp [go_sem]
      · exact ⟨_, rfl, Below.refl _ _, rfl⟩
    · intro a W hb0 hs hp hi; have hb := undrew hb0; clear hb0
      have t70 : sl a 70 = .bool true := hp 11 (by decide)
      exact ite_y rfl (wp_val (sl a 70) rfl ⟨_, rfl, Below.refl _ _, t70⟩)
    · intro a W hb0 hs hp hi; have hb := undrew hb0; clear hb0
      have tg : sl a 71 = .bool true := hp 12 (by decide)
      have tt : sl a 1 = .pointer (some ⟨b0, 0, none⟩) := hi 1 (by decide)
      have dd0 := (hb.cell (p := ⟨b0, 0, none⟩) (lt_of_cell x0)).trans x0
      have dd1 := (hb.cell (p := ⟨b0, 1, none⟩) (lt_of_cell x1)).trans x1
      have dd2 := (hb.cell (p := ⟨b0, 2, none⟩) (lt_of_cell x2)).trans x2
      have dd3 := (hb.cell (p := ⟨b0, 3, none⟩) (lt_of_cell x3)).trans x3
      refine ite_y (wanted_yes rfl rfl (by have hz : a.tmps.size = 93 := hs; rw [hz]; decide) tg) (wp_val (.agg #[.int .i64 l, .int .i64 s, .int .i64 n, .int .u32 (d : Int)]) ?_ ?_)
      · simp only [execOp, eval_tmp, tt]; simp [go_sem, dd0, dd1, dd2, dd3]
      · exact ⟨_, rfl, Below.refl _ _, rfl⟩
    · intro a W hb0 hs hp hi; have hb := undrew hb0; clear hb0
      have tg : sl a 71 = .bool true := hp 12 (by decide)
      have t72 : sl a 72 = .agg #[.int .i64 l, .int .i64 s, .int .i64 n, .int .u32 (d : Int)] := hp 13 (by decide)
      refine ite_y (wanted_yes rfl rfl (by have hz : a.tmps.size = 93 := hs; rw [hz]; decide) tg) (wp_enter 13 #[.agg #[.int .i64 l, .int .i64 s, .int .i64 n, .int .u32 (d : Int)]] ?_ (HRM.out W) ?_)
      · simp only [execOp, resolve, List.map_toArray, List.map, eval_tmp, eval_func, eval_const, t72]; simp [go_sem]
      · rintro e W' ⟨rfl, hw⟩; exact ⟨_, rfl, _, rfl, hw, rfl⟩
    · intro a W hb0 hs hp hi; have hb := undrew hb0; clear hb0
      have tg : sl a 71 = .bool true := hp 12 (by decide)
      have t8 : sl a 8 = .int .i64 r := hi 8 (by decide)
      exact ite_y (wanted_yes rfl rfl (by have hz : a.tmps.size = 93 := hs; rw [hz]; decide) tg) (wp_val (sl a 8) rfl ⟨_, rfl, Below.refl _ _, t8⟩)
    · intro a W hb0 hs hp hi; have hb := undrew hb0; clear hb0
      have tg : sl a 71 = .bool true := hp 12 (by decide)
      have t73 : sl a 73 = .int .i64 r := hp 14 (by decide)
      have t74 : sl a 74 = .int .i64 r := hp 15 (by decide)
      refine ite_y (wanted_yes rfl rfl (by have hz : a.tmps.size = 93 := hs; rw [hz]; decide) tg) (wp_val (.bool true) ?_ ?_)
      · simp only [execOp, eval_tmp, eval_const, t73, t74]; simp [go_sem]
      · exact ⟨_, rfl, Below.refl _ _, rfl⟩
    · intro a W hb0 hs hp hi; have hb := undrew hb0; clear hb0
      have t71 : sl a 71 = .bool true := hp 12 (by decide)
      have t75 : sl a 75 = .bool true := hp 16 (by decide)
      refine ite_y rfl (wp_val (.bool true) ?_ ?_)
      · simp only [execOp, eval_tmp, eval_const, t71, t75]; simp [go_sem]
      · exact ⟨_, rfl, Below.refl _ _, rfl⟩
    · intro a W hb0 hs hp hi; have hb := undrew hb0; clear hb0
      have t76 : sl a 76 = .bool true := hp 17 (by decide)
      exact ite_y rfl (wp_val (sl a 76) rfl ⟨_, rfl, Below.refl _ _, t76⟩)
    · intro a W hb0 hs hp hi; have hb := undrew hb0; clear hb0
      have tg : sl a 77 = .bool true := hp 18 (by decide)
      have tt : sl a 1 = .pointer (some ⟨b0, 0, none⟩) := hi 1 (by decide)
      have dd0 := (hb.cell (p := ⟨b0, 0, none⟩) (lt_of_cell x0)).trans x0
      have dd1 := (hb.cell (p := ⟨b0, 1, none⟩) (lt_of_cell x1)).trans x1
      have dd2 := (hb.cell (p := ⟨b0, 2, none⟩) (lt_of_cell x2)).trans x2
      have dd3 := (hb.cell (p := ⟨b0, 3, none⟩) (lt_of_cell x3)).trans x3
      refine ite_y (wanted_yes rfl rfl (by have hz : a.tmps.size = 93 := hs; rw [hz]; decide) tg) (wp_val (.agg #[.int .i64 l, .int .i64 s, .int .i64 n, .int .u32 (d : Int)]) ?_ ?_)
      · simp only [execOp, eval_tmp, tt]; simp [go_sem, dd0, dd1, dd2, dd3]
      · exact ⟨_, rfl, Below.refl _ _, rfl⟩
    · intro a W hb0 hs hp hi; have hb := undrew hb0; clear hb0
      have tg : sl a 77 = .bool true := hp 18 (by decide)
      have t78 : sl a 78 = .agg #[.int .i64 l, .int .i64 s, .int .i64 n, .int .u32 (d : Int)] := hp 19 (by decide)
      refine ite_y (wanted_yes rfl rfl (by have hz : a.tmps.size = 93 := hs; rw [hz]; decide) tg) (wp_enter 14 #[.agg #[.int .i64 l, .int .i64 s, .int .i64 n, .int .u32 (d : Int)]] ?_ (HPD.out W) ?_)
      · simp only [execOp, resolve, List.map_toArray, List.map, eval_tmp, eval_func, eval_const, t78]; simp [go_sem]
      · rintro e W' ⟨rfl, hw⟩; exact ⟨_, rfl, _, rfl, hw, rfl⟩
    · intro a W hb0 hs hp hi; have hb := undrew hb0; clear hb0
      have tg : sl a 77 = .bool true := hp 18 (by decide)
      have t9 : sl a 9 = .int .i64 (r - l) := hi 9 (by decide)
      exact ite_y (wanted_yes rfl rfl (by have hz : a.tmps.size = 93 := hs; rw [hz]; decide) tg) (wp_val (sl a 9) rfl ⟨_, rfl, Below.refl _ _, t9⟩)
    · intro a W hb0 hs hp hi; have hb := undrew hb0; clear hb0
      have tg : sl a 77 = .bool true := hp 18 (by decide)
      have t79 : sl a 79 = .int .i64 (r - l) := hp 20 (by decide)
      have t80 : sl a 80 = .int .i64 (r - l) := hp 21 (by decide)
      refine ite_y (wanted_yes rfl rfl (by have hz : a.tmps.size = 93 := hs; rw [hz]; decide) tg) (wp_val (.bool true) ?_ ?_)
      · simp only [execOp, eval_tmp, eval_const, t79, t80]; simp [go_sem]
      · exact ⟨_, rfl, Below.refl _ _, rfl⟩
    · intro a W hb0 hs hp hi; have hb := undrew hb0; clear hb0
      have t77 : sl a 77 = .bool true := hp 18 (by decide)
      have t81 : sl a 81 = .bool true := hp 22 (by decide)
      refine ite_y rfl (wp_val (.bool true) ?_ ?_)
      · simp only [execOp, eval_tmp, eval_const, t77, t81]; simp [go_sem]
      · exact ⟨_, rfl, Below.refl _ _, rfl⟩
    · intro a W hb0 hs hp hi; have hb := undrew hb0; clear hb0
      have t82 : sl a 82 = .bool true := hp 23 (by decide)
      exact ite_y rfl (wp_val (sl a 82) rfl ⟨_, rfl, Below.refl _ _, t82⟩)
    · intro a W hb0 hs hp hi; have hb := undrew hb0; clear hb0
      have tg : sl a 83 = .bool true := hp 24 (by decide)
      have tt : sl a 4 = .pointer (some ⟨b2, 0, none⟩) := hi 4 (by decide)
      have dd0 := (hb.cell (p := ⟨b2, 0, none⟩) (lt_of_cell u0)).trans u0
      have dd1 := (hb.cell (p := ⟨b2, 1, none⟩) (lt_of_cell u1)).trans u1
      have dd2 := (hb.cell (p := ⟨b2, 2, none⟩) (lt_of_cell u2)).trans u2
      have dd3 := (hb.cell (p := ⟨b2, 3, none⟩) (lt_of_cell u3)).trans u3
      refine ite_y (wanted_yes rfl rfl (by have hz : a.tmps.size = 93 := hs; rw [hz]; decide) tg) (wp_val (.agg #[.int .i64 l, .int .i64 s, .int .i64 m, .int .u32 (d : Int)]) ?_ ?_)
      · simp only [execOp, eval_tmp, tt]; simp [go_sem, dd0, dd1, dd2, dd3]
      · exact ⟨_, rfl, Below.refl _ _, rfl⟩
    · intro a W hb0 hs hp hi; have hb := undrew hb0; clear hb0
      have tg : sl a 83 = .bool true := hp 24 (by decide)
      have tt : sl a 6 = .pointer (some ⟨b3, 0, none⟩) := hi 6 (by decide)
      have dd0 := (hb.cell (p := ⟨b3, 0, none⟩) (lt_of_cell v0)).trans v0
      have dd1 := (hb.cell (p := ⟨b3, 1, none⟩) (lt_of_cell v1)).trans v1
      have dd2 := (hb.cell (p := ⟨b3, 2, none⟩) (lt_of_cell v2)).trans v2
      have dd3 := (hb.cell (p := ⟨b3, 3, none⟩) (lt_of_cell v3)).trans v3
      refine ite_y (wanted_yes rfl rfl (by have hz : a.tmps.size = 93 := hs; rw [hz]; decide) tg) (wp_val (.agg #[.int .i64 l, .int .i64 s, .int .i64 m, .int .u32 (d : Int)]) ?_ ?_)
      · simp only [execOp, eval_tmp, tt]; simp [go_sem, dd0, dd1, dd2, dd3]
      · exact ⟨_, rfl, Below.refl _ _, rfl⟩
    · intro a W hb0 hs hp hi; have hb := undrew hb0; clear hb0
      have tg : sl a 83 = .bool true := hp 24 (by decide)
      have t84 : sl a 84 = .agg #[.int .i64 l, .int .i64 s, .int .i64 m, .int .u32 (d : Int)] := hp 25 (by decide)
      have t85 : sl a 85 = .agg #[.int .i64 l, .int .i64 s, .int .i64 m, .int .u32 (d : Int)] := hp 26 (by decide)
      refine ite_y (wanted_yes rfl rfl (by have hz : a.tmps.size = 93 := hs; rw [hz]; decide) tg) (wp_val (.bool true) ?_ ?_)
      · simp only [execOp, eval_tmp, eval_const, t84, t85]; simp [go_sem, Tryd.underlying26, Tryd.underlying3, Tryd.underlying22]
      · exact ⟨_, rfl, Below.refl _ _, rfl⟩
    · intro a W hb0 hs hp hi; have hb := undrew hb0; clear hb0
      have t83 : sl a 83 = .bool true := hp 24 (by decide)
      have t86 : sl a 86 = .bool true := hp 27 (by decide)
      refine ite_y rfl (wp_val (.bool true) ?_ ?_)
      · simp only [execOp, eval_tmp, eval_const, t83, t86]; simp [go_sem]
      · exact ⟨_, rfl, Below.refl _ _, rfl⟩
    · intro a W hb0 hs hp hi; have hb := undrew hb0; clear hb0
      have t87 : sl a 87 = .bool true := hp 28 (by decide)
      exact ite_y rfl (wp_val (sl a 87) rfl ⟨_, rfl, Below.refl _ _, t87⟩)
    · intro a W hb0 hs hp hi; have hb := undrew hb0; clear hb0
      have tg : sl a 88 = .bool true := hp 29 (by decide)
      have t5 : sl a 5 = .int .i64 0 := hi 5 (by decide)
      exact ite_y (wanted_yes rfl rfl (by have hz : a.tmps.size = 93 := hs; rw [hz]; decide) tg) (wp_val (sl a 5) rfl ⟨_, rfl, Below.refl _ _, t5⟩)
    · intro a W hb0 hs hp hi; have hb := undrew hb0; clear hb0
      have tg : sl a 88 = .bool true := hp 29 (by decide)
      have t7 : sl a 7 = .int .i64 0 := hi 7 (by decide)
      exact ite_y (wanted_yes rfl rfl (by have hz : a.tmps.size = 93 := hs; rw [hz]; decide) tg) (wp_val (sl a 7) rfl ⟨_, rfl, Below.refl _ _, t7⟩)
    · intro a W hb0 hs hp hi; have hb := undrew hb0; clear hb0
      have tg : sl a 88 = .bool true := hp 29 (by decide)
      have t89 : sl a 89 = .int .i64 0 := hp 30 (by decide)
      have t90 : sl a 90 = .int .i64 0 := hp 31 (by decide)
      refine ite_y (wanted_yes rfl rfl (by have hz : a.tmps.size = 93 := hs; rw [hz]; decide) tg) (wp_val (.bool true) ?_ ?_)
      · simp only [execOp, eval_tmp, eval_const, t89, t90]; simp [go_sem]
      · exact ⟨_, rfl, Below.refl _ _, rfl⟩
    · intro a W hb0 hs hp hi; have hb := undrew hb0; clear hb0
      have t88 : sl a 88 = .bool true := hp 29 (by decide)
      have t91 : sl a 91 = .bool true := hp 32 (by decide)
      refine ite_y rfl (wp_val (.bool true) ?_ ?_)
      · simp only [execOp, eval_tmp, eval_const, t88, t91]; simp [go_sem]
      · exact ⟨_, rfl, Below.refl _ _, rfl⟩
    · intro a W hb0 hs hp hi; have hb := undrew hb0; clear hb0
      have t92 : sl a 92 = .bool true := hp 33 (by decide)
      exact ite_y rfl (wp_val (sl a 92) rfl ⟨_, rfl, Below.refl _ _, t92⟩)
  intro a w5 hb hs hd hI ht
  have ha := act_is [59, 60, 61, 62, 63, 64, 65, 66, 67, 68, 69, 70, 71, 72, 73, 74, 75, 76, 77, 78, 79, 80, 81, 82, 83, 84, 85, 86, 87, 88, 89, 90, 91, 92, 2] hs hd ht (by decide)
  have t2 : sl a 2 = .bool true := hI 34 (by decide)
  simp only [List.foldl, t2] at ha
  generalize sl a 59 = u59 at ha
  generalize sl a 60 = u60 at ha
  generalize sl a 61 = u61 at ha
  generalize sl a 62 = u62 at ha
  generalize sl a 63 = u63 at ha
  generalize sl a 64 = u64 at ha
  generalize sl a 65 = u65 at ha
  generalize sl a 66 = u66 at ha
  generalize sl a 67 = u67 at ha
  generalize sl a 68 = u68 at ha
  generalize sl a 69 = u69 at ha
  generalize sl a 70 = u70 at ha
  generalize sl a 71 = u71 at ha
  generalize sl a 72 = u72 at ha
  generalize sl a 73 = u73 at ha
  generalize sl a 74 = u74 at ha
  generalize sl a 75 = u75 at ha
  generalize sl a 76 = u76 at ha
  generalize sl a 77 = u77 at ha
  generalize sl a 78 = u78 at ha
  generalize sl a 79 = u79 at ha
  generalize sl a 80 = u80 at ha
  generalize sl a 81 = u81 at ha
  generalize sl a 82 = u82 at ha
  generalize sl a 83 = u83 at ha
  generalize sl a 84 = u84 at ha
  generalize sl a 85 = u85 at ha
  generalize sl a 86 = u86 at ha
  generalize sl a 87 = u87 at ha
  generalize sl a 88 = u88 at ha
  generalize sl a 89 = u89 at ha
  generalize sl a 90 = u90 at ha
  generalize sl a 91 = u91 at ha
  generalize sl a 92 = u92 at ha
  simp only [Act.put, List.setIfInBounds_toArray, List.set_cons_zero, List.set_cons_succ] at ha
  rw [ha]
  clear ha hI ht
  have K5 : Hid (Below w.heap.size w w5) := bl (bdn K4.out) hb (by have := K4.out.size; simpa using this)
  clear hb
  go_wp2
  go_ret
  exact ⟨rfl, K5.out⟩
theorem PlanChecks_any (l s n d : Int) (w : World) (w0 : (Lit.int .i64 l).wf = true) (_w1 : (Lit.int .i64 s).wf = true) (_w2 : (Lit.int .i64 n).wf = true) (w3 : (Lit.int .u32 d).wf = true) (hT : Tab10 w) :
    Calls Tryd.prog 3 #[.agg #[.int .i64 l, .int .i64 s, .int .i64 n, .int .u32 d]] w fun e w' => e = .returned (.bool true) ∧ Below w.heap.size w w' := by
  have hl2 := (Go.bounds_i64 w0).2
  have hd := Go.bounds_u32 w3
  obtain ⟨D, rfl⟩ := Int.eq_ofNat_of_zero_le hd.1
  have hD : D < 4294967296 := by have := hd.2; omega
  by_cases hf : fitS l s = 0
  · by_cases hz : checkS l s n = 0
    · exact PlanChecks_Z l s n D hD w hl2 hT hf hz
    · exact PlanChecks_N l s n D hD w hl2 hT hf hz
  · by_cases h0 : 0 ≤ l
    · by_cases h1 : 1 ≤ s
      · exact PlanChecks_B l s n D hD w hl2 hT hf h0 h1
      · exact PlanChecks_A2 l s n D hD w hl2 hT hf h0 h1
    · exact PlanChecks_A1 l s n D hD w hl2 hT hf h0
end Go.Proofs.YtnlfohbmdmeodaaDoor
