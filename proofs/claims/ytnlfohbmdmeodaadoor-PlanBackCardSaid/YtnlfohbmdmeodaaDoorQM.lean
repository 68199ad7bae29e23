/- The walk of the law PlanBack. -/
import Derived.Test.YtnlfohbmdmeodaaDoorQN
import Derived.Test.YtnlfohbmdmeodaaDoorQJ
import Derived.OpenShut
namespace Go.By
open Go.RowKit
theorem objW_no : ∀ b ∈ objW, b ≠ (32 : UInt8) := by decide
/-- a plan's text says the plan -/
theorem parse_text {d l s n : Nat} (hd : d ≤ 4294967295) (hl : l ≤ 2147483647) (hs : s ≤ 2147483647) (hn : n ≤ 2147483647) : parseO (textW d l s n) = some [d, l, s, n] := by
  have e : spl 32 5 (textW d l s n) = [objW, Lib.decDigits d, Lib.decDigits l, Lib.decDigits s, Lib.decDigits n] := by
    rw [textW_eq]
    show spl 32 5 (objW ++ 32 :: (Lib.decDigits d ++ 32 :: (Lib.decDigits l ++ 32 :: (Lib.decDigits s ++ 32 :: Lib.decDigits n)))) = _
    rw [spl_cut, cutW_app objW_no]
    show objW :: spl 32 4 (Lib.decDigits d ++ 32 :: (Lib.decDigits l ++ 32 :: (Lib.decDigits s ++ 32 :: Lib.decDigits n))) = _
    rw [spl_cut, cutW_app (dec_no_blank d)]
    show objW :: Lib.decDigits d :: spl 32 3 (Lib.decDigits l ++ 32 :: (Lib.decDigits s ++ 32 :: Lib.decDigits n)) = _
    rw [spl_cut, cutW_app (dec_no_blank l)]
    show objW :: Lib.decDigits d :: Lib.decDigits l :: spl 32 2 (Lib.decDigits s ++ 32 :: Lib.decDigits n) = _
    rw [spl_cut, cutW_app (dec_no_blank s)]
    show objW :: Lib.decDigits d :: Lib.decDigits l :: Lib.decDigits s :: spl 32 1 (Lib.decDigits n) = _
    rw [spl_cut, cutW_all (dec_no_blank n)]
    rfl
  unfold parseO
  rw [e]
  show (if objW = objW then numsO [Lib.decDigits d, Lib.decDigits l, Lib.decDigits s, Lib.decDigits n] [4294967295, 2147483647, 2147483647, 2147483647] else none) = _
  rw [if_pos rfl]
  simp [numsO, numB_dec hd, numB_dec hl, numB_dec hs, numB_dec hn]
end Go.By
namespace Go.Proofs.YtnlfohbmdmeodaaDoor
open Go.RowKit Go.By
set_option maxRecDepth 100000 in
set_option maxHeartbeats 8000000 in
theorem PlanBack_bad (l s : Int) (d : Nat) (w : World) (hl2 : l ≤ 9223372036854775807) (hT : Tab10 w) (hf : fitS l s ≠ 0) :
    Calls Tryd.prog 5 #[.int .i64 l, .int .i64 s, .int .u32 (d : Int)] w fun e w' => e = .returned (.bool true) ∧ Below w.heap.size w w' := by
  have HO : Hid (∀ W, Calls Tryd.prog 7 #[.int .i64 l, .int .i64 s, .int .u32 (d : Int)] W fun e w' => e = .returned (.tuple #[.agg #[.int .i64 0, .int .i64 0, .int .i64 0, .int .u32 0], .int .i64 (fitS l s)]) ∧ Below W.heap.size W w') := fun W => by
    have := POf_any l s d W hl2
    rwa [show ofS l s d = .tuple #[.agg #[.int .i64 0, .int .i64 0, .int .i64 0, .int .u32 0], .int .i64 (fitS l s)] from if_neg hf] at this
  have HTX : Hid (∀ W, Tab10 W → Calls Tryd.prog 11 #[.agg #[.int .i64 0, .int .i64 0, .int .i64 0, .int .u32 0]] W fun e w' => e = .returned (.string ⟨#[]⟩) ∧ Below W.heap.size W w') := fun W h => PText_any 0 0 0 0 (by omega) W (by omega) h
  have hfb : (fitS l s != 0) = true := by simpa using hf
  have HT := Lib.hid hT
  clear hf hT hl2
  generalize fitS l s = f at *
  go_enter Tryd.func5, Tryd.ntmps5
  go_wp2_with fail
  refine Calls.mono (awake10 _) ?_
  rintro e w1 ⟨rfl, hb⟩
  have B1 := Lib.hid hb; clear hb
  go_wp2_with fail
  refine Calls.mono (HO.out _) ?_
  rintro e w2 ⟨rfl, hb⟩
  have B2 : Hid (Below w.heap.size w w2) := bl B1.out hb B1.out.size
  clear hb
  go_wp2_with fail
  refine use_wq (fun W => Below w.heap.size w W) (al B2.out B2.out.size) ?_
  rintro W3 k3
  refine Calls.mono (HTX.out _ (HT.out.keep k3)) ?_
  rintro e w3 ⟨rfl, hb⟩
  have B3 : Hid (Below w.heap.size w w3) := bl k3 hb k3.size
  clear hb k3
  go_wp2
  go_ret
  exact ⟨rfl, B3.out⟩
set_option maxRecDepth 100000 in
set_option maxHeartbeats 8000000 in
theorem PlanBack_good (l s m d r : Nat) (w : World) (hd : d < 4294967296) (hf : fitS l s = 0) (hm : (m : Int) = needS l s) (hr : r = m * s) (hT : Tab10 w) (hE : ErrI w) (hM : MaxI w) :
    Calls Tryd.prog 5 #[.int .i64 (l : Int), .int .i64 (s : Int), .int .u32 (d : Int)] w fun e w' => e = .returned (.bool true) ∧ Below w.heap.size w w' := by
  have hk : checkS l s m = 0 := by unfold checkS; rw [if_pos hf, if_pos hm]
  obtain ⟨h0, h1, h2, -, h4, h5, h6, h7, h8⟩ := checkS_zero hk
  have hri : (m : Int) * (s : Int) = (r : Int) := by rw [hr]; simp
  rw [hri] at h6 h7 h8
  have hl2 : (l : Int) ≤ 9223372036854775807 := by omega
  have HO : Hid (∀ W, Calls Tryd.prog 7 #[.int .i64 (l : Int), .int .i64 (s : Int), .int .u32 (d : Int)] W fun e w' => e = .returned (.tuple #[.agg #[.int .i64 l, .int .i64 s, .int .i64 m, .int .u32 d], .int .i64 0]) ∧ Below W.heap.size W w') := fun W => by
    have := POf_any l s d W hl2
    rwa [show ofS l s d = .tuple #[.agg #[.int .i64 l, .int .i64 s, .int .i64 m, .int .u32 d], .int .i64 0] by rw [hm]; exact if_pos hf] at this
  have HTX : Hid (∀ W, Tab10 W → Calls Tryd.prog 11 #[.agg #[.int .i64 l, .int .i64 s, .int .i64 m, .int .u32 d]] W fun e w' => e = .returned (.string (strB (textW d l s m))) ∧ Below W.heap.size W w') := fun W h => by
    have := PText_any l s m d hd W hl2 h
    rwa [show textS l s m d = textW d l s m from if_pos hk] at this
  have HPA : Hid (∀ W, MaxI W → ErrI W → Calls Tryd.prog 15 #[.string (strB (textW d l s m))] W fun e w' => e = .returned (.tuple #[.agg #[.int .i64 l, .int .i64 s, .int .i64 m, .int .u32 d], .int .i64 0]) ∧ Below W.heap.size W w') := fun W a b => by
    have := PParse_any (textW d l s m) W (Nat.le_trans (textW_len (by omega) (by omega) (by omega) (by omega)) (by decide)) a b
    rwa [parseV_good (parse_text (by omega) (by omega) (by omega) (by omega)) hk] at this
  have HC : Hid (∀ W, Calls Tryd.prog 10 #[.agg #[.int .i64 l, .int .i64 s, .int .i64 m, .int .u32 d]] W fun e w' => e = .returned (.int .i64 0) ∧ Below W.heap.size W w') := fun W => by
    have := Check_any l s m d W hl2
    rwa [hk] at this
  have HRM : Hid (∀ W, Calls Tryd.prog 13 #[.agg #[.int .i64 l, .int .i64 s, .int .i64 m, .int .u32 d]] W fun e w' => e = .returned (.int .i64 r) ∧ Below W.heap.size W w') := fun W => by
    have := PRoom_any l s m d W hl2
    rwa [show roomS l s m = (r : Int) by rw [← hri]; exact if_pos hk] at this
  obtain ⟨p, hp⟩ : ∃ p : Nat, (p : Int) = (r : Int) - l := ⟨((r : Int) - l).toNat, by omega⟩
  have HPD : Hid (∀ W, Calls Tryd.prog 14 #[.agg #[.int .i64 l, .int .i64 s, .int .i64 m, .int .u32 d]] W fun e w' => e = .returned (.int .i64 p) ∧ Below W.heap.size W w') := fun W => by
    have := PPad_any l s m d W hl2
    rwa [show padS l s m = (p : Int) by rw [hp, ← hri]; exact if_pos hk] at this
  have hlp : (l : Int) + (p : Int) = (r : Int) := by omega
  have hend : ((l : Int) = 0 ∧ (p : Int) = s) ∨ ((l : Int) ≠ 0 ∧ (p : Int) < s ∧ ((m : Int) - 1) * s < l) := by
    by_cases hz : (l : Int) = 0
    · left
      have e1 : (m : Int) = 1 := by rw [hm, hz]; rfl
      rw [e1, Int.one_mul] at hri
      exact ⟨hz, by omega⟩
    · right
      have h := (needS_spec (l := l) (s := s) (by omega) h1).1
      rw [← hm] at h
      have e2 : ((m : Int) - 1) * s = m * s - s := by rw [Int.sub_mul, Int.one_mul]
      exact ⟨hz, by omega, h⟩
  have hbnd : (0 : Int) ≤ ((m : Int) - 1) * s ∧ ((m : Int) - 1) * s ≤ 268431360 := by
    have e2 : ((m : Int) - 1) * s = m * s - s := by rw [Int.sub_mul, Int.one_mul]
    have e3 : (0 : Int) ≤ ((m : Int) - 1) * s := Int.mul_nonneg (by omega) (by omega)
    omega
  have HT := Lib.hid hT; have HE := Lib.hid hE; have HM := Lib.hid hM
  generalize strB (textW d l s m) = tx at *
  have hlr : (r : Int) ≤ 268431360 := h8
  have hm5 : (m : Int) ≤ 4096 := h5
  clear hT hE hM hk hf hm hr h0 h1 h2 h5 h6 h7 h8 hri hp
  go_enter Tryd.func5, Tryd.ntmps5
  go_wp2_with fail
  refine Calls.mono (awake10 _) ?_
  rintro e w1 ⟨rfl, hb⟩
  have B1 := Lib.hid hb; clear hb
  go_wp2_with fail
  refine Calls.mono (HO.out _) ?_
  rintro e w2 ⟨rfl, hb⟩
  have B2 : Hid (Below w.heap.size w w2) := bl B1.out hb B1.out.size
  clear hb
  go_wp2_with fail
  refine use_wq (fun W => PC4 w2.heap.size 24 l s m d W ∧ Below w.heap.size w W) ⟨hnew rfl, al B2.out B2.out.size⟩ ?_
  rintro W3 ⟨x3, k3⟩
  refine Calls.mono (HTX.out _ (HT.out.keep k3)) ?_
  rintro e w3 ⟨rfl, hb⟩
  have X3 := Lib.hid (x3.keep hb)
  have B3 : Hid (Below w.heap.size w w3) := bl k3 hb k3.size
  clear hb k3 x3
  generalize w2.heap.size = b1 at *
  go_wp2_with fail
  refine Calls.mono (HPA.out _ (HM.out.keep B3.out) (HE.out.keep B3.out)) ?_
  rintro e w4 ⟨rfl, hb⟩
  have X4 := Lib.hid (X3.out.keep hb)
  have B4 : Hid (Below w.heap.size w w4) := bl B3.out hb B3.out.size
  clear hb X3 B3
  obtain ⟨W5, hW5⟩ : ∃ W5, W5 = w4.alloc (.cells #[.int .i64 l, .int .i64 s, .int .i64 m, .int .u32 d] 24) := ⟨_, rfl⟩
  have X5 : Hid (PC4 b1 24 l s m d W5) := by rw [hW5]; exact hal X4.out
  have Y5 : Hid (PC4 w4.heap.size 24 l s m d W5) := by rw [hW5]; exact hnew rfl
  have B5 : Hid (Below w.heap.size w W5) := by rw [hW5]; exact al B4.out B4.out.size
  go_wp2
  rw [← hW5]
  generalize w4.heap.size = b2 at *
  clear hW5 X4 B4
  obtain ⟨x0, x1, x2, x3⟩ := X5.out.cells
  obtain ⟨y0, y1, y2, y3⟩ := Y5.out.cells
  refine wp_region_shapes (fun ix => ([.val (.agg #[.int .i64 (l : Nat), .int .i64 (s : Nat), .int .i64 (m : Nat), .int .u32 (d : Nat)]), .val (.int .i64 0), .val (.bool false), .val (.bool false), .val (.int .i64 0), .val (.bool false), .val (.bool false), .val (.bool false), .val (.agg #[.int .i64 (l : Nat), .int .i64 (s : Nat), .int .i64 (m : Nat), .int .u32 (d : Nat)]), .val (.agg #[.int .i64 (l : Nat), .int .i64 (s : Nat), .int .i64 (m : Nat), .int .u32 (d : Nat)]), .val (.bool false), .val (.bool false), .val (.bool false), .val (.agg #[.int .i64 (l : Nat), .int .i64 (s : Nat), .int .i64 (m : Nat), .int .u32 (d : Nat)]), .val (.int .i64 (r : Nat)), .val (.int .i64 (l : Nat)), .val (.agg #[.int .i64 (l : Nat), .int .i64 (s : Nat), .int .i64 (m : Nat), .int .u32 (d : Nat)]), .val (.int .i64 (p : Nat)), .val (.int .i64 (r : Nat)), .val (.bool false), .val (.bool false)][ix]?).getD (.any)) 85 rfl (by kernel_rfl) (by decide) (by decide) (by decide) ?_ ?_
  · refine ⟨?_, ?_, ?_, ?_, ?_, ?_, ?_, ?_, ?_, ?_, ?_, ?_, ?_, ?_, ?_, ?_, ?_, ?_, ?_, ?_, ?_, trivial⟩
    · intro a W hb0 hs hp hi; have hb := undrew hb0; clear hb0
      have tt : sl a 7 = .pointer (some ⟨b1, 0, none⟩) := hi 7 (by decide)
      have dd0 := (hb.cell (p := ⟨b1, 0, none⟩) (lt_of_cell x0)).trans x0
      have dd1 := (hb.cell (p := ⟨b1, 1, none⟩) (lt_of_cell x1)).trans x1
      have dd2 := (hb.cell (p := ⟨b1, 2, none⟩) (lt_of_cell x2)).trans x2
      have dd3 := (hb.cell (p := ⟨b1, 3, none⟩) (lt_of_cell x3)).trans x3
      refine ite_y rfl (wp_val (.agg #[.int .i64 (l : Nat), .int .i64 (s : Nat), .int .i64 (m : Nat), .int .u32 (d : Nat)]) ?_ ?_)
      · simp only [execOp, eval_tmp, tt]; simp [go_sem, dd0, dd1, dd2, dd3]
      · exact ⟨_, rfl, Below.refl _ _, rfl⟩
    · intro a W hb0 hs hp hi; have hb := undrew hb0; clear hb0
      have t36 : sl a 36 = .agg #[.int .i64 (l : Nat), .int .i64 (s : Nat), .int .i64 (m : Nat), .int .u32 (d : Nat)] := hp 0 (by decide)
      refine ite_y rfl (wp_enter 10 #[.agg #[.int .i64 (l : Nat), .int .i64 (s : Nat), .int .i64 (m : Nat), .int .u32 (d : Nat)]] ?_ (HC.out W) ?_)
      · simp only [execOp, resolve, List.map_toArray, List.map, eval_tmp, eval_func, eval_const, t36]; simp [go_sem]
      · rintro e W' ⟨rfl, hw⟩; exact ⟨_, rfl, _, rfl, hw, rfl⟩
    · intro a W hb0 hs hp hi; have hb := undrew hb0; clear hb0
      have t37 : sl a 37 = .int .i64 0 := hp 1 (by decide)
      refine ite_y rfl (wp_val (.bool false) ?_ ?_)
      · simp only [execOp, eval_tmp, eval_const, t37]; simp [go_sem]
      · exact ⟨_, rfl, Below.refl _ _, rfl⟩
    · intro a W hb0 hs hp hi; have hb := undrew hb0; clear hb0
      have t38 : sl a 38 = .bool false := hp 2 (by decide)
      exact ite_y rfl (wp_val (sl a 38) rfl ⟨_, rfl, Below.refl _ _, t38⟩)
    · intro a W hb0 hs hp hi; have hb := undrew hb0; clear hb0
      have tg : sl a 39 = .bool false := hp 3 (by decide)
      have t10 : sl a 10 = .int .i64 0 := hi 10 (by decide)
      exact ite_y (wanted_yes rfl rfl (by have hz : a.tmps.size = 85 := hs; rw [hz]; decide) tg) (wp_val (sl a 10) rfl ⟨_, rfl, Below.refl _ _, t10⟩)
    · intro a W hb0 hs hp hi; have hb := undrew hb0; clear hb0
      have tg : sl a 39 = .bool false := hp 3 (by decide)
      have t40 : sl a 40 = .int .i64 0 := hp 4 (by decide)
      refine ite_y (wanted_yes rfl rfl (by have hz : a.tmps.size = 85 := hs; rw [hz]; decide) tg) (wp_val (.bool false) ?_ ?_)
      · simp only [execOp, eval_tmp, eval_const, t40]; simp [go_sem]
      · exact ⟨_, rfl, Below.refl _ _, rfl⟩
    · intro a W hb0 hs hp hi; have hb := undrew hb0; clear hb0
      have t39 : sl a 39 = .bool false := hp 3 (by decide)
      have t41 : sl a 41 = .bool false := hp 5 (by decide)
      refine ite_y rfl (wp_val (.bool false) ?_ ?_)
      · simp only [execOp, eval_tmp, eval_const, t39, t41]; simp [go_sem]
      · exact ⟨_, rfl, Below.refl _ _, rfl⟩
    · intro a W hb0 hs hp hi; have hb := undrew hb0; clear hb0
      have t42 : sl a 42 = .bool false := hp 6 (by decide)
      exact ite_y rfl (wp_val (sl a 42) rfl ⟨_, rfl, Below.refl _ _, t42⟩)
    · intro a W hb0 hs hp hi; have hb := undrew hb0; clear hb0
      have tg : sl a 43 = .bool false := hp 7 (by decide)
      have tt : sl a 9 = .pointer (some ⟨b2, 0, none⟩) := hi 9 (by decide)
      have dd0 := (hb.cell (p := ⟨b2, 0, none⟩) (lt_of_cell y0)).trans y0
      have dd1 := (hb.cell (p := ⟨b2, 1, none⟩) (lt_of_cell y1)).trans y1
      have dd2 := (hb.cell (p := ⟨b2, 2, none⟩) (lt_of_cell y2)).trans y2
      have dd3 := (hb.cell (p := ⟨b2, 3, none⟩) (lt_of_cell y3)).trans y3
      refine ite_y (wanted_yes rfl rfl (by have hz : a.tmps.size = 85 := hs; rw [hz]; decide) tg) (wp_val (.agg #[.int .i64 (l : Nat), .int .i64 (s : Nat), .int .i64 (m : Nat), .int .u32 (d : Nat)]) ?_ ?_)
      · simp only [execOp, eval_tmp, tt]; simp [go_sem, dd0, dd1, dd2, dd3]
      · exact ⟨_, rfl, Below.refl _ _, rfl⟩
    · intro a W hb0 hs hp hi; have hb := undrew hb0; clear hb0
      have tg : sl a 43 = .bool false := hp 7 (by decide)
      have tt : sl a 7 = .pointer (some ⟨b1, 0, none⟩) := hi 7 (by decide)
      have dd0 := (hb.cell (p := ⟨b1, 0, none⟩) (lt_of_cell x0)).trans x0
      have dd1 := (hb.cell (p := ⟨b1, 1, none⟩) (lt_of_cell x1)).trans x1
      have dd2 := (hb.cell (p := ⟨b1, 2, none⟩) (lt_of_cell x2)).trans x2
      have dd3 := (hb.cell (p := ⟨b1, 3, none⟩) (lt_of_cell x3)).trans x3
      refine ite_y (wanted_yes rfl rfl (by have hz : a.tmps.size = 85 := hs; rw [hz]; decide) tg) (wp_val (.agg #[.int .i64 (l : Nat), .int .i64 (s : Nat), .int .i64 (m : Nat), .int .u32 (d : Nat)]) ?_ ?_)
      · simp only [execOp, eval_tmp, tt]; simp [go_sem, dd0, dd1, dd2, dd3]
      · exact ⟨_, rfl, Below.refl _ _, rfl⟩
    · intro a W hb0 hs hp hi; have hb := undrew hb0; clear hb0
      have tg : sl a 43 = .bool false := hp 7 (by decide)
      have t44 : sl a 44 = .agg #[.int .i64 (l : Nat), .int .i64 (s : Nat), .int .i64 (m : Nat), .int .u32 (d : Nat)] := hp 8 (by decide)
      have t45 : sl a 45 = .agg #[.int .i64 (l : Nat), .int .i64 (s : Nat), .int .i64 (m : Nat), .int .u32 (d : Nat)] := hp 9 (by decide)
      refine ite_y (wanted_yes rfl rfl (by have hz : a.tmps.size = 85 := hs; rw [hz]; decide) tg) (wp_val (.bool false) ?_ ?_)
      · simp only [execOp, eval_tmp, eval_const, t44, t45]; simp [go_sem, Tryd.underlying24, Tryd.underlying3, Tryd.underlying22]
      · exact ⟨_, rfl, Below.refl _ _, rfl⟩
    · intro a W hb0 hs hp hi; have hb := undrew hb0; clear hb0
      have t43 : sl a 43 = .bool false := hp 7 (by decide)
      have t46 : sl a 46 = .bool false := hp 10 (by decide)
      refine ite_y rfl (wp_val (.bool false) ?_ ?_)
      · simp only [execOp, eval_tmp, eval_const, t43, t46]; simp [go_sem]
      · exact ⟨_, rfl, Below.refl _ _, rfl⟩
    · intro a W hb0 hs hp hi; have hb := undrew hb0; clear hb0
      have t47 : sl a 47 = .bool false := hp 11 (by decide)
      exact ite_y rfl (wp_val (sl a 47) rfl ⟨_, rfl, Below.refl _ _, t47⟩)
    · intro a W hb0 hs hp hi; have hb := undrew hb0; clear hb0
      have tg : sl a 48 = .bool false := hp 12 (by decide)
      have tt : sl a 7 = .pointer (some ⟨b1, 0, none⟩) := hi 7 (by decide)
      have dd0 := (hb.cell (p := ⟨b1, 0, none⟩) (lt_of_cell x0)).trans x0
      have dd1 := (hb.cell (p := ⟨b1, 1, none⟩) (lt_of_cell x1)).trans x1
      have dd2 := (hb.cell (p := ⟨b1, 2, none⟩) (lt_of_cell x2)).trans x2
      have dd3 := (hb.cell (p := ⟨b1, 3, none⟩) (lt_of_cell x3)).trans x3
      refine ite_y (wanted_yes rfl rfl (by have hz : a.tmps.size = 85 := hs; rw [hz]; decide) tg) (wp_val (.agg #[.int .i64 (l : Nat), .int .i64 (s : Nat), .int .i64 (m : Nat), .int .u32 (d : Nat)]) ?_ ?_)
      · simp only [execOp, eval_tmp, tt]; simp [go_sem, dd0, dd1, dd2, dd3]
      · exact ⟨_, rfl, Below.refl _ _, rfl⟩
    · intro a W hb0 hs hp hi; have hb := undrew hb0; clear hb0
      have tg : sl a 48 = .bool false := hp 12 (by decide)
      have t49 : sl a 49 = .agg #[.int .i64 (l : Nat), .int .i64 (s : Nat), .int .i64 (m : Nat), .int .u32 (d : Nat)] := hp 13 (by decide)
      refine ite_y (wanted_yes rfl rfl (by have hz : a.tmps.size = 85 := hs; rw [hz]; decide) tg) (wp_enter 13 #[.agg #[.int .i64 (l : Nat), .int .i64 (s : Nat), .int .i64 (m : Nat), .int .u32 (d : Nat)]] ?_ (HRM.out W) ?_)
      · simp only [execOp, resolve, List.map_toArray, List.map, eval_tmp, eval_func, eval_const, t49]; simp [go_sem]
      · rintro e W' ⟨rfl, hw⟩; exact ⟨_, rfl, _, rfl, hw, rfl⟩
    · intro a W hb0 hs hp hi; have hb := undrew hb0; clear hb0
      have tg : sl a 48 = .bool false := hp 12 (by decide)
      have t0 : sl a 0 = .int .i64 (l : Nat) := hi 0 (by decide)
      exact ite_y (wanted_yes rfl rfl (by have hz : a.tmps.size = 85 := hs; rw [hz]; decide) tg) (wp_val (sl a 0) rfl ⟨_, rfl, Below.refl _ _, t0⟩)
    · intro a W hb0 hs hp hi; have hb := undrew hb0; clear hb0
      have tg : sl a 48 = .bool false := hp 12 (by decide)
      have tt : sl a 7 = .pointer (some ⟨b1, 0, none⟩) := hi 7 (by decide)
      have dd0 := (hb.cell (p := ⟨b1, 0, none⟩) (lt_of_cell x0)).trans x0
      have dd1 := (hb.cell (p := ⟨b1, 1, none⟩) (lt_of_cell x1)).trans x1
      have dd2 := (hb.cell (p := ⟨b1, 2, none⟩) (lt_of_cell x2)).trans x2
      have dd3 := (hb.cell (p := ⟨b1, 3, none⟩) (lt_of_cell x3)).trans x3
      refine ite_y (wanted_yes rfl rfl (by have hz : a.tmps.size = 85 := hs; rw [hz]; decide) tg) (wp_val (.agg #[.int .i64 (l : Nat), .int .i64 (s : Nat), .int .i64 (m : Nat), .int .u32 (d : Nat)]) ?_ ?_)
      · simp only [execOp, eval_tmp, tt]; simp [go_sem, dd0, dd1, dd2, dd3]
      · exact ⟨_, rfl, Below.refl _ _, rfl⟩
    · intro a W hb0 hs hp hi; have hb := undrew hb0; clear hb0
      have tg : sl a 48 = .bool false := hp 12 (by decide)
      have t52 : sl a 52 = .agg #[.int .i64 (l : Nat), .int .i64 (s : Nat), .int .i64 (m : Nat), .int .u32 (d : Nat)] := hp 16 (by decide)
      refine ite_y (wanted_yes rfl rfl (by have hz : a.tmps.size = 85 := hs; rw [hz]; decide) tg) (wp_enter 14 #[.agg #[.int .i64 (l : Nat), .int .i64 (s : Nat), .int .i64 (m : Nat), .int .u32 (d : Nat)]] ?_ (HPD.out W) ?_)
      · simp only [execOp, resolve, List.map_toArray, List.map, eval_tmp, eval_func, eval_const, t52]; simp [go_sem]
      · rintro e W' ⟨rfl, hw⟩; exact ⟨_, rfl, _, rfl, hw, rfl⟩
    · intro a W hb0 hs hp hi; have hb := undrew hb0; clear hb0
      have tg : sl a 48 = .bool false := hp 12 (by decide)
      have t51 : sl a 51 = .int .i64 (l : Nat) := hp 15 (by decide)
      have t53 : sl a 53 = .int .i64 (p : Nat) := hp 17 (by decide)
      refine ite_y (wanted_yes rfl rfl (by have hz : a.tmps.size = 85 := hs; rw [hz]; decide) tg) (wp_val (.int .i64 (r : Nat)) ?_ ?_)
      · simp only [execOp, eval_tmp, eval_const, t51, t53]; simp [go_sem, hlp, show IntKind.i64.wrap (r : Int) = (r : Int) by rw [IntKind.wrap_i64]; omega]
      · exact ⟨_, rfl, Below.refl _ _, rfl⟩
    · intro a W hb0 hs hp hi; have hb := undrew hb0; clear hb0
      have tg : sl a 48 = .bool false := hp 12 (by decide)
      have t50 : sl a 50 = .int .i64 (r : Nat) := hp 14 (by decide)
      have t54 : sl a 54 = .int .i64 (r : Nat) := hp 18 (by decide)
      refine ite_y (wanted_yes rfl rfl (by have hz : a.tmps.size = 85 := hs; rw [hz]; decide) tg) (wp_val (.bool false) ?_ ?_)
      · simp only [execOp, eval_tmp, eval_const, t50, t54]; simp [go_sem]
      · exact ⟨_, rfl, Below.refl _ _, rfl⟩
    · intro a W hb0 hs hp hi; have hb := undrew hb0; clear hb0
      have t48 : sl a 48 = .bool false := hp 12 (by decide)
      have t55 : sl a 55 = .bool false := hp 19 (by decide)
      refine ite_y rfl (wp_val (.bool false) ?_ ?_)
      · simp only [execOp, eval_tmp, eval_const, t48, t55]; simp [go_sem]
      · exact ⟨_, rfl, Below.refl _ _, rfl⟩
  intro a w6 hb hs hd hI ht
  have ha := act_is [36, 37, 38, 39, 40, 41, 42, 43, 44, 45, 46, 47, 48, 49, 50, 51, 52, 53, 54, 55, 56] hs hd ht (by decide)
  have t56 : sl a 56 = .bool false := hI 20 (by decide)
  simp only [List.foldl, t56] at ha
  generalize sl a 36 = u36 at ha
  generalize sl a 37 = u37 at ha
  generalize sl a 38 = u38 at ha
  generalize sl a 39 = u39 at ha
  generalize sl a 40 = u40 at ha
  generalize sl a 41 = u41 at ha
  generalize sl a 42 = u42 at ha
  generalize sl a 43 = u43 at ha
  generalize sl a 44 = u44 at ha
  generalize sl a 45 = u45 at ha
  generalize sl a 46 = u46 at ha
  generalize sl a 47 = u47 at ha
  generalize sl a 48 = u48 at ha
  generalize sl a 49 = u49 at ha
  generalize sl a 50 = u50 at ha
  generalize sl a 51 = u51 at ha
  generalize sl a 52 = u52 at ha
  generalize sl a 53 = u53 at ha
  generalize sl a 54 = u54 at ha
  generalize sl a 55 = u55 at ha
  simp only [Act.put, List.setIfInBounds_toArray, List.set_cons_zero, List.set_cons_succ] at ha
  rw [ha]
  clear ha hI ht
  have B6 : Hid (Below w.heap.size w w6) := bl B5.out hb B5.out.size
  have X6 := Lib.hid (X5.out.keep hb)
  clear hb x0 x1 x2 x3 y0 y1 y2 y3 X5 Y5 B5
  obtain ⟨x0, x1, x2, x3⟩ := X6.out.cells
  rcases hend with ⟨hz, hps⟩ | ⟨hz, hps, hml⟩
  · have hzb : ((l : Int) == 0) = true := by simpa using hz
    have hpb : ((p : Int) == (s : Int)) = true := by simpa using hps
    clear hz hps hbnd
    go_wp2_with fail
    refine Calls.mono (HPD.out _) ?_
    rintro e w7 ⟨rfl, hb⟩
    have B7 : Hid (Below w.heap.size w w7) := bl B6.out hb B6.out.size
    clear hb
    go_wp2
    go_ret
    exact ⟨rfl, B7.out⟩
  · have hzb : ((l : Int) == 0) = false := by simpa using hz
    clear hz
    have hp0 : (0 : Int) ≤ (p : Int) := by omega
    have hw1 : wrap64 ((m : Int) - 1) = (m : Int) - 1 := by unfold wrap64; omega
    have hw2 : wrap64 (((m : Int) - 1) * s) = ((m : Int) - 1) * s := by unfold wrap64; omega
    go_wp2_with fail
    refine Calls.mono (HPD.out _) ?_
    rintro e w7 ⟨rfl, hb⟩
    have X7 := Lib.hid (X6.out.keep hb)
    have B7 : Hid (Below w.heap.size w w7) := bl B6.out hb B6.out.size
    clear hb x0 x1 x2 x3 X6 B6
    obtain ⟨x0, x1, x2, x3⟩ := X7.out.cells
    go_wp2_with fail
    refine Calls.mono (HPD.out _) ?_
    rintro e w8 ⟨rfl, hb⟩
    have X8 := Lib.hid (X7.out.keep hb)
    have B8 : Hid (Below w.heap.size w w8) := bl B7.out hb B7.out.size
    clear hb x0 x1 x2 x3 X7 B7
    obtain ⟨x0, x1, x2, x3⟩ := X8.out.cells
    go_wp2
    go_ret
    exact ⟨by simp [hw1, hw2, hml], B8.out⟩
theorem PlanBack_any (l s d : Int) (w : World) (w0 : (Lit.int .i64 l).wf = true) (_w1 : (Lit.int .i64 s).wf = true) (w3 : (Lit.int .u32 d).wf = true) (hT : Tab10 w ∧ ErrI w) (hM : MaxI w) :
    Calls Tryd.prog 5 #[.int .i64 l, .int .i64 s, .int .u32 d] w fun e w' => e = .returned (.bool true) ∧ Below w.heap.size w w' := by
  have hl2 := (Go.bounds_i64 w0).2
  have hd := Go.bounds_u32 w3
  obtain ⟨D, rfl⟩ := Int.eq_ofNat_of_zero_le hd.1
  have hD : D < 4294967296 := by have := hd.2; omega
  by_cases hf : fitS l s = 0
  · rcases fitS_cases l s with ⟨a, _⟩ | ⟨_, h1, h2, h3, h4⟩
    · exact absurd hf a
    · obtain ⟨L, rfl⟩ := Int.eq_ofNat_of_zero_le h1
      obtain ⟨S, rfl⟩ := Int.eq_ofNat_of_zero_le (show 0 ≤ s by omega)
      have hp := (needS_pos h1 h2).1
      obtain ⟨m, hm⟩ := Int.eq_ofNat_of_zero_le (show 0 ≤ needS L S by omega)
      exact PlanBack_good L S m D (m * S) w hD hf hm.symm rfl hT.1 hT.2 hM
  · exact PlanBack_bad l s D w hl2 hT.1 hf
end Go.Proofs.YtnlfohbmdmeodaaDoor
