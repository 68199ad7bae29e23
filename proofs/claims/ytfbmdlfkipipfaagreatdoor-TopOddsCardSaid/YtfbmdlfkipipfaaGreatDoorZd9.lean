/- The theorems through the layers: TopOdds. Arguments that came in: slices of byte slices. Arrays of two bytes that came in. -/
import Derived.Test.YtfbmdlfkipipfaaGreatDoorZd8
import Derived.Deep.Matrix
import Derived.ChangeSame
import Derived.Lib.SmallJoins
namespace Go.By
open Go.RowKit Go.Proofs.YtfbmdlfkipipfaaGreatDoor Gf
/-- a number as a value -/
def NmV (N : Nat) (v : Value) (w : World) : Prop := ∃ q n c, v = .agg #[.slice q n c] ∧ Ws 44 w q n c N
def ShNmV (N : Nat) : Shp := ⟨NmV N, fun _ _ _ ⟨q, n, c, e, h⟩ hb => ⟨q, n, c, e, h.keep hb⟩⟩
/-- what TopOdds carries: an array of two bytes, two plans -/
structure OddM (wI w : World) (ga g7 g9 : Nat) (x0 x1 : UInt8) : Prop where
  bel : Below wI.heap.size wI w
  arr : w.heap[ga]? = some (.cells #[B8 x0, B8 x1] 53 (0, 0))
  p7 : w.heap[g7]? = some (.cells #[.int .i64 1, .int .i64 1, .int .i64 1, .int .u32 3] 27 (0, 0))
  p9 : w.heap[g9]? = some (.cells #[.int .i64 2, .int .i64 1, .int .i64 2, .int .u32 3] 27 (0, 0))
theorem OddM.keep {wI w w' : World} {ga g7 g9 : Nat} {x0 x1 : UInt8} (h : OddM wI w ga g7 g9 x0 x1) (hb : Below w.heap.size w w') : OddM wI w' ga g7 g9 x0 x1 :=
  ⟨bl h.bel hb h.bel.size, (hb.block _ (lt_of_block h.arr)).trans h.arr, (hb.block _ (lt_of_block h.p7)).trans h.p7, (hb.block _ (lt_of_block h.p9)).trans h.p9⟩
def one0 (i : Nat) : Nat := if i = 0 then 0 else 1
end Go.By
namespace Go.Proofs.YtfbmdlfkipipfaaGreatDoor
open Go.RowKit Go.By Gf Go.Maps
theorem pok111 : POK 1 1 1 3 := ⟨by decide, by decide, by decide, by decide, by decide, by decide, by decide⟩
theorem pok212 : POK 2 1 2 3 := ⟨by decide, by decide, by decide, by decide, by decide, by decide, by decide⟩
theorem of111 : ofS 1 1 3 = .tuple #[PVal 1 1 1 3, .int .i64 0] := by
  have h : fitS 1 1 = 0 := by decide
  have h2 : needS 1 1 = 1 := by decide
  unfold ofS; rw [if_pos h, h2]; rfl
theorem of212 : ofS 2 1 3 = .tuple #[PVal 2 1 2 3, .int .i64 0] := by
  have h : fitS 2 1 = 0 := by decide
  have h2 : needS 2 1 = 2 := by decide
  unfold ofS; rw [if_pos h, h2]; rfl
theorem arr2_same (W : World) : (Op.equalIn 10000 53 (.agg #[.int .u8 0, .int .u8 0]) (.agg #[.int .u8 0, .int .u8 0])).run Tryz.prog W = .ok true W := by
  kernel_rfl
set_option maxRecDepth 100000 in
set_option maxHeartbeats 8000000 in
theorem TopOdds_any (b0 x0 x1 f : UInt8) (w : World) (hT : HalfT w) : Calls Tryz.prog 4 #[B8 b0, .agg #[B8 x0, B8 x1], B8 f] w fun e w' => e = .returned (.bool true) ∧ Below w.heap.size w w' := by
  have HT := Lib.hid hT
  have HOp : Hid (∀ w, Calls Tryz.prog 24 #[.int .i64 1, .int .i64 1, .int .u32 3] w fun e w' => e = .returned (.tuple #[PVal 1 1 1 3, .int .i64 0]) ∧ Below w.heap.size w w') := fun w => by have := POf_any 1 1 3 w (by decide); rw [of111] at this; exact this
  have HOq : Hid (∀ w, Calls Tryz.prog 24 #[.int .i64 2, .int .i64 1, .int .u32 3] w fun e w' => e = .returned (.tuple #[PVal 2 1 2 3, .int .i64 0]) ∧ Below w.heap.size w w') := fun w => by have := POf_any 2 1 3 w (by decide); rw [of212] at this; exact this
  have HRa : Hid (∀ W q n c p m d b, Below w.heap.size w W → Sl B8 W q n c [b0] → Sl2 W p m d [[b]] → Calls Tryz.prog 25 #[PVal 1 1 1 3, .slice q n c, .slice p m d] W fun e w' => e = .returned (.tuple #[.int .i64 ((iK [[b]]).length : Nat), .bool true]) ∧ Below W.heap.size W w') := fun W q n c p m d b hb h1 h2 => by
    obtain rfl : n = 1 := by have := h1.len; simpa using this.symm
    have hm : m = 1 := by have := h2.len; simpa using this.symm
    exact TRanks_ok 1 1 1 3 q c [b0] p m d [[b]] W pok111 (fun i hi => by omega) h1 h2 (by simp) (hT.keep hb) (by omega)
  have HRb : Hid (∀ W q n c p m d rows, Below w.heap.size w W → Sl B8 W q n c [1, 2] → Sl2 W p m d rows → (∀ r, r ∈ rows → r.length = 2) → rows.length ≤ 2 → Calls Tryz.prog 25 #[PVal 2 1 2 3, .slice q n c, .slice p m d] W fun e w' => e = .returned (.tuple #[.int .i64 ((iK rows).length : Nat), .bool true]) ∧ Below W.heap.size W w') := fun W q n c p m d rows hb h1 h2 hr hl => by
    obtain rfl : n = 2 := by have := h1.len; simpa using this.symm
    have hm := h2.len
    exact TRanks_ok 2 1 2 3 q c [1, 2] p m d rows W pok212 (fun i hi => by omega) h1 h2 hr (hT.keep hb) (by omega)
  have HFa : Hid (∀ W, Calls Tryz.prog 26 #[.int .i64 1, .int .i64 1] W (RetN 44 W 1)) := fun W => by
    have := Fails_any 1 1 (by decide) (by decide) (by decide) W
    rw [show 256 ^ (1 * 1) - fullC 1 1 = 1 by decide] at this
    exact this
  have HC := Lib.hid (odd_C x0 x1 f)
  obtain ⟨R, hR⟩ : ∃ R, R = (iK [[x0, x1]]).length := ⟨_, rfl⟩
  obtain ⟨S, hS⟩ : ∃ S : UInt8 → Nat, S = fun b => (iK [[x0, x1], [f, b]]).length := ⟨_, rfl⟩
  have HRc : Hid (∀ W q n c p m d, Below w.heap.size w W → Sl B8 W q n c [1, 2] → Sl2 W p m d [[x0, x1]] → Calls Tryz.prog 25 #[PVal 2 1 2 3, .slice q n c, .slice p m d] W fun e w' => e = .returned (.tuple #[.int .i64 (R : Nat), .bool true]) ∧ Below W.heap.size W w') := fun W q n c p m d hb h1 h2 => by
    rw [hR]; exact HRb.out W q n c p m d _ hb h1 h2 (by simp) (by simp)
  have HRd : Hid (∀ b W q n c p m d, Below w.heap.size w W → Sl B8 W q n c [1, 2] → Sl2 W p m d [[x0, x1], [f, b]] → Calls Tryz.prog 25 #[PVal 2 1 2 3, .slice q n c, .slice p m d] W fun e w' => e = .returned (.tuple #[.int .i64 (S b : Nat), .bool true]) ∧ Below W.heap.size W w') := fun b W q n c p m d hb h1 h2 => by
    rw [hS]; exact HRb.out W q n c p m d _ hb h1 h2 (by simp) (by simp)
  rw [← hR, ← hS] at HC
  clear hT hR hS HRb
  go_enter Tryz.func4, Tryz.ntmps4
  go_wp2_with fail
  have ba : Below w.heap.size w (w.alloc (.cells #[B8 x0, B8 x1] 53)) := ba1 w _
  refine Calls.mono (awakeT _ (HT.out.keep ba)) ?_
  rintro e w1 ⟨rfl, hb⟩
  obtain ⟨hb1, ka, -⟩ := one_of hb
  obtain ⟨ga, hga⟩ : ∃ ga, ga = w.heap.size := ⟨_, rfl⟩
  rw [← hga] at ka ⊢
  have HB1 := Lib.hid hb1
  clear hb hb1 ba hga
  go_wp2_with fail
  refine Calls.mono (HOp.out _) ?_
  rintro e w2 ⟨rfl, hb⟩
  have ka2 := (hb.block _ (lt_of_block ka)).trans ka
  have HB2 := Lib.hid (bl HB1.out hb HB1.out.size)
  clear hb HB1 ka
  go_wp2_with fail
  refine Calls.mono (HOq.out _) ?_
  rintro e w3 ⟨rfl, hb⟩
  obtain ⟨hb2, k7, -⟩ := one_of hb
  obtain ⟨g7, hg7⟩ : ∃ g7, g7 = w2.heap.size := ⟨_, rfl⟩
  rw [← hg7] at k7 ⊢
  have ka3 := (hb2.block _ (lt_of_block ka2)).trans ka2
  have HB3 := Lib.hid (bl HB2.out hb2 HB2.out.size)
  clear hb hb2 HB2 ka2 hg7
  go_wp2
  obtain ⟨g9, hg9⟩ : ∃ g9, g9 = w3.heap.size := ⟨_, rfl⟩
  have bb : Below w3.heap.size w3 (w3.alloc (.cells #[.int .i64 2, .int .i64 1, .int .i64 2, .int .u32 3] 27 (0, 0))) := al (Below.refl _ _) (Nat.le_refl _)
  have HM : Hid (OddM w (w3.alloc (.cells #[.int .i64 2, .int .i64 1, .int .i64 2, .int .u32 3] 27 (0, 0))) ga g7 g9 x0 x1) :=
    ⟨bl HB3.out bb HB3.out.size, (bb.block _ (lt_of_block ka3)).trans ka3, (bb.block _ (lt_of_block k7)).trans k7, hnew hg9⟩
  rw [← hg9]
  generalize w3.alloc (.cells #[.int .i64 2, .int .i64 1, .int .i64 2, .int .u32 3] 27 (0, 0)) = w4 at *
  clear bb HB3 ka3 k7 hg9
  go_loopw [11, 41] (fun nv iv wr => ∃ i n : Nat, i ≤ 256 ∧ n ≤ 1 ∧ iv = .int .i64 (i : Nat) ∧ nv = .int .u64 (n : Nat) ∧ Hid (n = one0 i) ∧ Hid (OddM w wr ga g7 g9 x0 x1)) (fun _ iv _ => 256 - (intOf iv).toNat)
  case atStart => exact ⟨0, 0, by omega, by omega, rfl, rfl, rfl, HM.out⟩
  case round =>
    obtain ⟨i, n, hi, hn, rfl, rfl, HN, HR⟩ := hrel
    clear HM
    by_cases hlt : i < 256
    · have hlt' : (i : Int) < 256 := by omega
      obtain ⟨b8, hb8⟩ : ∃ b8, b8 = UInt8.ofNat i := ⟨_, rfl⟩
      have hbn : b8.toNat = i := by rw [hb8]; simp; omega
      have A1 : IntKind.u8.wrap (i : Int) = (b8.toNat : Int) := by rw [hbn]; exact wraps_u8 _ (by omega) (by omega)
      have HBZ : Hid (b8 = 0 ↔ i = 0) := by
        constructor
        · intro h; rw [h] at hbn; simpa using hbn.symm
        · intro h; rw [hb8, h]; rfl
      have HLT := Lib.hid hlt
      obtain ⟨rb, hrb⟩ : ∃ rb, rb = (iK [[b8]]).length := ⟨_, rfl⟩
      have HRk : Hid (∀ W q n c p m d, Below w.heap.size w W → Sl B8 W q n c [b0] → Sl2 W p m d [[b8]] → Calls Tryz.prog 25 #[PVal 1 1 1 3, .slice q n c, .slice p m d] W fun e w' => e = .returned (.tuple #[.int .i64 (rb : Nat), .bool true]) ∧ Below W.heap.size W w') := fun W q n c p m d hb h1 h2 => by
        rw [hrb]; exact HRa.out W q n c p m d b8 hb h1 h2
      have hrv : rb = if i = 0 then 0 else 1 := by
        rw [hrb, one_C]
        by_cases h : i = 0
        · rw [if_pos h, if_pos (HBZ.out.2 h)]
        · rw [if_neg h, if_neg (fun g => h (HBZ.out.1 g))]
      obtain ⟨z0, z1, z2, z3⟩ := cells_four HR.out.p7
      clear hb8 hbn hlt hrb HBZ
      by_cases hi0 : i = 0
      · rw [if_pos hi0] at hrv
        have hz : ((rb : Int) == 0) = true := by rw [hrv]; rfl
        have HN1 : Hid (n + 1 = one0 (i + 1)) := by
          have := HN.out
          show n + 1 = one0 (i + 1)
          rw [this, hi0]; rfl
        clear hrv hi0
        have hb0 : Below wr.heap.size wr (((wr.alloc (.cells #[B8 b0] 5)).alloc (.cells #[B8 b8] 5)).alloc (.cells #[.slice (some ⟨wr.heap.size + 1, 0, none⟩) 1 1] 22)) := al (al (al (Below.refl _ _) (Nat.le_refl _)) (by simp)) (by simp; omega)
        go_wp2_with fail
        refine Calls.mono (HRk.out _ _ _ _ _ _ _ (bl HR.out.bel hb0 HR.out.bel.size) (sl_block [b0] 1 (hal (hal (hnew rfl))) rfl rfl (by simp [maxLen])) (sl2_one (hnew (by simp)) (sl_block [b8] 1 (hal (hnew (by simp))) rfl rfl (by simp [maxLen])))) ?_
        rintro e w2 ⟨rfl, hb⟩
        have HR2 := Lib.hid (HR.out.keep (bl hb0 hb hb0.size))
        clear hb hb0 HR z0 z1 z2 z3 HRk A1
        have hu : IntKind.u64.wrap ((n : Int) + 1) = ((n + 1 : Nat) : Int) := by rw [IntKind.wrap_u64]; omega
        have HNL : Hid (n + 1 ≤ 1) := by have := HN1.out; show n + 1 ≤ 1; unfold one0 at this; rw [if_neg (by omega)] at this; omega
        have HR3 := Lib.hid HR2.out
        clear HR2
        go_wp2
        go_roundw
        case rel => exact ⟨i + 1, n + 1, by have := HLT.out; omega, HNL.out, by go_num, by go_num, HN1.out, HR3.out⟩
        case measure => simp [intOf]; have := HLT.out; omega
      · rw [if_neg hi0] at hrv
        have hz : ((rb : Int) == 0) = false := by rw [hrv]; rfl
        have HN1 : Hid (n = one0 (i + 1)) := by
          have := HN.out
          show n = one0 (i + 1)
          rw [this]; unfold one0; rw [if_neg hi0, if_neg (by omega)]
        clear hrv hi0
        have hb0 : Below wr.heap.size wr (((wr.alloc (.cells #[B8 b0] 5)).alloc (.cells #[B8 b8] 5)).alloc (.cells #[.slice (some ⟨wr.heap.size + 1, 0, none⟩) 1 1] 22)) := al (al (al (Below.refl _ _) (Nat.le_refl _)) (by simp)) (by simp; omega)
        go_wp2_with fail
        refine Calls.mono (HRk.out _ _ _ _ _ _ _ (bl HR.out.bel hb0 HR.out.bel.size) (sl_block [b0] 1 (hal (hal (hnew rfl))) rfl rfl (by simp [maxLen])) (sl2_one (hnew (by simp)) (sl_block [b8] 1 (hal (hnew (by simp))) rfl rfl (by simp [maxLen])))) ?_
        rintro e w2 ⟨rfl, hb⟩
        have HR2 := Lib.hid (HR.out.keep (bl hb0 hb hb0.size))
        clear hb hb0 HR z0 z1 z2 z3 HRk A1
        go_wp2
        go_roundw
        case rel => exact ⟨i + 1, n, by have := HLT.out; omega, hn, by go_num, rfl, HN1.out, HR2.out⟩
        case measure => simp [intOf]; have := HLT.out; omega
    · obtain rfl : i = 256 := by omega
      have hn1 : n = 1 := HN.out
      subst hn1
      have HR1 := Lib.hid HR.out
      clear hlt hi hn HR HRa HN
      go_wp2_with fail
      refine Calls.mono (HFa.out _) ?_
      rintro e w5 ⟨qf, nf, cf, rfl, hw, hb⟩
      have HM5 := Lib.hid (HR1.out.keep hb)
      have HW5 := Lib.hid hw
      clear hb hw HR1 HFa
      go_wp2
      have hA5 := NBox.new (T := 40) HW5.out
      have ba : Below w5.heap.size w5 (w5.alloc (.cells #[.slice qf nf cf] 40 (0, 0))) := al (Below.refl _ _) (Nat.le_refl _)
      have HM6 := Lib.hid (HM5.out.keep ba)
      obtain ⟨g15, hg15⟩ : ∃ g15, g15 = w5.heap.size := ⟨_, rfl⟩
      rw [← hg15] at hA5 ⊢
      generalize w5.alloc (.cells #[.slice qf nf cf] 40 (0, 0)) = w6 at *
      obtain ⟨qz, nz, cz, kz, wz⟩ := hA5
      have HWZ := Lib.hid wz
      obtain ⟨_, z0, z1, z2, z3⟩ := One.of kz
      clear ba HM5 HW5 hg15 wz
      go_wp2_with fail
      refine wp_region_shapes (fun ix => ([.val (.int .i64 0), .val (.bool false), .val (.bool false), .val (.agg #[.slice qz nz cz]), .val (.int .u64 1), (ShNmV 1), .val (.int .i64 0), .val (.bool false), .val (.bool false)][ix]?).getD (.any)) 181 rfl (by kernel_rfl) (by decide +kernel) (by decide +kernel) (by decide +kernel) ?_ ?_
      · refine ⟨?_, ?_, ?_, ?_, ?_, ?_, ?_, ?_, ?_, trivial⟩
        · intro a W hb0 hs hp hi; have hb := undrew hb0; clear hb0
          have t16 : sl a 16 = .int .i64 0 := hi 16 (by decide)
          exact ite_y rfl (wp_val (sl a 16) rfl ⟨_, rfl, Below.refl _ _, t16⟩)
        · intro a W hb0 hs hp hi; have hb := undrew hb0; clear hb0
          have t66 : sl a 66 = .int .i64 0 := hp 0 (by decide)
          refine ite_y rfl (wp_val (.bool false) ?_ ?_)
          · simp only [execOp, eval_tmp, eval_const, t66]; simp [go_sem]
          · exact ⟨_, rfl, Below.refl _ _, rfl⟩
        · intro a W hb0 hs hp hi; have hb := undrew hb0; clear hb0
          have t67 : sl a 67 = .bool false := hp 1 (by decide)
          exact ite_y rfl (wp_val (sl a 67) rfl ⟨_, rfl, Below.refl _ _, t67⟩)
        · intro a W hb0 hs hp hi; have hb := undrew hb0; clear hb0
          have tg : sl a 68 = .bool false := hp 2 (by decide)
          have tt : sl a 15 = .pointer (some ⟨g15, 0, none⟩) := hi 15 (by decide)
          have dd0 := (hb.cell (p := ⟨g15, 0, none⟩) (lt_of_cell z0)).trans z0
          refine ite_y (wanted_yes rfl rfl (by have hz : a.tmps.size = 181 := hs; rw [hz]; decide) tg) (wp_val (.agg #[.slice qz nz cz]) ?_ ?_)
          · simp only [execOp, eval_tmp, tt]; simp [go_sem, dd0]
          · exact ⟨_, rfl, Below.refl _ _, rfl⟩
        · intro a W hb0 hs hp hi; have hb := undrew hb0; clear hb0
          have tg : sl a 68 = .bool false := hp 2 (by decide)
          have t11 : sl a 11 = .int .u64 1 := hi 11 (by decide)
          exact ite_y (wanted_yes rfl rfl (by have hz : a.tmps.size = 181 := hs; rw [hz]; decide) tg) (wp_val (sl a 11) rfl ⟨_, rfl, Below.refl _ _, t11⟩)
        · intro a W hb0 hs hp hi; have hb := undrew hb0; clear hb0
          have tg : sl a 68 = .bool false := hp 2 (by decide)
          have t70 : sl a 70 = .int .u64 1 := hp 4 (by decide)
          refine ite_y (wanted_yes rfl rfl (by have hz : a.tmps.size = 181 := hs; rw [hz]; decide) tg) (wp_enter 16 #[.int .u64 1] ?_ (Of_k 1 (by decide) W) ?_)
          · simp only [execOp, resolve, List.map_toArray, List.map, eval_tmp, eval_func, eval_const, t70]; simp [go_sem]
          · rintro e W' ⟨q, n, c, rfl, hw, hb'⟩; exact ⟨_, rfl, _, rfl, hb', q, n, c, rfl, hw⟩
        · intro a W hb0 hs hp hi; have hb := undrew hb0; clear hb0
          have tg : sl a 68 = .bool false := hp 2 (by decide)
          have tA : sl a 69 = .agg #[.slice qz nz cz] := hp 3 (by decide)
          have tB : NmV 1 (sl a 71) W := hp 5 (by decide)
          obtain ⟨ya, yb, yc, tB, zz⟩ := tB
          refine ite_y (wanted_yes rfl rfl (by have hz : a.tmps.size = 181 := hs; rw [hz]; decide) tg) (wp_enter 22 #[.agg #[.slice qz nz cz], .agg #[.slice ya yb yc]] ?_ (Cmp_same (HWZ.out.keep hb) zz rfl) ?_)
          · simp only [execOp, resolve, List.map_toArray, List.map, eval_tmp, eval_func, eval_const, tA, tB]; simp [go_sem]
          · rintro e W' ⟨rfl, hw⟩; exact ⟨_, rfl, _, rfl, hw, rfl⟩
        · intro a W hb0 hs hp hi; have hb := undrew hb0; clear hb0
          have tg : sl a 68 = .bool false := hp 2 (by decide)
          have t72 : sl a 72 = .int .i64 0 := hp 6 (by decide)
          refine ite_y (wanted_yes rfl rfl (by have hz : a.tmps.size = 181 := hs; rw [hz]; decide) tg) (wp_val (.bool false) ?_ ?_)
          · simp only [execOp, eval_tmp, eval_const, t72]; simp [go_sem]
          · exact ⟨_, rfl, Below.refl _ _, rfl⟩
        · intro a W hb0 hs hp hi; have hb := undrew hb0; clear hb0
          have t68 : sl a 68 = .bool false := hp 2 (by decide)
          have t73 : sl a 73 = .bool false := hp 7 (by decide)
          refine ite_y rfl (wp_val (.bool false) ?_ ?_)
          · simp only [execOp, eval_tmp, eval_const, t68, t73]; simp [go_sem]
          · exact ⟨_, rfl, Below.refl _ _, rfl⟩
      intro a w7 hb hs hd hI ht
      have ha := act_is [66, 67, 68, 69, 70, 71, 72, 73, 74] hs hd ht (by decide)
      have t74 : sl a 74 = .bool false := hI 8 (by decide)
      simp only [List.foldl, t74] at ha
      generalize sl a 66 = u66 at ha
      generalize sl a 67 = u67 at ha
      generalize sl a 68 = u68 at ha
      generalize sl a 69 = u69 at ha
      generalize sl a 70 = u70 at ha
      generalize sl a 71 = u71 at ha
      generalize sl a 72 = u72 at ha
      generalize sl a 73 = u73 at ha
      simp only [Act.put, List.setIfInBounds_toArray, List.set_cons_zero, List.set_cons_succ] at ha
      rw [ha]
      clear ha hI ht
      have HM7 := Lib.hid (HM6.out.keep hb)
      clear hb HM6 HWZ kz z0 z1 z2 z3
      obtain ⟨z0, z1, z2, z3⟩ := cells_four HM7.out.p9
      have SX : Hid (Sl B8 w7 (some ⟨ga, 0, none⟩) 2 2 [x0, x1]) := sl_block [x0, x1] 2 HM7.out.arr rfl rfl (by simp [maxLen])
      have HBM := Lib.hid HM7.out.bel
      go_wp2_with fail
      refine wp_region_shapes (fun ix => ([.val (.agg #[.int .i64 2, .int .i64 1, .int .i64 2, .int .u32 3]), .bytes ([1, 2]), .val (.slice (some ⟨ga, 0, none⟩) 2 2), .rows ([[x0, x1]]), .val (.tuple #[.int .i64 (R : Nat), .bool true]), .val (.tuple #[.int .i64 (R : Nat), .bool true]), .val (.int .i64 (R : Nat)), .val (.bool true), .val (.int .i64 (R : Nat)), .val (.bool true)][ix]?).getD (.any)) 181 rfl (by kernel_rfl) (by decide +kernel) (by decide +kernel) (by decide +kernel) ?_ ?_
      · refine ⟨?_, ?_, ?_, ?_, ?_, ?_, ?_, ?_, ?_, ?_, trivial⟩
        · intro a W hb0 hs hp hi; have hb := undrew hb0; clear hb0
          have tt : sl a 9 = .pointer (some ⟨g9, 0, none⟩) := hi 9 (by decide)
          have dd0 := (hb.cell (p := ⟨g9, 0, none⟩) (lt_of_cell z0)).trans z0
          have dd1 := (hb.cell (p := ⟨g9, 1, none⟩) (lt_of_cell z1)).trans z1
          have dd2 := (hb.cell (p := ⟨g9, 2, none⟩) (lt_of_cell z2)).trans z2
          have dd3 := (hb.cell (p := ⟨g9, 3, none⟩) (lt_of_cell z3)).trans z3
          refine ite_y rfl (wp_val (.agg #[.int .i64 2, .int .i64 1, .int .i64 2, .int .u32 3]) ?_ ?_)
          · simp only [execOp, eval_tmp, tt]; simp [go_sem, dd0, dd1, dd2, dd3]
          · exact ⟨_, rfl, Below.refl _ _, rfl⟩
        · intro a W hb0 hs hp hi; have hb := undrew hb0; clear hb0
          refine ite_y rfl (wp_val' (w' := W.alloc (.cells #[.int .u8 1, .int .u8 2] 5)) (.slice (some ⟨W.heap.size, 0, none⟩) 2 2) ?_ ?_)
          · simp only [execOp, eval_tmp, eval_const]; simp [go_sem]
          · exact ⟨_, rfl, (al (Below.refl _ _) (Nat.le_refl _)), _, _, _, rfl, sl_block ([1, 2]) 2 (hnew rfl) rfl rfl (by simp [maxLen])⟩
        · intro a W hb0 hs hp hi; have hb := undrew hb0; clear hb0
          have t4 : sl a 4 = .pointer (some ⟨ga, 0, none⟩) := hi 4 (by decide)
          refine ite_y rfl (wp_val (.slice (some ⟨ga, 0, none⟩) 2 2) ?_ ?_)
          · simp only [execOp, eval_tmp, eval_const, t4]; simp [go_sem]
          · exact ⟨_, rfl, Below.refl _ _, rfl⟩
        · intro a W hb0 hs hp hi; have hb := undrew hb0; clear hb0
          have t78 : sl a 78 = .slice (some ⟨ga, 0, none⟩) 2 2 := hp 2 (by decide)
          have v78 : a.tmps[78]?.getD undef = sl a 78 := by simp [sl]
          rw [t78] at v78
          refine ite_y rfl (wp_val' (w' := W.alloc (.cells #[.slice (some ⟨ga, 0, none⟩) 2 2] 22)) (.slice (some ⟨W.heap.size, 0, none⟩) 1 1) ?_ ?_)
          · simp only [execOp, eval_tmp, eval_const, t78]; simp [go_sem, v78]
          · exact ⟨_, rfl, (al (Below.refl _ _) (Nat.le_refl _)), _, _, _, rfl, sl2_one (hnew rfl) ((SX.out.keep hb).keep (al (Below.refl _ _) (Nat.le_refl _)))⟩
        · intro a W hb0 hs hp hi; have hb := undrew hb0; clear hb0
          have t76 : sl a 76 = .agg #[.int .i64 2, .int .i64 1, .int .i64 2, .int .u32 3] := hp 0 (by decide)
          have t77 : BytesIs ([1, 2]) (sl a 77) W := hp 1 (by decide)
          obtain ⟨y77a, y77b, y77c, t77, z77a⟩ := t77
          have t79 : RowsIs ([[x0, x1]]) (sl a 79) W := hp 3 (by decide)
          obtain ⟨y79a, y79b, y79c, t79, z79a⟩ := t79
          refine ite_y rfl (wp_enter 25 #[.agg #[.int .i64 2, .int .i64 1, .int .i64 2, .int .u32 3], .slice y77a y77b y77c, .slice y79a y79b y79c] ?_ (HRc.out W y77a y77b y77c y79a y79b y79c (bl HBM.out hb HBM.out.size) z77a z79a) ?_)
          · simp only [execOp, resolve, List.map_toArray, List.map, eval_tmp, eval_func, eval_const, t76, t77, t79]; simp [go_sem]
          · rintro e W' ⟨rfl, hw⟩; exact ⟨_, rfl, _, rfl, hw, rfl⟩
        · intro a W hb0 hs hp hi; have hb := undrew hb0; clear hb0
          have t80 : sl a 80 = .tuple #[.int .i64 (R : Nat), .bool true] := hp 4 (by decide)
          exact ite_y rfl (wp_val (sl a 80) rfl ⟨_, rfl, Below.refl _ _, t80⟩)
        · intro a W hb0 hs hp hi; have hb := undrew hb0; clear hb0
          have tt : sl a 75 = .tuple #[.int .i64 (R : Nat), .bool true] := hp 5 (by decide)
          refine ite_y rfl (wp_val (.int .i64 (R : Nat)) ?_ ?_)
          · simp only [execOp, eval_tmp, tt]; rfl
          · exact ⟨_, rfl, Below.refl _ _, rfl⟩
        · intro a W hb0 hs hp hi; have hb := undrew hb0; clear hb0
          have tt : sl a 75 = .tuple #[.int .i64 (R : Nat), .bool true] := hp 5 (by decide)
          refine ite_y rfl (wp_val (.bool true) ?_ ?_)
          · simp only [execOp, eval_tmp, tt]; rfl
          · exact ⟨_, rfl, Below.refl _ _, rfl⟩
        · intro a W hb0 hs hp hi; have hb := undrew hb0; clear hb0
          have t81 : sl a 81 = .int .i64 (R : Nat) := hp 6 (by decide)
          exact ite_y rfl (wp_val (sl a 81) rfl ⟨_, rfl, Below.refl _ _, t81⟩)
        · intro a W hb0 hs hp hi; have hb := undrew hb0; clear hb0
          have t82 : sl a 82 = .bool true := hp 7 (by decide)
          exact ite_y rfl (wp_val (sl a 82) rfl ⟨_, rfl, Below.refl _ _, t82⟩)
      intro a w8 hb hs hd hI ht
      have ha := act_is [76, 77, 78, 79, 80, 75, 81, 82, 17, 18] hs hd ht (by decide)
      have t17 : sl a 17 = .int .i64 (R : Nat) := hI 8 (by decide)
      have t18 : sl a 18 = .bool true := hI 9 (by decide)
      simp only [List.foldl, t17, t18] at ha
      generalize sl a 76 = u76 at ha
      generalize sl a 77 = u77 at ha
      generalize sl a 78 = u78 at ha
      generalize sl a 79 = u79 at ha
      generalize sl a 80 = u80 at ha
      generalize sl a 75 = u75 at ha
      generalize sl a 81 = u81 at ha
      generalize sl a 82 = u82 at ha
      simp only [Act.put, List.setIfInBounds_toArray, List.set_cons_zero, List.set_cons_succ] at ha
      rw [ha]
      clear ha hI ht
      have HM8 := Lib.hid (HM7.out.keep hb)
      clear hb HM7 z0 z1 z2 z3 SX HBM HRc
      rcases HC.out with ⟨hR, hx0, hx1, hS⟩ | ⟨hR, hx0, u, hS⟩ | ⟨hR, hx0, hS⟩
      ·
        rw [hR] at hS
        have HSS := Lib.hid hS
        rw [show ((R : Nat) : Int) = 0 by rw [hR]; rfl]
        obtain ⟨g, hg⟩ : ∃ g : Nat → Bool, ∀ b, g b = decide (S (UInt8.ofNat b) = 0) := ⟨_, fun _ => rfl⟩
        have HG := Lib.hid hg
        clear hg hR hS HC
        have c0 : w8.cell? ⟨ga, 0, none⟩ = some (.int .u8 0) := by have := cell_of_row _ _ 0 _ _ _ HM8.out.arr; rw [hx0] at this; exact this
        have c1 : w8.cell? ⟨ga, 1, none⟩ = some (.int .u8 0) := by have := cell_of_row _ _ 1 _ _ _ HM8.out.arr; rw [hx1] at this; exact this
        clear hx0 hx1
        go_wp2_with (simp only [arr2_same])
        clear c0 c1
        go_loopw [19, 94] (fun nv iv wr => ∃ i : Nat, i ≤ 256 ∧ iv = .int .i64 (i : Nat) ∧ nv = .int .u64 (cntB g i : Nat) ∧ Hid (OddM w wr ga g7 g9 x0 x1)) (fun _ iv _ => 256 - (intOf iv).toNat)
        case atStart => exact ⟨0, by omega, rfl, rfl, HM8.out⟩
        case round =>
          obtain ⟨i, hi, rfl, rfl, HR⟩ := hrel
          clear HM8
          by_cases hlt : i < 256
          · have hlt' : (i : Int) < 256 := by omega
            obtain ⟨b8, hb8⟩ : ∃ b8, b8 = UInt8.ofNat i := ⟨_, rfl⟩
            have hbn : b8.toNat = i := by rw [hb8]; simp; omega
            have A1 : IntKind.u8.wrap (i : Int) = (b8.toNat : Int) := by rw [hbn]; exact wraps_u8 _ (by omega) (by omega)
            obtain ⟨Sb, hSb⟩ : ∃ Sb, Sb = S b8 := ⟨_, rfl⟩
            have hgi : g i = decide (Sb = 0) := by rw [HG.out, hSb, hb8]
            have hcn : cntB g (i + 1) = cntB g i + (if g i then 1 else 0) := rfl
            have hcl := cntB_le g i
            have HRs : Hid (∀ W q n c p m d, Below w.heap.size w W → Sl B8 W q n c [1, 2] → Sl2 W p m d [[x0, x1], [f, b8]] → Calls Tryz.prog 25 #[PVal 2 1 2 3, .slice q n c, .slice p m d] W fun e w' => e = .returned (.tuple #[.int .i64 (Sb : Nat), .bool true]) ∧ Below W.heap.size W w') := fun W q n c p m d hb h1 h2 => by
              rw [hSb]; exact HRd.out b8 W q n c p m d hb h1 h2
            have SX : Hid (Sl B8 wr (some ⟨ga, 0, none⟩) 2 2 [x0, x1]) := sl_block [x0, x1] 2 HR.out.arr rfl rfl (by simp [maxLen])
            have HBM := Lib.hid HR.out.bel
            obtain ⟨z0, z1, z2, z3⟩ := cells_four HR.out.p9
            obtain ⟨cn, hcn0⟩ : ∃ cn, cn = cntB g i := ⟨_, rfl⟩
            rw [← hcn0] at hcn hcl ⊢
            have HC := Lib.hid hcn; have HI := Lib.hid hlt
            clear hSb hb8 hcn hcn0 hlt hbn
            by_cases hSR : Sb = 0
            · have hd : ((Sb : Int) == 0) = true := by rw [hSR]; rfl
              have HGI : Hid (g i = true) := by show _ = _; rw [hgi]; exact decide_eq_true hSR
              clear hgi hSR
              go_wp2_with fail
              refine wp_region_shapes (fun ix => ([.val (.agg #[.int .i64 2, .int .i64 1, .int .i64 2, .int .u32 3]), .bytes ([1, 2]), .val (.slice (some ⟨ga, 0, none⟩) 2 2), .val (B8 f), .val (.int .i64 (i : Nat)), .val (B8 b8), .bytes ([f, b8]), .rows ([[x0, x1], [f, b8]]), .val (.tuple #[.int .i64 (Sb : Nat), .bool true]), .val (.tuple #[.int .i64 (Sb : Nat), .bool true]), .val (.int .i64 (Sb : Nat)), .val (.bool true), .val (.int .i64 (Sb : Nat)), .val (.bool true)][ix]?).getD (.any)) 181 rfl (by kernel_rfl) (by decide +kernel) (by decide +kernel) (by decide +kernel) ?_ ?_
              · refine ⟨?_, ?_, ?_, ?_, ?_, ?_, ?_, ?_, ?_, ?_, ?_, ?_, ?_, ?_, trivial⟩
                · intro a W hb0 hs hp hi; have hb := undrew hb0; clear hb0
                  have tt : sl a 9 = .pointer (some ⟨g9, 0, none⟩) := hi 9 (by decide)
                  have dd0 := (hb.cell (p := ⟨g9, 0, none⟩) (lt_of_cell z0)).trans z0
                  have dd1 := (hb.cell (p := ⟨g9, 1, none⟩) (lt_of_cell z1)).trans z1
                  have dd2 := (hb.cell (p := ⟨g9, 2, none⟩) (lt_of_cell z2)).trans z2
                  have dd3 := (hb.cell (p := ⟨g9, 3, none⟩) (lt_of_cell z3)).trans z3
                  refine ite_y rfl (wp_val (.agg #[.int .i64 2, .int .i64 1, .int .i64 2, .int .u32 3]) ?_ ?_)
                  · simp only [execOp, eval_tmp, tt]; simp [go_sem, dd0, dd1, dd2, dd3]
                  · exact ⟨_, rfl, Below.refl _ _, rfl⟩
                · intro a W hb0 hs hp hi; have hb := undrew hb0; clear hb0
                  refine ite_y rfl (wp_val' (w' := W.alloc (.cells #[.int .u8 1, .int .u8 2] 5)) (.slice (some ⟨W.heap.size, 0, none⟩) 2 2) ?_ ?_)
                  · simp only [execOp, eval_tmp, eval_const]; simp [go_sem]
                  · exact ⟨_, rfl, (al (Below.refl _ _) (Nat.le_refl _)), _, _, _, rfl, sl_block ([1, 2]) 2 (hnew rfl) rfl rfl (by simp [maxLen])⟩
                · intro a W hb0 hs hp hi; have hb := undrew hb0; clear hb0
                  have t4 : sl a 4 = .pointer (some ⟨ga, 0, none⟩) := hi 4 (by decide)
                  refine ite_y rfl (wp_val (.slice (some ⟨ga, 0, none⟩) 2 2) ?_ ?_)
                  · simp only [execOp, eval_tmp, eval_const, t4]; simp [go_sem]
                  · exact ⟨_, rfl, Below.refl _ _, rfl⟩
                · intro a W hb0 hs hp hi; have hb := undrew hb0; clear hb0
                  have t2 : sl a 2 = B8 f := hi 2 (by decide)
                  exact ite_y rfl (wp_val (sl a 2) rfl ⟨_, rfl, Below.refl _ _, t2⟩)
                · intro a W hb0 hs hp hi; have hb := undrew hb0; clear hb0
                  have t20 : sl a 20 = .int .i64 (i : Nat) := hi 20 (by decide)
                  exact ite_y rfl (wp_val (sl a 20) rfl ⟨_, rfl, Below.refl _ _, t20⟩)
                · intro a W hb0 hs hp hi; have hb := undrew hb0; clear hb0
                  have tt : sl a 102 = .int .i64 (i : Nat) := hp 4 (by decide)
                  refine ite_y rfl (wp_val (B8 b8) ?_ ?_)
                  · simp only [execOp, eval_tmp, tt]; simp [go_sem, A1]
                  · exact ⟨_, rfl, Below.refl _ _, rfl⟩
                · intro a W hb0 hs hp hi; have hb := undrew hb0; clear hb0
                  have t101 : sl a 101 = B8 f := hp 3 (by decide)
                  have t103 : sl a 103 = B8 b8 := hp 5 (by decide)
                  have v101 : a.tmps[101]?.getD undef = sl a 101 := by simp [sl]
                  rw [t101] at v101
                  have v103 : a.tmps[103]?.getD undef = sl a 103 := by simp [sl]
                  rw [t103] at v103
                  refine ite_y rfl (wp_val' (w' := W.alloc (.cells #[B8 f, B8 b8] 5)) (.slice (some ⟨W.heap.size, 0, none⟩) 2 2) ?_ ?_)
                  · simp only [execOp, eval_tmp, eval_const, t101, t103]; simp [go_sem, v101, v103]
                  · exact ⟨_, rfl, (al (Below.refl _ _) (Nat.le_refl _)), _, _, _, rfl, sl_block ([f, b8]) 2 (hnew rfl) rfl rfl (by simp [maxLen])⟩
                · intro a W hb0 hs hp hi; have hb := undrew hb0; clear hb0
                  have t100 : sl a 100 = .slice (some ⟨ga, 0, none⟩) 2 2 := hp 2 (by decide)
                  have t104 : BytesIs ([f, b8]) (sl a 104) W := hp 6 (by decide)
                  obtain ⟨y104a, y104b, y104c, t104, z104a⟩ := t104
                  have v100 : a.tmps[100]?.getD undef = sl a 100 := by simp [sl]
                  rw [t100] at v100
                  have v104 : a.tmps[104]?.getD undef = sl a 104 := by simp [sl]
                  rw [t104] at v104
                  refine ite_y rfl (wp_val' (w' := W.alloc (.cells #[.slice (some ⟨ga, 0, none⟩) 2 2, .slice y104a y104b y104c] 22)) (.slice (some ⟨W.heap.size, 0, none⟩) 2 2) ?_ ?_)
                  · simp only [execOp, eval_tmp, eval_const, t100, t104]; simp [go_sem, v100, v104]
                  · exact ⟨_, rfl, (al (Below.refl _ _) (Nat.le_refl _)), _, _, _, rfl, sl2_pair (hnew rfl) ((SX.out.keep hb).keep (al (Below.refl _ _) (Nat.le_refl _))) (z104a.keep (al (Below.refl _ _) (Nat.le_refl _)))⟩
                · intro a W hb0 hs hp hi; have hb := undrew hb0; clear hb0
                  have t98 : sl a 98 = .agg #[.int .i64 2, .int .i64 1, .int .i64 2, .int .u32 3] := hp 0 (by decide)
                  have t99 : BytesIs ([1, 2]) (sl a 99) W := hp 1 (by decide)
                  obtain ⟨y99a, y99b, y99c, t99, z99a⟩ := t99
                  have t105 : RowsIs ([[x0, x1], [f, b8]]) (sl a 105) W := hp 7 (by decide)
                  obtain ⟨y105a, y105b, y105c, t105, z105a⟩ := t105
                  refine ite_y rfl (wp_enter 25 #[.agg #[.int .i64 2, .int .i64 1, .int .i64 2, .int .u32 3], .slice y99a y99b y99c, .slice y105a y105b y105c] ?_ (HRs.out W y99a y99b y99c y105a y105b y105c (bl HBM.out hb HBM.out.size) z99a z105a) ?_)
                  · simp only [execOp, resolve, List.map_toArray, List.map, eval_tmp, eval_func, eval_const, t98, t99, t105]; simp [go_sem]
                  · rintro e W' ⟨rfl, hw⟩; exact ⟨_, rfl, _, rfl, hw, rfl⟩
                · intro a W hb0 hs hp hi; have hb := undrew hb0; clear hb0
                  have t106 : sl a 106 = .tuple #[.int .i64 (Sb : Nat), .bool true] := hp 8 (by decide)
                  exact ite_y rfl (wp_val (sl a 106) rfl ⟨_, rfl, Below.refl _ _, t106⟩)
                · intro a W hb0 hs hp hi; have hb := undrew hb0; clear hb0
                  have tt : sl a 97 = .tuple #[.int .i64 (Sb : Nat), .bool true] := hp 9 (by decide)
                  refine ite_y rfl (wp_val (.int .i64 (Sb : Nat)) ?_ ?_)
                  · simp only [execOp, eval_tmp, tt]; rfl
                  · exact ⟨_, rfl, Below.refl _ _, rfl⟩
                · intro a W hb0 hs hp hi; have hb := undrew hb0; clear hb0
                  have tt : sl a 97 = .tuple #[.int .i64 (Sb : Nat), .bool true] := hp 9 (by decide)
                  refine ite_y rfl (wp_val (.bool true) ?_ ?_)
                  · simp only [execOp, eval_tmp, tt]; rfl
                  · exact ⟨_, rfl, Below.refl _ _, rfl⟩
                · intro a W hb0 hs hp hi; have hb := undrew hb0; clear hb0
                  have t107 : sl a 107 = .int .i64 (Sb : Nat) := hp 10 (by decide)
                  exact ite_y rfl (wp_val (sl a 107) rfl ⟨_, rfl, Below.refl _ _, t107⟩)
                · intro a W hb0 hs hp hi; have hb := undrew hb0; clear hb0
                  have t108 : sl a 108 = .bool true := hp 11 (by decide)
                  exact ite_y rfl (wp_val (sl a 108) rfl ⟨_, rfl, Below.refl _ _, t108⟩)
              intro a w2 hb hs hd hI ht
              have ha := act_is [98, 99, 100, 101, 102, 103, 104, 105, 106, 97, 107, 108, 21, 22] hs hd ht (by decide)
              have t21 : sl a 21 = .int .i64 (Sb : Nat) := hI 12 (by decide)
              have t22 : sl a 22 = .bool true := hI 13 (by decide)
              simp only [List.foldl, t21, t22] at ha
              generalize sl a 98 = u98 at ha
              generalize sl a 99 = u99 at ha
              generalize sl a 100 = u100 at ha
              generalize sl a 101 = u101 at ha
              generalize sl a 102 = u102 at ha
              generalize sl a 103 = u103 at ha
              generalize sl a 104 = u104 at ha
              generalize sl a 105 = u105 at ha
              generalize sl a 106 = u106 at ha
              generalize sl a 97 = u97 at ha
              generalize sl a 107 = u107 at ha
              generalize sl a 108 = u108 at ha
              simp only [Act.put, List.setIfInBounds_toArray, List.set_cons_zero, List.set_cons_succ] at ha
              rw [ha]
              clear ha hI ht
              have HR2 := Lib.hid (HR.out.keep hb)
              clear hb HR HRs z0 z1 z2 z3 SX HBM A1
              have hu : IntKind.u64.wrap ((cn : Int) + 1) = ((cn + 1 : Nat) : Int) := by rw [IntKind.wrap_u64]; omega
              go_wp2
              go_roundw
              case rel => exact ⟨i + 1, by have := HI.out; omega, by go_num, by rw [HC.out, HGI.out]; go_num, HR2.out⟩
              case measure => simp [intOf]; have := HI.out; omega
            · have hd : ((Sb : Int) == 0) = false := by rw [beq_eq_false_iff_ne]; omega
              have HGI : Hid (g i = false) := by show _ = _; rw [hgi]; exact decide_eq_false hSR
              clear hgi hSR
              go_wp2_with fail
              refine wp_region_shapes (fun ix => ([.val (.agg #[.int .i64 2, .int .i64 1, .int .i64 2, .int .u32 3]), .bytes ([1, 2]), .val (.slice (some ⟨ga, 0, none⟩) 2 2), .val (B8 f), .val (.int .i64 (i : Nat)), .val (B8 b8), .bytes ([f, b8]), .rows ([[x0, x1], [f, b8]]), .val (.tuple #[.int .i64 (Sb : Nat), .bool true]), .val (.tuple #[.int .i64 (Sb : Nat), .bool true]), .val (.int .i64 (Sb : Nat)), .val (.bool true), .val (.int .i64 (Sb : Nat)), .val (.bool true)][ix]?).getD (.any)) 181 rfl (by kernel_rfl) (by decide +kernel) (by decide +kernel) (by decide +kernel) ?_ ?_
              · refine ⟨?_, ?_, ?_, ?_, ?_, ?_, ?_, ?_, ?_, ?_, ?_, ?_, ?_, ?_, trivial⟩
                · intro a W hb0 hs hp hi; have hb := undrew hb0; clear hb0
                  have tt : sl a 9 = .pointer (some ⟨g9, 0, none⟩) := hi 9 (by decide)
                  have dd0 := (hb.cell (p := ⟨g9, 0, none⟩) (lt_of_cell z0)).trans z0
                  have dd1 := (hb.cell (p := ⟨g9, 1, none⟩) (lt_of_cell z1)).trans z1
                  have dd2 := (hb.cell (p := ⟨g9, 2, none⟩) (lt_of_cell z2)).trans z2
                  have dd3 := (hb.cell (p := ⟨g9, 3, none⟩) (lt_of_cell z3)).trans z3
                  refine ite_y rfl (wp_val (.agg #[.int .i64 2, .int .i64 1, .int .i64 2, .int .u32 3]) ?_ ?_)
                  · simp only [execOp, eval_tmp, tt]; simp [go_sem, dd0, dd1, dd2, dd3]
                  · exact ⟨_, rfl, Below.refl _ _, rfl⟩
                · intro a W hb0 hs hp hi; have hb := undrew hb0; clear hb0
                  refine ite_y rfl (wp_val' (w' := W.alloc (.cells #[.int .u8 1, .int .u8 2] 5)) (.slice (some ⟨W.heap.size, 0, none⟩) 2 2) ?_ ?_)
                  · simp only [execOp, eval_tmp, eval_const]; simp [go_sem]
                  · exact ⟨_, rfl, (al (Below.refl _ _) (Nat.le_refl _)), _, _, _, rfl, sl_block ([1, 2]) 2 (hnew rfl) rfl rfl (by simp [maxLen])⟩
                · intro a W hb0 hs hp hi; have hb := undrew hb0; clear hb0
                  have t4 : sl a 4 = .pointer (some ⟨ga, 0, none⟩) := hi 4 (by decide)
                  refine ite_y rfl (wp_val (.slice (some ⟨ga, 0, none⟩) 2 2) ?_ ?_)
                  · simp only [execOp, eval_tmp, eval_const, t4]; simp [go_sem]
                  · exact ⟨_, rfl, Below.refl _ _, rfl⟩
                · intro a W hb0 hs hp hi; have hb := undrew hb0; clear hb0
                  have t2 : sl a 2 = B8 f := hi 2 (by decide)
                  exact ite_y rfl (wp_val (sl a 2) rfl ⟨_, rfl, Below.refl _ _, t2⟩)
                · intro a W hb0 hs hp hi; have hb := undrew hb0; clear hb0
                  have t20 : sl a 20 = .int .i64 (i : Nat) := hi 20 (by decide)
                  exact ite_y rfl (wp_val (sl a 20) rfl ⟨_, rfl, Below.refl _ _, t20⟩)
                · intro a W hb0 hs hp hi; have hb := undrew hb0; clear hb0
                  have tt : sl a 102 = .int .i64 (i : Nat) := hp 4 (by decide)
                  refine ite_y rfl (wp_val (B8 b8) ?_ ?_)
                  · simp only [execOp, eval_tmp, tt]; simp [go_sem, A1]
                  · exact ⟨_, rfl, Below.refl _ _, rfl⟩
                · intro a W hb0 hs hp hi; have hb := undrew hb0; clear hb0
                  have t101 : sl a 101 = B8 f := hp 3 (by decide)
                  have t103 : sl a 103 = B8 b8 := hp 5 (by decide)
                  have v101 : a.tmps[101]?.getD undef = sl a 101 := by simp [sl]
                  rw [t101] at v101
                  have v103 : a.tmps[103]?.getD undef = sl a 103 := by simp [sl]
                  rw [t103] at v103
                  refine ite_y rfl (wp_val' (w' := W.alloc (.cells #[B8 f, B8 b8] 5)) (.slice (some ⟨W.heap.size, 0, none⟩) 2 2) ?_ ?_)
                  · simp only [execOp, eval_tmp, eval_const, t101, t103]; simp [go_sem, v101, v103]
                  · exact ⟨_, rfl, (al (Below.refl _ _) (Nat.le_refl _)), _, _, _, rfl, sl_block ([f, b8]) 2 (hnew rfl) rfl rfl (by simp [maxLen])⟩
                · intro a W hb0 hs hp hi; have hb := undrew hb0; clear hb0
                  have t100 : sl a 100 = .slice (some ⟨ga, 0, none⟩) 2 2 := hp 2 (by decide)
                  have t104 : BytesIs ([f, b8]) (sl a 104) W := hp 6 (by decide)
                  obtain ⟨y104a, y104b, y104c, t104, z104a⟩ := t104
                  have v100 : a.tmps[100]?.getD undef = sl a 100 := by simp [sl]
                  rw [t100] at v100
                  have v104 : a.tmps[104]?.getD undef = sl a 104 := by simp [sl]
                  rw [t104] at v104
                  refine ite_y rfl (wp_val' (w' := W.alloc (.cells #[.slice (some ⟨ga, 0, none⟩) 2 2, .slice y104a y104b y104c] 22)) (.slice (some ⟨W.heap.size, 0, none⟩) 2 2) ?_ ?_)
                  · simp only [execOp, eval_tmp, eval_const, t100, t104]; simp [go_sem, v100, v104]
                  · exact ⟨_, rfl, (al (Below.refl _ _) (Nat.le_refl _)), _, _, _, rfl, sl2_pair (hnew rfl) ((SX.out.keep hb).keep (al (Below.refl _ _) (Nat.le_refl _))) (z104a.keep (al (Below.refl _ _) (Nat.le_refl _)))⟩
                · intro a W hb0 hs hp hi; have hb := undrew hb0; clear hb0
                  have t98 : sl a 98 = .agg #[.int .i64 2, .int .i64 1, .int .i64 2, .int .u32 3] := hp 0 (by decide)
                  have t99 : BytesIs ([1, 2]) (sl a 99) W := hp 1 (by decide)
                  obtain ⟨y99a, y99b, y99c, t99, z99a⟩ := t99
                  have t105 : RowsIs ([[x0, x1], [f, b8]]) (sl a 105) W := hp 7 (by decide)
                  obtain ⟨y105a, y105b, y105c, t105, z105a⟩ := t105
                  refine ite_y rfl (wp_enter 25 #[.agg #[.int .i64 2, .int .i64 1, .int .i64 2, .int .u32 3], .slice y99a y99b y99c, .slice y105a y105b y105c] ?_ (HRs.out W y99a y99b y99c y105a y105b y105c (bl HBM.out hb HBM.out.size) z99a z105a) ?_)
                  · simp only [execOp, resolve, List.map_toArray, List.map, eval_tmp, eval_func, eval_const, t98, t99, t105]; simp [go_sem]
                  · rintro e W' ⟨rfl, hw⟩; exact ⟨_, rfl, _, rfl, hw, rfl⟩
                · intro a W hb0 hs hp hi; have hb := undrew hb0; clear hb0
                  have t106 : sl a 106 = .tuple #[.int .i64 (Sb : Nat), .bool true] := hp 8 (by decide)
                  exact ite_y rfl (wp_val (sl a 106) rfl ⟨_, rfl, Below.refl _ _, t106⟩)
                · intro a W hb0 hs hp hi; have hb := undrew hb0; clear hb0
                  have tt : sl a 97 = .tuple #[.int .i64 (Sb : Nat), .bool true] := hp 9 (by decide)
                  refine ite_y rfl (wp_val (.int .i64 (Sb : Nat)) ?_ ?_)
                  · simp only [execOp, eval_tmp, tt]; rfl
                  · exact ⟨_, rfl, Below.refl _ _, rfl⟩
                · intro a W hb0 hs hp hi; have hb := undrew hb0; clear hb0
                  have tt : sl a 97 = .tuple #[.int .i64 (Sb : Nat), .bool true] := hp 9 (by decide)
                  refine ite_y rfl (wp_val (.bool true) ?_ ?_)
                  · simp only [execOp, eval_tmp, tt]; rfl
                  · exact ⟨_, rfl, Below.refl _ _, rfl⟩
                · intro a W hb0 hs hp hi; have hb := undrew hb0; clear hb0
                  have t107 : sl a 107 = .int .i64 (Sb : Nat) := hp 10 (by decide)
                  exact ite_y rfl (wp_val (sl a 107) rfl ⟨_, rfl, Below.refl _ _, t107⟩)
                · intro a W hb0 hs hp hi; have hb := undrew hb0; clear hb0
                  have t108 : sl a 108 = .bool true := hp 11 (by decide)
                  exact ite_y rfl (wp_val (sl a 108) rfl ⟨_, rfl, Below.refl _ _, t108⟩)
              intro a w2 hb hs hd hI ht
              have ha := act_is [98, 99, 100, 101, 102, 103, 104, 105, 106, 97, 107, 108, 21, 22] hs hd ht (by decide)
              have t21 : sl a 21 = .int .i64 (Sb : Nat) := hI 12 (by decide)
              have t22 : sl a 22 = .bool true := hI 13 (by decide)
              simp only [List.foldl, t21, t22] at ha
              generalize sl a 98 = u98 at ha
              generalize sl a 99 = u99 at ha
              generalize sl a 100 = u100 at ha
              generalize sl a 101 = u101 at ha
              generalize sl a 102 = u102 at ha
              generalize sl a 103 = u103 at ha
              generalize sl a 104 = u104 at ha
              generalize sl a 105 = u105 at ha
              generalize sl a 106 = u106 at ha
              generalize sl a 97 = u97 at ha
              generalize sl a 107 = u107 at ha
              generalize sl a 108 = u108 at ha
              simp only [Act.put, List.setIfInBounds_toArray, List.set_cons_zero, List.set_cons_succ] at ha
              rw [ha]
              clear ha hI ht
              have HR2 := Lib.hid (HR.out.keep hb)
              clear hb HR HRs z0 z1 z2 z3 SX HBM A1
              go_wp2
              go_roundw
              case rel => exact ⟨i + 1, by have := HI.out; omega, by go_num, by rw [HC.out, HGI.out]; go_num, HR2.out⟩
              case measure => simp [intOf]; have := HI.out; omega
          · obtain rfl : i = 256 := by omega
            have HRE := Lib.hid HR.out
            clear hlt hi HR HRd
            have gT : ∀ b, g b = true ↔ S (UInt8.ofNat b) = 0 := fun b => by rw [HG.out]; simp
            have gF : ∀ b, S (UInt8.ofNat b) ≠ 0 → g b = false := fun b h => by rw [HG.out]; simpa using h
            have hS := HSS.out
            by_cases hf : f = 0
            · have hc : cntB g 256 = 1 := cntB_one (u := 0) 256 (by decide) (fun i hi => by
                rw [gT]
                constructor
                · intro h
                  have h2 := congrArg UInt8.toNat ((hS _).1 h).2
                  simp at h2; omega
                · rintro rfl; exact (hS _).2 ⟨hf, rfl⟩)
              rw [show ((cntB g 256 : Nat) : Int) = 1 by rw [hc]; rfl]
              rw [show B8 f = .int .u8 0 by rw [hf]; rfl]
              have SP : Hid (∀ W, Calls Tryz.prog 27 #[.int .i64 0] W (RetN 44 W 1)) := fun W => by have h := Spare_any 0 (by decide) W; rwa [show (256 : Nat) ^ 0 = 1 from rfl] at h
              clear gT gF hc hS HG HSS
              go_wp2_with fail
              refine Calls.mono (SP.out _) ?_
              rintro e w9 ⟨qf, nf, cf, rfl, hw, hb⟩
              have HM9 := Lib.hid (HRE.out.keep hb)
              have HW9 := Lib.hid hw
              clear hb hw HRE SP
              have hA9 := NBox.new (T := 40) HW9.out
              have ba : Below w9.heap.size w9 (w9.alloc (.cells #[.slice qf nf cf] 40 (0, 0))) := al (Below.refl _ _) (Nat.le_refl _)
              go_wp2
              have HMa := Lib.hid (HM9.out.keep ba)
              obtain ⟨g23, hg23⟩ : ∃ g23, g23 = w9.heap.size := ⟨_, rfl⟩
              rw [← hg23] at hA9 ⊢
              generalize w9.alloc (.cells #[.slice qf nf cf] 40 (0, 0)) = wa at *
              obtain ⟨qz, nz, cz, kz, wz⟩ := hA9
              have HWZ := Lib.hid wz
              obtain ⟨_, z0, z1, z2, z3⟩ := One.of kz
              clear ba HM9 HW9 hg23 wz
              go_wp2_with fail
              refine wp_region_shapes (fun ix => ([.val (.int .i64 0), .val (.bool true), .val (.bool true), .val (.agg #[.slice qz nz cz]), (ShNmV 1), .val (.int .i64 0), .val (.bool true), .val (.bool true), .val (.bool true), .val (.int .u64 1), .val (.bool true), .val (.int .u8 0), .val (.bool true), .val (.bool true), .val (.bool true), .val (.bool true)][ix]?).getD (.any)) 181 rfl (by kernel_rfl) (by decide +kernel) (by decide +kernel) (by decide +kernel) ?_ ?_
              · refine ⟨?_, ?_, ?_, ?_, ?_, ?_, ?_, ?_, ?_, ?_, ?_, ?_, ?_, ?_, ?_, ?_, trivial⟩
                · intro a W hb0 hs hp hi; have hb := undrew hb0; clear hb0
                  have t24 : sl a 24 = .int .i64 0 := hi 24 (by decide)
                  exact ite_y rfl (wp_val (sl a 24) rfl ⟨_, rfl, Below.refl _ _, t24⟩)
                · intro a W hb0 hs hp hi; have hb := undrew hb0; clear hb0
                  have t125 : sl a 125 = .int .i64 0 := hp 0 (by decide)
                  refine ite_y rfl (wp_val (.bool true) ?_ ?_)
                  · simp only [execOp, eval_tmp, eval_const, t125]; simp [go_sem]
                  · exact ⟨_, rfl, Below.refl _ _, rfl⟩
                · intro a W hb0 hs hp hi; have hb := undrew hb0; clear hb0
                  have t126 : sl a 126 = .bool true := hp 1 (by decide)
                  exact ite_y rfl (wp_val (sl a 126) rfl ⟨_, rfl, Below.refl _ _, t126⟩)
                · intro a W hb0 hs hp hi; have hb := undrew hb0; clear hb0
                  have tg : sl a 127 = .bool true := hp 2 (by decide)
                  have tt : sl a 23 = .pointer (some ⟨g23, 0, none⟩) := hi 23 (by decide)
                  have dd0 := (hb.cell (p := ⟨g23, 0, none⟩) (lt_of_cell z0)).trans z0
                  refine ite_y (wanted_yes rfl rfl (by have hz : a.tmps.size = 181 := hs; rw [hz]; decide) tg) (wp_val (.agg #[.slice qz nz cz]) ?_ ?_)
                  · simp only [execOp, eval_tmp, tt]; simp [go_sem, dd0]
                  · exact ⟨_, rfl, Below.refl _ _, rfl⟩
                · intro a W hb0 hs hp hi; have hb := undrew hb0; clear hb0
                  have tg : sl a 127 = .bool true := hp 2 (by decide)
                  refine ite_y (wanted_yes rfl rfl (by have hz : a.tmps.size = 181 := hs; rw [hz]; decide) tg) (wp_enter 16 #[.int .u64 1] ?_ (Of_k 1 (by decide) W) ?_)
                  · simp only [execOp, resolve, List.map_toArray, List.map, eval_tmp, eval_func, eval_const]; simp [go_sem]
                  · rintro e W' ⟨q, n, c, rfl, hw, hb'⟩; exact ⟨_, rfl, _, rfl, hb', q, n, c, rfl, hw⟩
                · intro a W hb0 hs hp hi; have hb := undrew hb0; clear hb0
                  have tg : sl a 127 = .bool true := hp 2 (by decide)
                  have tA : sl a 128 = .agg #[.slice qz nz cz] := hp 3 (by decide)
                  have tB : NmV 1 (sl a 129) W := hp 4 (by decide)
                  obtain ⟨ya, yb, yc, tB, zz⟩ := tB
                  refine ite_y (wanted_yes rfl rfl (by have hz : a.tmps.size = 181 := hs; rw [hz]; decide) tg) (wp_enter 22 #[.agg #[.slice qz nz cz], .agg #[.slice ya yb yc]] ?_ (Cmp_same (HWZ.out.keep hb) zz rfl) ?_)
                  · simp only [execOp, resolve, List.map_toArray, List.map, eval_tmp, eval_func, eval_const, tA, tB]; simp [go_sem]
                  · rintro e W' ⟨rfl, hw⟩; exact ⟨_, rfl, _, rfl, hw, rfl⟩
                · intro a W hb0 hs hp hi; have hb := undrew hb0; clear hb0
                  have tg : sl a 127 = .bool true := hp 2 (by decide)
                  have t130 : sl a 130 = .int .i64 0 := hp 5 (by decide)
                  refine ite_y (wanted_yes rfl rfl (by have hz : a.tmps.size = 181 := hs; rw [hz]; decide) tg) (wp_val (.bool true) ?_ ?_)
                  · simp only [execOp, eval_tmp, eval_const, t130]; simp [go_sem]
                  · exact ⟨_, rfl, Below.refl _ _, rfl⟩
                · intro a W hb0 hs hp hi; have hb := undrew hb0; clear hb0
                  have t127 : sl a 127 = .bool true := hp 2 (by decide)
                  have t131 : sl a 131 = .bool true := hp 6 (by decide)
                  refine ite_y rfl (wp_val (.bool true) ?_ ?_)
                  · simp only [execOp, eval_tmp, eval_const, t127, t131]; simp [go_sem]
                  · exact ⟨_, rfl, Below.refl _ _, rfl⟩
                · intro a W hb0 hs hp hi; have hb := undrew hb0; clear hb0
                  have t132 : sl a 132 = .bool true := hp 7 (by decide)
                  exact ite_y rfl (wp_val (sl a 132) rfl ⟨_, rfl, Below.refl _ _, t132⟩)
                · intro a W hb0 hs hp hi; have hb := undrew hb0; clear hb0
                  have tg : sl a 133 = .bool true := hp 8 (by decide)
                  have t19 : sl a 19 = .int .u64 1 := hi 19 (by decide)
                  exact ite_y (wanted_yes rfl rfl (by have hz : a.tmps.size = 181 := hs; rw [hz]; decide) tg) (wp_val (sl a 19) rfl ⟨_, rfl, Below.refl _ _, t19⟩)
                · intro a W hb0 hs hp hi; have hb := undrew hb0; clear hb0
                  have tg : sl a 133 = .bool true := hp 8 (by decide)
                  have t134 : sl a 134 = .int .u64 1 := hp 9 (by decide)
                  refine ite_y (wanted_yes rfl rfl (by have hz : a.tmps.size = 181 := hs; rw [hz]; decide) tg) (wp_val (.bool true) ?_ ?_)
                  · simp only [execOp, eval_tmp, eval_const, t134]; simp [go_sem]
                  · exact ⟨_, rfl, Below.refl _ _, rfl⟩
                · intro a W hb0 hs hp hi; have hb := undrew hb0; clear hb0
                  have tg : sl a 133 = .bool true := hp 8 (by decide)
                  have t2 : sl a 2 = .int .u8 0 := hi 2 (by decide)
                  exact ite_y (wanted_yes rfl rfl (by have hz : a.tmps.size = 181 := hs; rw [hz]; decide) tg) (wp_val (sl a 2) rfl ⟨_, rfl, Below.refl _ _, t2⟩)
                · intro a W hb0 hs hp hi; have hb := undrew hb0; clear hb0
                  have tg : sl a 133 = .bool true := hp 8 (by decide)
                  have t136 : sl a 136 = .int .u8 0 := hp 11 (by decide)
                  refine ite_y (wanted_yes rfl rfl (by have hz : a.tmps.size = 181 := hs; rw [hz]; decide) tg) (wp_val (.bool true) ?_ ?_)
                  · simp only [execOp, eval_tmp, eval_const, t136]; simp [go_sem]
                  · exact ⟨_, rfl, Below.refl _ _, rfl⟩
                · intro a W hb0 hs hp hi; have hb := undrew hb0; clear hb0
                  have tg : sl a 133 = .bool true := hp 8 (by decide)
                  have t135 : sl a 135 = .bool true := hp 10 (by decide)
                  have t137 : sl a 137 = .bool true := hp 12 (by decide)
                  refine ite_y (wanted_yes rfl rfl (by have hz : a.tmps.size = 181 := hs; rw [hz]; decide) tg) (wp_val (.bool true) ?_ ?_)
                  · simp only [execOp, eval_tmp, eval_const, t135, t137]; simp [go_sem]
                  · exact ⟨_, rfl, Below.refl _ _, rfl⟩
                · intro a W hb0 hs hp hi; have hb := undrew hb0; clear hb0
                  have t133 : sl a 133 = .bool true := hp 8 (by decide)
                  have t138 : sl a 138 = .bool true := hp 13 (by decide)
                  refine ite_y rfl (wp_val (.bool true) ?_ ?_)
                  · simp only [execOp, eval_tmp, eval_const, t133, t138]; simp [go_sem]
                  · exact ⟨_, rfl, Below.refl _ _, rfl⟩
                · intro a W hb0 hs hp hi; have hb := undrew hb0; clear hb0
                  have t139 : sl a 139 = .bool true := hp 14 (by decide)
                  exact ite_y rfl (wp_val (sl a 139) rfl ⟨_, rfl, Below.refl _ _, t139⟩)
              intro a wz hb hs hd hI ht
              have ha := act_is [125, 126, 127, 128, 129, 130, 131, 132, 133, 134, 135, 136, 137, 138, 139, 6] hs hd ht (by decide)
              have t6 : sl a 6 = .bool true := hI 15 (by decide)
              simp only [List.foldl, t6] at ha
              generalize sl a 125 = u125 at ha
              generalize sl a 126 = u126 at ha
              generalize sl a 127 = u127 at ha
              generalize sl a 128 = u128 at ha
              generalize sl a 129 = u129 at ha
              generalize sl a 130 = u130 at ha
              generalize sl a 131 = u131 at ha
              generalize sl a 132 = u132 at ha
              generalize sl a 133 = u133 at ha
              generalize sl a 134 = u134 at ha
              generalize sl a 135 = u135 at ha
              generalize sl a 136 = u136 at ha
              generalize sl a 137 = u137 at ha
              generalize sl a 138 = u138 at ha
              generalize sl a 139 = u139 at ha
              simp only [Act.put, List.setIfInBounds_toArray, List.set_cons_zero, List.set_cons_succ] at ha
              rw [ha]
              clear ha hI ht
              have HBZ := Lib.hid (bl HMa.out.bel hb HMa.out.bel.size)
              clear hb
              go_wp2
              go_ret
              exact ⟨rfl, HBZ.out⟩
            · have hc : cntB g 256 = 0 := cntB_none 256 (fun i hi => gF i (fun h => hf ((hS _).1 h).1))
              rw [show ((cntB g 256 : Nat) : Int) = 0 by rw [hc]; rfl]
              have hf1 : ((f.toNat : Int) == 0) = false := by rw [nat_eq_zero]; exact decide_eq_false hf
              have SP : Hid (∀ W, Calls Tryz.prog 27 #[.int .i64 0] W (RetN 44 W 1)) := fun W => by have h := Spare_any 0 (by decide) W; rwa [show (256 : Nat) ^ 0 = 1 from rfl] at h
              clear gT gF hc hS HG HSS
              go_wp2_with fail
              refine Calls.mono (SP.out _) ?_
              rintro e w9 ⟨qf, nf, cf, rfl, hw, hb⟩
              have HM9 := Lib.hid (HRE.out.keep hb)
              have HW9 := Lib.hid hw
              clear hb hw HRE SP
              have hA9 := NBox.new (T := 40) HW9.out
              have ba : Below w9.heap.size w9 (w9.alloc (.cells #[.slice qf nf cf] 40 (0, 0))) := al (Below.refl _ _) (Nat.le_refl _)
              go_wp2
              have HMa := Lib.hid (HM9.out.keep ba)
              obtain ⟨g23, hg23⟩ : ∃ g23, g23 = w9.heap.size := ⟨_, rfl⟩
              rw [← hg23] at hA9 ⊢
              generalize w9.alloc (.cells #[.slice qf nf cf] 40 (0, 0)) = wa at *
              obtain ⟨qz, nz, cz, kz, wz⟩ := hA9
              have HWZ := Lib.hid wz
              obtain ⟨_, z0, z1, z2, z3⟩ := One.of kz
              clear ba HM9 HW9 hg23 wz
              go_wp2_with fail
              refine wp_region_shapes (fun ix => ([.val (.int .i64 0), .val (.bool true), .val (.bool true), .val (.agg #[.slice qz nz cz]), (ShNmV 1), .val (.int .i64 0), .val (.bool true), .val (.bool true), .val (.bool true), .val (.int .u64 0), .val (.bool false), .val (B8 f), .val (.bool false), .val (.bool true), .val (.bool true), .val (.bool true)][ix]?).getD (.any)) 181 rfl (by kernel_rfl) (by decide +kernel) (by decide +kernel) (by decide +kernel) ?_ ?_
              · refine ⟨?_, ?_, ?_, ?_, ?_, ?_, ?_, ?_, ?_, ?_, ?_, ?_, ?_, ?_, ?_, ?_, trivial⟩
                · intro a W hb0 hs hp hi; have hb := undrew hb0; clear hb0
                  have t24 : sl a 24 = .int .i64 0 := hi 24 (by decide)
                  exact ite_y rfl (wp_val (sl a 24) rfl ⟨_, rfl, Below.refl _ _, t24⟩)
                · intro a W hb0 hs hp hi; have hb := undrew hb0; clear hb0
                  have t125 : sl a 125 = .int .i64 0 := hp 0 (by decide)
                  refine ite_y rfl (wp_val (.bool true) ?_ ?_)
                  · simp only [execOp, eval_tmp, eval_const, t125]; simp [go_sem]
                  · exact ⟨_, rfl, Below.refl _ _, rfl⟩
                · intro a W hb0 hs hp hi; have hb := undrew hb0; clear hb0
                  have t126 : sl a 126 = .bool true := hp 1 (by decide)
                  exact ite_y rfl (wp_val (sl a 126) rfl ⟨_, rfl, Below.refl _ _, t126⟩)
                · intro a W hb0 hs hp hi; have hb := undrew hb0; clear hb0
                  have tg : sl a 127 = .bool true := hp 2 (by decide)
                  have tt : sl a 23 = .pointer (some ⟨g23, 0, none⟩) := hi 23 (by decide)
                  have dd0 := (hb.cell (p := ⟨g23, 0, none⟩) (lt_of_cell z0)).trans z0
                  refine ite_y (wanted_yes rfl rfl (by have hz : a.tmps.size = 181 := hs; rw [hz]; decide) tg) (wp_val (.agg #[.slice qz nz cz]) ?_ ?_)
                  · simp only [execOp, eval_tmp, tt]; simp [go_sem, dd0]
                  · exact ⟨_, rfl, Below.refl _ _, rfl⟩
                · intro a W hb0 hs hp hi; have hb := undrew hb0; clear hb0
                  have tg : sl a 127 = .bool true := hp 2 (by decide)
                  refine ite_y (wanted_yes rfl rfl (by have hz : a.tmps.size = 181 := hs; rw [hz]; decide) tg) (wp_enter 16 #[.int .u64 1] ?_ (Of_k 1 (by decide) W) ?_)
                  · simp only [execOp, resolve, List.map_toArray, List.map, eval_tmp, eval_func, eval_const]; simp [go_sem]
                  · rintro e W' ⟨q, n, c, rfl, hw, hb'⟩; exact ⟨_, rfl, _, rfl, hb', q, n, c, rfl, hw⟩
                · intro a W hb0 hs hp hi; have hb := undrew hb0; clear hb0
                  have tg : sl a 127 = .bool true := hp 2 (by decide)
                  have tA : sl a 128 = .agg #[.slice qz nz cz] := hp 3 (by decide)
                  have tB : NmV 1 (sl a 129) W := hp 4 (by decide)
                  obtain ⟨ya, yb, yc, tB, zz⟩ := tB
                  refine ite_y (wanted_yes rfl rfl (by have hz : a.tmps.size = 181 := hs; rw [hz]; decide) tg) (wp_enter 22 #[.agg #[.slice qz nz cz], .agg #[.slice ya yb yc]] ?_ (Cmp_same (HWZ.out.keep hb) zz rfl) ?_)
                  · simp only [execOp, resolve, List.map_toArray, List.map, eval_tmp, eval_func, eval_const, tA, tB]; simp [go_sem]
                  · rintro e W' ⟨rfl, hw⟩; exact ⟨_, rfl, _, rfl, hw, rfl⟩
                · intro a W hb0 hs hp hi; have hb := undrew hb0; clear hb0
                  have tg : sl a 127 = .bool true := hp 2 (by decide)
                  have t130 : sl a 130 = .int .i64 0 := hp 5 (by decide)
                  refine ite_y (wanted_yes rfl rfl (by have hz : a.tmps.size = 181 := hs; rw [hz]; decide) tg) (wp_val (.bool true) ?_ ?_)
                  · simp only [execOp, eval_tmp, eval_const, t130]; simp [go_sem]
                  · exact ⟨_, rfl, Below.refl _ _, rfl⟩
                · intro a W hb0 hs hp hi; have hb := undrew hb0; clear hb0
                  have t127 : sl a 127 = .bool true := hp 2 (by decide)
                  have t131 : sl a 131 = .bool true := hp 6 (by decide)
                  refine ite_y rfl (wp_val (.bool true) ?_ ?_)
                  · simp only [execOp, eval_tmp, eval_const, t127, t131]; simp [go_sem]
                  · exact ⟨_, rfl, Below.refl _ _, rfl⟩
                · intro a W hb0 hs hp hi; have hb := undrew hb0; clear hb0
                  have t132 : sl a 132 = .bool true := hp 7 (by decide)
                  exact ite_y rfl (wp_val (sl a 132) rfl ⟨_, rfl, Below.refl _ _, t132⟩)
                · intro a W hb0 hs hp hi; have hb := undrew hb0; clear hb0
                  have tg : sl a 133 = .bool true := hp 8 (by decide)
                  have t19 : sl a 19 = .int .u64 0 := hi 19 (by decide)
                  exact ite_y (wanted_yes rfl rfl (by have hz : a.tmps.size = 181 := hs; rw [hz]; decide) tg) (wp_val (sl a 19) rfl ⟨_, rfl, Below.refl _ _, t19⟩)
                · intro a W hb0 hs hp hi; have hb := undrew hb0; clear hb0
                  have tg : sl a 133 = .bool true := hp 8 (by decide)
                  have t134 : sl a 134 = .int .u64 0 := hp 9 (by decide)
                  refine ite_y (wanted_yes rfl rfl (by have hz : a.tmps.size = 181 := hs; rw [hz]; decide) tg) (wp_val (.bool false) ?_ ?_)
                  · simp only [execOp, eval_tmp, eval_const, t134]; simp [go_sem]
                  · exact ⟨_, rfl, Below.refl _ _, rfl⟩
                · intro a W hb0 hs hp hi; have hb := undrew hb0; clear hb0
                  have tg : sl a 133 = .bool true := hp 8 (by decide)
                  have t2 : sl a 2 = B8 f := hi 2 (by decide)
                  exact ite_y (wanted_yes rfl rfl (by have hz : a.tmps.size = 181 := hs; rw [hz]; decide) tg) (wp_val (sl a 2) rfl ⟨_, rfl, Below.refl _ _, t2⟩)
                · intro a W hb0 hs hp hi; have hb := undrew hb0; clear hb0
                  have tg : sl a 133 = .bool true := hp 8 (by decide)
                  have t136 : sl a 136 = B8 f := hp 11 (by decide)
                  refine ite_y (wanted_yes rfl rfl (by have hz : a.tmps.size = 181 := hs; rw [hz]; decide) tg) (wp_val (.bool false) ?_ ?_)
                  · simp only [execOp, eval_tmp, eval_const, t136]; simp [go_sem, hf1]
                  · exact ⟨_, rfl, Below.refl _ _, rfl⟩
                · intro a W hb0 hs hp hi; have hb := undrew hb0; clear hb0
                  have tg : sl a 133 = .bool true := hp 8 (by decide)
                  have t135 : sl a 135 = .bool false := hp 10 (by decide)
                  have t137 : sl a 137 = .bool false := hp 12 (by decide)
                  refine ite_y (wanted_yes rfl rfl (by have hz : a.tmps.size = 181 := hs; rw [hz]; decide) tg) (wp_val (.bool true) ?_ ?_)
                  · simp only [execOp, eval_tmp, eval_const, t135, t137]; simp [go_sem]
                  · exact ⟨_, rfl, Below.refl _ _, rfl⟩
                · intro a W hb0 hs hp hi; have hb := undrew hb0; clear hb0
                  have t133 : sl a 133 = .bool true := hp 8 (by decide)
                  have t138 : sl a 138 = .bool true := hp 13 (by decide)
                  refine ite_y rfl (wp_val (.bool true) ?_ ?_)
                  · simp only [execOp, eval_tmp, eval_const, t133, t138]; simp [go_sem]
                  · exact ⟨_, rfl, Below.refl _ _, rfl⟩
                · intro a W hb0 hs hp hi; have hb := undrew hb0; clear hb0
                  have t139 : sl a 139 = .bool true := hp 14 (by decide)
                  exact ite_y rfl (wp_val (sl a 139) rfl ⟨_, rfl, Below.refl _ _, t139⟩)
              intro a wz hb hs hd hI ht
              have ha := act_is [125, 126, 127, 128, 129, 130, 131, 132, 133, 134, 135, 136, 137, 138, 139, 6] hs hd ht (by decide)
              have t6 : sl a 6 = .bool true := hI 15 (by decide)
              simp only [List.foldl, t6] at ha
              generalize sl a 125 = u125 at ha
              generalize sl a 126 = u126 at ha
              generalize sl a 127 = u127 at ha
              generalize sl a 128 = u128 at ha
              generalize sl a 129 = u129 at ha
              generalize sl a 130 = u130 at ha
              generalize sl a 131 = u131 at ha
              generalize sl a 132 = u132 at ha
              generalize sl a 133 = u133 at ha
              generalize sl a 134 = u134 at ha
              generalize sl a 135 = u135 at ha
              generalize sl a 136 = u136 at ha
              generalize sl a 137 = u137 at ha
              generalize sl a 138 = u138 at ha
              generalize sl a 139 = u139 at ha
              simp only [Act.put, List.setIfInBounds_toArray, List.set_cons_zero, List.set_cons_succ] at ha
              rw [ha]
              clear ha hI ht
              have HBZ := Lib.hid (bl HMa.out.bel hb HMa.out.bel.size)
              clear hb
              go_wp2
              go_ret
              exact ⟨rfl, HBZ.out⟩
      ·
        rw [hR] at hS
        have HSS := Lib.hid hS
        rw [show ((R : Nat) : Int) = 1 by rw [hR]; rfl]
        obtain ⟨g, hg⟩ : ∃ g : Nat → Bool, ∀ b, g b = decide (S (UInt8.ofNat b) = 1) := ⟨_, fun _ => rfl⟩
        have HG := Lib.hid hg
        clear hg hR hS HC
        go_wp2
        go_loopw [19, 94] (fun nv iv wr => ∃ i : Nat, i ≤ 256 ∧ iv = .int .i64 (i : Nat) ∧ nv = .int .u64 (cntB g i : Nat) ∧ Hid (OddM w wr ga g7 g9 x0 x1)) (fun _ iv _ => 256 - (intOf iv).toNat)
        case atStart => exact ⟨0, by omega, rfl, rfl, HM8.out⟩
        case round =>
          obtain ⟨i, hi, rfl, rfl, HR⟩ := hrel
          clear HM8
          by_cases hlt : i < 256
          · have hlt' : (i : Int) < 256 := by omega
            obtain ⟨b8, hb8⟩ : ∃ b8, b8 = UInt8.ofNat i := ⟨_, rfl⟩
            have hbn : b8.toNat = i := by rw [hb8]; simp; omega
            have A1 : IntKind.u8.wrap (i : Int) = (b8.toNat : Int) := by rw [hbn]; exact wraps_u8 _ (by omega) (by omega)
            obtain ⟨Sb, hSb⟩ : ∃ Sb, Sb = S b8 := ⟨_, rfl⟩
            have hgi : g i = decide (Sb = 1) := by rw [HG.out, hSb, hb8]
            have hcn : cntB g (i + 1) = cntB g i + (if g i then 1 else 0) := rfl
            have hcl := cntB_le g i
            have HRs : Hid (∀ W q n c p m d, Below w.heap.size w W → Sl B8 W q n c [1, 2] → Sl2 W p m d [[x0, x1], [f, b8]] → Calls Tryz.prog 25 #[PVal 2 1 2 3, .slice q n c, .slice p m d] W fun e w' => e = .returned (.tuple #[.int .i64 (Sb : Nat), .bool true]) ∧ Below W.heap.size W w') := fun W q n c p m d hb h1 h2 => by
              rw [hSb]; exact HRd.out b8 W q n c p m d hb h1 h2
            have SX : Hid (Sl B8 wr (some ⟨ga, 0, none⟩) 2 2 [x0, x1]) := sl_block [x0, x1] 2 HR.out.arr rfl rfl (by simp [maxLen])
            have HBM := Lib.hid HR.out.bel
            obtain ⟨z0, z1, z2, z3⟩ := cells_four HR.out.p9
            obtain ⟨cn, hcn0⟩ : ∃ cn, cn = cntB g i := ⟨_, rfl⟩
            rw [← hcn0] at hcn hcl ⊢
            have HC := Lib.hid hcn; have HI := Lib.hid hlt
            clear hSb hb8 hcn hcn0 hlt hbn
            by_cases hSR : Sb = 1
            · have hd : ((Sb : Int) == 1) = true := by rw [hSR]; rfl
              have HGI : Hid (g i = true) := by show _ = _; rw [hgi]; exact decide_eq_true hSR
              clear hgi hSR
              go_wp2_with fail
              refine wp_region_shapes (fun ix => ([.val (.agg #[.int .i64 2, .int .i64 1, .int .i64 2, .int .u32 3]), .bytes ([1, 2]), .val (.slice (some ⟨ga, 0, none⟩) 2 2), .val (B8 f), .val (.int .i64 (i : Nat)), .val (B8 b8), .bytes ([f, b8]), .rows ([[x0, x1], [f, b8]]), .val (.tuple #[.int .i64 (Sb : Nat), .bool true]), .val (.tuple #[.int .i64 (Sb : Nat), .bool true]), .val (.int .i64 (Sb : Nat)), .val (.bool true), .val (.int .i64 (Sb : Nat)), .val (.bool true)][ix]?).getD (.any)) 181 rfl (by kernel_rfl) (by decide +kernel) (by decide +kernel) (by decide +kernel) ?_ ?_
              · refine ⟨?_, ?_, ?_, ?_, ?_, ?_, ?_, ?_, ?_, ?_, ?_, ?_, ?_, ?_, trivial⟩
                · intro a W hb0 hs hp hi; have hb := undrew hb0; clear hb0
                  have tt : sl a 9 = .pointer (some ⟨g9, 0, none⟩) := hi 9 (by decide)
                  have dd0 := (hb.cell (p := ⟨g9, 0, none⟩) (lt_of_cell z0)).trans z0
                  have dd1 := (hb.cell (p := ⟨g9, 1, none⟩) (lt_of_cell z1)).trans z1
                  have dd2 := (hb.cell (p := ⟨g9, 2, none⟩) (lt_of_cell z2)).trans z2
                  have dd3 := (hb.cell (p := ⟨g9, 3, none⟩) (lt_of_cell z3)).trans z3
                  refine ite_y rfl (wp_val (.agg #[.int .i64 2, .int .i64 1, .int .i64 2, .int .u32 3]) ?_ ?_)
                  · simp only [execOp, eval_tmp, tt]; simp [go_sem, dd0, dd1, dd2, dd3]
                  · exact ⟨_, rfl, Below.refl _ _, rfl⟩
                · intro a W hb0 hs hp hi; have hb := undrew hb0; clear hb0
                  refine ite_y rfl (wp_val' (w' := W.alloc (.cells #[.int .u8 1, .int .u8 2] 5)) (.slice (some ⟨W.heap.size, 0, none⟩) 2 2) ?_ ?_)
                  · simp only [execOp, eval_tmp, eval_const]; simp [go_sem]
                  · exact ⟨_, rfl, (al (Below.refl _ _) (Nat.le_refl _)), _, _, _, rfl, sl_block ([1, 2]) 2 (hnew rfl) rfl rfl (by simp [maxLen])⟩
                · intro a W hb0 hs hp hi; have hb := undrew hb0; clear hb0
                  have t4 : sl a 4 = .pointer (some ⟨ga, 0, none⟩) := hi 4 (by decide)
                  refine ite_y rfl (wp_val (.slice (some ⟨ga, 0, none⟩) 2 2) ?_ ?_)
                  · simp only [execOp, eval_tmp, eval_const, t4]; simp [go_sem]
                  · exact ⟨_, rfl, Below.refl _ _, rfl⟩
                · intro a W hb0 hs hp hi; have hb := undrew hb0; clear hb0
                  have t2 : sl a 2 = B8 f := hi 2 (by decide)
                  exact ite_y rfl (wp_val (sl a 2) rfl ⟨_, rfl, Below.refl _ _, t2⟩)
                · intro a W hb0 hs hp hi; have hb := undrew hb0; clear hb0
                  have t20 : sl a 20 = .int .i64 (i : Nat) := hi 20 (by decide)
                  exact ite_y rfl (wp_val (sl a 20) rfl ⟨_, rfl, Below.refl _ _, t20⟩)
                · intro a W hb0 hs hp hi; have hb := undrew hb0; clear hb0
                  have tt : sl a 102 = .int .i64 (i : Nat) := hp 4 (by decide)
                  refine ite_y rfl (wp_val (B8 b8) ?_ ?_)
                  · simp only [execOp, eval_tmp, tt]; simp [go_sem, A1]
                  · exact ⟨_, rfl, Below.refl _ _, rfl⟩
                · intro a W hb0 hs hp hi; have hb := undrew hb0; clear hb0
                  have t101 : sl a 101 = B8 f := hp 3 (by decide)
                  have t103 : sl a 103 = B8 b8 := hp 5 (by decide)
                  have v101 : a.tmps[101]?.getD undef = sl a 101 := by simp [sl]
                  rw [t101] at v101
                  have v103 : a.tmps[103]?.getD undef = sl a 103 := by simp [sl]
                  rw [t103] at v103
                  refine ite_y rfl (wp_val' (w' := W.alloc (.cells #[B8 f, B8 b8] 5)) (.slice (some ⟨W.heap.size, 0, none⟩) 2 2) ?_ ?_)
                  · simp only [execOp, eval_tmp, eval_const, t101, t103]; simp [go_sem, v101, v103]
                  · exact ⟨_, rfl, (al (Below.refl _ _) (Nat.le_refl _)), _, _, _, rfl, sl_block ([f, b8]) 2 (hnew rfl) rfl rfl (by simp [maxLen])⟩
                · intro a W hb0 hs hp hi; have hb := undrew hb0; clear hb0
                  have t100 : sl a 100 = .slice (some ⟨ga, 0, none⟩) 2 2 := hp 2 (by decide)
                  have t104 : BytesIs ([f, b8]) (sl a 104) W := hp 6 (by decide)
                  obtain ⟨y104a, y104b, y104c, t104, z104a⟩ := t104
                  have v100 : a.tmps[100]?.getD undef = sl a 100 := by simp [sl]
                  rw [t100] at v100
                  have v104 : a.tmps[104]?.getD undef = sl a 104 := by simp [sl]
                  rw [t104] at v104
                  refine ite_y rfl (wp_val' (w' := W.alloc (.cells #[.slice (some ⟨ga, 0, none⟩) 2 2, .slice y104a y104b y104c] 22)) (.slice (some ⟨W.heap.size, 0, none⟩) 2 2) ?_ ?_)
                  · simp only [execOp, eval_tmp, eval_const, t100, t104]; simp [go_sem, v100, v104]
                  · exact ⟨_, rfl, (al (Below.refl _ _) (Nat.le_refl _)), _, _, _, rfl, sl2_pair (hnew rfl) ((SX.out.keep hb).keep (al (Below.refl _ _) (Nat.le_refl _))) (z104a.keep (al (Below.refl _ _) (Nat.le_refl _)))⟩
                · intro a W hb0 hs hp hi; have hb := undrew hb0; clear hb0
                  have t98 : sl a 98 = .agg #[.int .i64 2, .int .i64 1, .int .i64 2, .int .u32 3] := hp 0 (by decide)
                  have t99 : BytesIs ([1, 2]) (sl a 99) W := hp 1 (by decide)
                  obtain ⟨y99a, y99b, y99c, t99, z99a⟩ := t99
                  have t105 : RowsIs ([[x0, x1], [f, b8]]) (sl a 105) W := hp 7 (by decide)
                  obtain ⟨y105a, y105b, y105c, t105, z105a⟩ := t105
                  refine ite_y rfl (wp_enter 25 #[.agg #[.int .i64 2, .int .i64 1, .int .i64 2, .int .u32 3], .slice y99a y99b y99c, .slice y105a y105b y105c] ?_ (HRs.out W y99a y99b y99c y105a y105b y105c (bl HBM.out hb HBM.out.size) z99a z105a) ?_)
                  · simp only [execOp, resolve, List.map_toArray, List.map, eval_tmp, eval_func, eval_const, t98, t99, t105]; simp [go_sem]
                  · rintro e W' ⟨rfl, hw⟩; exact ⟨_, rfl, _, rfl, hw, rfl⟩
                · intro a W hb0 hs hp hi; have hb := undrew hb0; clear hb0
                  have t106 : sl a 106 = .tuple #[.int .i64 (Sb : Nat), .bool true] := hp 8 (by decide)
                  exact ite_y rfl (wp_val (sl a 106) rfl ⟨_, rfl, Below.refl _ _, t106⟩)
                · intro a W hb0 hs hp hi; have hb := undrew hb0; clear hb0
                  have tt : sl a 97 = .tuple #[.int .i64 (Sb : Nat), .bool true] := hp 9 (by decide)
                  refine ite_y rfl (wp_val (.int .i64 (Sb : Nat)) ?_ ?_)
                  · simp only [execOp, eval_tmp, tt]; rfl
                  · exact ⟨_, rfl, Below.refl _ _, rfl⟩
                · intro a W hb0 hs hp hi; have hb := undrew hb0; clear hb0
                  have tt : sl a 97 = .tuple #[.int .i64 (Sb : Nat), .bool true] := hp 9 (by decide)
                  refine ite_y rfl (wp_val (.bool true) ?_ ?_)
                  · simp only [execOp, eval_tmp, tt]; rfl
                  · exact ⟨_, rfl, Below.refl _ _, rfl⟩
                · intro a W hb0 hs hp hi; have hb := undrew hb0; clear hb0
                  have t107 : sl a 107 = .int .i64 (Sb : Nat) := hp 10 (by decide)
                  exact ite_y rfl (wp_val (sl a 107) rfl ⟨_, rfl, Below.refl _ _, t107⟩)
                · intro a W hb0 hs hp hi; have hb := undrew hb0; clear hb0
                  have t108 : sl a 108 = .bool true := hp 11 (by decide)
                  exact ite_y rfl (wp_val (sl a 108) rfl ⟨_, rfl, Below.refl _ _, t108⟩)
              intro a w2 hb hs hd hI ht
              have ha := act_is [98, 99, 100, 101, 102, 103, 104, 105, 106, 97, 107, 108, 21, 22] hs hd ht (by decide)
              have t21 : sl a 21 = .int .i64 (Sb : Nat) := hI 12 (by decide)
              have t22 : sl a 22 = .bool true := hI 13 (by decide)
              simp only [List.foldl, t21, t22] at ha
              generalize sl a 98 = u98 at ha
              generalize sl a 99 = u99 at ha
              generalize sl a 100 = u100 at ha
              generalize sl a 101 = u101 at ha
              generalize sl a 102 = u102 at ha
              generalize sl a 103 = u103 at ha
              generalize sl a 104 = u104 at ha
              generalize sl a 105 = u105 at ha
              generalize sl a 106 = u106 at ha
              generalize sl a 97 = u97 at ha
              generalize sl a 107 = u107 at ha
              generalize sl a 108 = u108 at ha
              simp only [Act.put, List.setIfInBounds_toArray, List.set_cons_zero, List.set_cons_succ] at ha
              rw [ha]
              clear ha hI ht
              have HR2 := Lib.hid (HR.out.keep hb)
              clear hb HR HRs z0 z1 z2 z3 SX HBM A1
              have hu : IntKind.u64.wrap ((cn : Int) + 1) = ((cn + 1 : Nat) : Int) := by rw [IntKind.wrap_u64]; omega
              go_wp2
              go_roundw
              case rel => exact ⟨i + 1, by have := HI.out; omega, by go_num, by rw [HC.out, HGI.out]; go_num, HR2.out⟩
              case measure => simp [intOf]; have := HI.out; omega
            · have hd : ((Sb : Int) == 1) = false := by rw [beq_eq_false_iff_ne]; omega
              have HGI : Hid (g i = false) := by show _ = _; rw [hgi]; exact decide_eq_false hSR
              clear hgi hSR
              go_wp2_with fail
              refine wp_region_shapes (fun ix => ([.val (.agg #[.int .i64 2, .int .i64 1, .int .i64 2, .int .u32 3]), .bytes ([1, 2]), .val (.slice (some ⟨ga, 0, none⟩) 2 2), .val (B8 f), .val (.int .i64 (i : Nat)), .val (B8 b8), .bytes ([f, b8]), .rows ([[x0, x1], [f, b8]]), .val (.tuple #[.int .i64 (Sb : Nat), .bool true]), .val (.tuple #[.int .i64 (Sb : Nat), .bool true]), .val (.int .i64 (Sb : Nat)), .val (.bool true), .val (.int .i64 (Sb : Nat)), .val (.bool true)][ix]?).getD (.any)) 181 rfl (by kernel_rfl) (by decide +kernel) (by decide +kernel) (by decide +kernel) ?_ ?_
              · refine ⟨?_, ?_, ?_, ?_, ?_, ?_, ?_, ?_, ?_, ?_, ?_, ?_, ?_, ?_, trivial⟩
                · intro a W hb0 hs hp hi; have hb := undrew hb0; clear hb0
                  have tt : sl a 9 = .pointer (some ⟨g9, 0, none⟩) := hi 9 (by decide)
                  have dd0 := (hb.cell (p := ⟨g9, 0, none⟩) (lt_of_cell z0)).trans z0
                  have dd1 := (hb.cell (p := ⟨g9, 1, none⟩) (lt_of_cell z1)).trans z1
                  have dd2 := (hb.cell (p := ⟨g9, 2, none⟩) (lt_of_cell z2)).trans z2
                  have dd3 := (hb.cell (p := ⟨g9, 3, none⟩) (lt_of_cell z3)).trans z3
                  refine ite_y rfl (wp_val (.agg #[.int .i64 2, .int .i64 1, .int .i64 2, .int .u32 3]) ?_ ?_)
                  · simp only [execOp, eval_tmp, tt]; simp [go_sem, dd0, dd1, dd2, dd3]
                  · exact ⟨_, rfl, Below.refl _ _, rfl⟩
                · intro a W hb0 hs hp hi; have hb := undrew hb0; clear hb0
                  refine ite_y rfl (wp_val' (w' := W.alloc (.cells #[.int .u8 1, .int .u8 2] 5)) (.slice (some ⟨W.heap.size, 0, none⟩) 2 2) ?_ ?_)
                  · simp only [execOp, eval_tmp, eval_const]; simp [go_sem]
                  · exact ⟨_, rfl, (al (Below.refl _ _) (Nat.le_refl _)), _, _, _, rfl, sl_block ([1, 2]) 2 (hnew rfl) rfl rfl (by simp [maxLen])⟩
                · intro a W hb0 hs hp hi; have hb := undrew hb0; clear hb0
                  have t4 : sl a 4 = .pointer (some ⟨ga, 0, none⟩) := hi 4 (by decide)
                  refine ite_y rfl (wp_val (.slice (some ⟨ga, 0, none⟩) 2 2) ?_ ?_)
                  · simp only [execOp, eval_tmp, eval_const, t4]; simp [go_sem]
                  · exact ⟨_, rfl, Below.refl _ _, rfl⟩
                · intro a W hb0 hs hp hi; have hb := undrew hb0; clear hb0
                  have t2 : sl a 2 = B8 f := hi 2 (by decide)
                  exact ite_y rfl (wp_val (sl a 2) rfl ⟨_, rfl, Below.refl _ _, t2⟩)
                · intro a W hb0 hs hp hi; have hb := undrew hb0; clear hb0
                  have t20 : sl a 20 = .int .i64 (i : Nat) := hi 20 (by decide)
                  exact ite_y rfl (wp_val (sl a 20) rfl ⟨_, rfl, Below.refl _ _, t20⟩)
                · intro a W hb0 hs hp hi; have hb := undrew hb0; clear hb0
                  have tt : sl a 102 = .int .i64 (i : Nat) := hp 4 (by decide)
                  refine ite_y rfl (wp_val (B8 b8) ?_ ?_)
                  · simp only [execOp, eval_tmp, tt]; simp [go_sem, A1]
                  · exact ⟨_, rfl, Below.refl _ _, rfl⟩
                · intro a W hb0 hs hp hi; have hb := undrew hb0; clear hb0
                  have t101 : sl a 101 = B8 f := hp 3 (by decide)
                  have t103 : sl a 103 = B8 b8 := hp 5 (by decide)
                  have v101 : a.tmps[101]?.getD undef = sl a 101 := by simp [sl]
                  rw [t101] at v101
                  have v103 : a.tmps[103]?.getD undef = sl a 103 := by simp [sl]
                  rw [t103] at v103
                  refine ite_y rfl (wp_val' (w' := W.alloc (.cells #[B8 f, B8 b8] 5)) (.slice (some ⟨W.heap.size, 0, none⟩) 2 2) ?_ ?_)
                  · simp only [execOp, eval_tmp, eval_const, t101, t103]; simp [go_sem, v101, v103]
                  · exact ⟨_, rfl, (al (Below.refl _ _) (Nat.le_refl _)), _, _, _, rfl, sl_block ([f, b8]) 2 (hnew rfl) rfl rfl (by simp [maxLen])⟩
                · intro a W hb0 hs hp hi; have hb := undrew hb0; clear hb0
                  have t100 : sl a 100 = .slice (some ⟨ga, 0, none⟩) 2 2 := hp 2 (by decide)
                  have t104 : BytesIs ([f, b8]) (sl a 104) W := hp 6 (by decide)
                  obtain ⟨y104a, y104b, y104c, t104, z104a⟩ := t104
                  have v100 : a.tmps[100]?.getD undef = sl a 100 := by simp [sl]
                  rw [t100] at v100
                  have v104 : a.tmps[104]?.getD undef = sl a 104 := by simp [sl]
                  rw [t104] at v104
                  refine ite_y rfl (wp_val' (w' := W.alloc (.cells #[.slice (some ⟨ga, 0, none⟩) 2 2, .slice y104a y104b y104c] 22)) (.slice (some ⟨W.heap.size, 0, none⟩) 2 2) ?_ ?_)
                  · simp only [execOp, eval_tmp, eval_const, t100, t104]; simp [go_sem, v100, v104]
                  · exact ⟨_, rfl, (al (Below.refl _ _) (Nat.le_refl _)), _, _, _, rfl, sl2_pair (hnew rfl) ((SX.out.keep hb).keep (al (Below.refl _ _) (Nat.le_refl _))) (z104a.keep (al (Below.refl _ _) (Nat.le_refl _)))⟩
                · intro a W hb0 hs hp hi; have hb := undrew hb0; clear hb0
                  have t98 : sl a 98 = .agg #[.int .i64 2, .int .i64 1, .int .i64 2, .int .u32 3] := hp 0 (by decide)
                  have t99 : BytesIs ([1, 2]) (sl a 99) W := hp 1 (by decide)
                  obtain ⟨y99a, y99b, y99c, t99, z99a⟩ := t99
                  have t105 : RowsIs ([[x0, x1], [f, b8]]) (sl a 105) W := hp 7 (by decide)
                  obtain ⟨y105a, y105b, y105c, t105, z105a⟩ := t105
                  refine ite_y rfl (wp_enter 25 #[.agg #[.int .i64 2, .int .i64 1, .int .i64 2, .int .u32 3], .slice y99a y99b y99c, .slice y105a y105b y105c] ?_ (HRs.out W y99a y99b y99c y105a y105b y105c (bl HBM.out hb HBM.out.size) z99a z105a) ?_)
                  · simp only [execOp, resolve, List.map_toArray, List.map, eval_tmp, eval_func, eval_const, t98, t99, t105]; simp [go_sem]
                  · rintro e W' ⟨rfl, hw⟩; exact ⟨_, rfl, _, rfl, hw, rfl⟩
                · intro a W hb0 hs hp hi; have hb := undrew hb0; clear hb0
                  have t106 : sl a 106 = .tuple #[.int .i64 (Sb : Nat), .bool true] := hp 8 (by decide)
                  exact ite_y rfl (wp_val (sl a 106) rfl ⟨_, rfl, Below.refl _ _, t106⟩)
                · intro a W hb0 hs hp hi; have hb := undrew hb0; clear hb0
                  have tt : sl a 97 = .tuple #[.int .i64 (Sb : Nat), .bool true] := hp 9 (by decide)
                  refine ite_y rfl (wp_val (.int .i64 (Sb : Nat)) ?_ ?_)
                  · simp only [execOp, eval_tmp, tt]; rfl
                  · exact ⟨_, rfl, Below.refl _ _, rfl⟩
                · intro a W hb0 hs hp hi; have hb := undrew hb0; clear hb0
                  have tt : sl a 97 = .tuple #[.int .i64 (Sb : Nat), .bool true] := hp 9 (by decide)
                  refine ite_y rfl (wp_val (.bool true) ?_ ?_)
                  · simp only [execOp, eval_tmp, tt]; rfl
                  · exact ⟨_, rfl, Below.refl _ _, rfl⟩
                · intro a W hb0 hs hp hi; have hb := undrew hb0; clear hb0
                  have t107 : sl a 107 = .int .i64 (Sb : Nat) := hp 10 (by decide)
                  exact ite_y rfl (wp_val (sl a 107) rfl ⟨_, rfl, Below.refl _ _, t107⟩)
                · intro a W hb0 hs hp hi; have hb := undrew hb0; clear hb0
                  have t108 : sl a 108 = .bool true := hp 11 (by decide)
                  exact ite_y rfl (wp_val (sl a 108) rfl ⟨_, rfl, Below.refl _ _, t108⟩)
              intro a w2 hb hs hd hI ht
              have ha := act_is [98, 99, 100, 101, 102, 103, 104, 105, 106, 97, 107, 108, 21, 22] hs hd ht (by decide)
              have t21 : sl a 21 = .int .i64 (Sb : Nat) := hI 12 (by decide)
              have t22 : sl a 22 = .bool true := hI 13 (by decide)
              simp only [List.foldl, t21, t22] at ha
              generalize sl a 98 = u98 at ha
              generalize sl a 99 = u99 at ha
              generalize sl a 100 = u100 at ha
              generalize sl a 101 = u101 at ha
              generalize sl a 102 = u102 at ha
              generalize sl a 103 = u103 at ha
              generalize sl a 104 = u104 at ha
              generalize sl a 105 = u105 at ha
              generalize sl a 106 = u106 at ha
              generalize sl a 97 = u97 at ha
              generalize sl a 107 = u107 at ha
              generalize sl a 108 = u108 at ha
              simp only [Act.put, List.setIfInBounds_toArray, List.set_cons_zero, List.set_cons_succ] at ha
              rw [ha]
              clear ha hI ht
              have HR2 := Lib.hid (HR.out.keep hb)
              clear hb HR HRs z0 z1 z2 z3 SX HBM A1
              go_wp2
              go_roundw
              case rel => exact ⟨i + 1, by have := HI.out; omega, by go_num, by rw [HC.out, HGI.out]; go_num, HR2.out⟩
              case measure => simp [intOf]; have := HI.out; omega
          · obtain rfl : i = 256 := by omega
            have HRE := Lib.hid HR.out
            clear hlt hi HR HRd
            have gT : ∀ b, g b = true ↔ S (UInt8.ofNat b) = 1 := fun b => by rw [HG.out]; simp
            have gF : ∀ b, S (UInt8.ofNat b) ≠ 1 → g b = false := fun b h => by rw [HG.out]; simpa using h
            have hS := HSS.out
            have hc : cntB g 256 = 1 := cntB_one (u := u.toNat) 256 u.toNat_lt (fun i hi => by
              rw [gT]
              have h3 := hS (UInt8.ofNat i)
              constructor
              · intro h
                have h2 := congrArg UInt8.toNat (h3.1 h)
                simp at h2; omega
              · rintro rfl; exact h3.2 (by simp))
            rw [show ((cntB g 256 : Nat) : Int) = 1 by rw [hc]; rfl]
            have cx : wr.cell? ⟨ga, 0, none⟩ = some (B8 x0) := cell_of_row _ _ 0 _ _ _ HRE.out.arr
            have hx1 : ((x0.toNat : Int) != 0) = true := by rw [nat_ne_zero]; exact decide_eq_true hx0
            have SP : Hid (∀ W, Calls Tryz.prog 27 #[.int .i64 1] W (RetN 44 W 256)) := fun W => by have h := Spare_any 1 (by decide) W; rwa [show (256 : Nat) ^ 1 = 256 from rfl] at h
            clear gT gF hc hS HG HSS
            go_wp2_with fail
            refine Calls.mono (SP.out _) ?_
            rintro e w9 ⟨qf, nf, cf, rfl, hw, hb⟩
            have HM9 := Lib.hid (HRE.out.keep hb)
            have cx9 := (hb.cell (p := ⟨ga, 0, none⟩) (lt_of_cell cx)).trans cx
            have HW9 := Lib.hid hw
            clear hb hw HRE SP cx
            have hA9 := NBox.new (T := 40) HW9.out
            have ba : Below w9.heap.size w9 (w9.alloc (.cells #[.slice qf nf cf] 40 (0, 0))) := al (Below.refl _ _) (Nat.le_refl _)
            have cxa : ∀ o', (w9.alloc o').cell? ⟨ga, 0, none⟩ = _ := fun _ => calloc cx9
            go_wp2
            have HMa := Lib.hid (HM9.out.keep ba)
            obtain ⟨g23, hg23⟩ : ∃ g23, g23 = w9.heap.size := ⟨_, rfl⟩
            rw [← hg23] at hA9 ⊢
            clear cxa cx9
            generalize w9.alloc (.cells #[.slice qf nf cf] 40 (0, 0)) = wa at *
            obtain ⟨qz, nz, cz, kz, wz⟩ := hA9
            have HWZ := Lib.hid wz
            obtain ⟨_, z0, z1, z2, z3⟩ := One.of kz
            clear ba HM9 HW9 hg23 wz
            go_wp2_with fail
            have hw256 : IntKind.u64.wrap (256 : Int) = 256 := by rw [IntKind.wrap_u64]; rfl
            refine wp_region_shapes (fun ix => ([.val (.int .i64 0), .val (.bool true), .val (.bool true), .val (.int .u64 1), .val (.bool true), .val (.bool true), .val (.bool true), .val (.agg #[.slice qz nz cz]), .val (.int .u64 1), .val (.int .u64 256), (ShNmV 256), .val (.int .i64 0), .val (.bool true), .val (.bool true), .val (.bool true)][ix]?).getD (.any)) 181 rfl (by kernel_rfl) (by decide +kernel) (by decide +kernel) (by decide +kernel) ?_ ?_
            · refine ⟨?_, ?_, ?_, ?_, ?_, ?_, ?_, ?_, ?_, ?_, ?_, ?_, ?_, ?_, ?_, trivial⟩
              · intro a W hb0 hs hp hi; have hb := undrew hb0; clear hb0
                have t24 : sl a 24 = .int .i64 0 := hi 24 (by decide)
                exact ite_y rfl (wp_val (sl a 24) rfl ⟨_, rfl, Below.refl _ _, t24⟩)
              · intro a W hb0 hs hp hi; have hb := undrew hb0; clear hb0
                have t144 : sl a 144 = .int .i64 0 := hp 0 (by decide)
                refine ite_y rfl (wp_val (.bool true) ?_ ?_)
                · simp only [execOp, eval_tmp, eval_const, t144]; simp [go_sem]
                · exact ⟨_, rfl, Below.refl _ _, rfl⟩
              · intro a W hb0 hs hp hi; have hb := undrew hb0; clear hb0
                have t145 : sl a 145 = .bool true := hp 1 (by decide)
                exact ite_y rfl (wp_val (sl a 145) rfl ⟨_, rfl, Below.refl _ _, t145⟩)
              · intro a W hb0 hs hp hi; have hb := undrew hb0; clear hb0
                have tg : sl a 146 = .bool true := hp 2 (by decide)
                have t19 : sl a 19 = .int .u64 1 := hi 19 (by decide)
                exact ite_y (wanted_yes rfl rfl (by have hz : a.tmps.size = 181 := hs; rw [hz]; decide) tg) (wp_val (sl a 19) rfl ⟨_, rfl, Below.refl _ _, t19⟩)
              · intro a W hb0 hs hp hi; have hb := undrew hb0; clear hb0
                have tg : sl a 146 = .bool true := hp 2 (by decide)
                have t147 : sl a 147 = .int .u64 1 := hp 3 (by decide)
                refine ite_y (wanted_yes rfl rfl (by have hz : a.tmps.size = 181 := hs; rw [hz]; decide) tg) (wp_val (.bool true) ?_ ?_)
                · simp only [execOp, eval_tmp, eval_const, t147]; simp [go_sem]
                · exact ⟨_, rfl, Below.refl _ _, rfl⟩
              · intro a W hb0 hs hp hi; have hb := undrew hb0; clear hb0
                have t146 : sl a 146 = .bool true := hp 2 (by decide)
                have t148 : sl a 148 = .bool true := hp 4 (by decide)
                refine ite_y rfl (wp_val (.bool true) ?_ ?_)
                · simp only [execOp, eval_tmp, eval_const, t146, t148]; simp [go_sem]
                · exact ⟨_, rfl, Below.refl _ _, rfl⟩
              · intro a W hb0 hs hp hi; have hb := undrew hb0; clear hb0
                have t149 : sl a 149 = .bool true := hp 5 (by decide)
                exact ite_y rfl (wp_val (sl a 149) rfl ⟨_, rfl, Below.refl _ _, t149⟩)
              · intro a W hb0 hs hp hi; have hb := undrew hb0; clear hb0
                have tg : sl a 150 = .bool true := hp 6 (by decide)
                have tt : sl a 23 = .pointer (some ⟨g23, 0, none⟩) := hi 23 (by decide)
                have dd0 := (hb.cell (p := ⟨g23, 0, none⟩) (lt_of_cell z0)).trans z0
                refine ite_y (wanted_yes rfl rfl (by have hz : a.tmps.size = 181 := hs; rw [hz]; decide) tg) (wp_val (.agg #[.slice qz nz cz]) ?_ ?_)
                · simp only [execOp, eval_tmp, tt]; simp [go_sem, dd0]
                · exact ⟨_, rfl, Below.refl _ _, rfl⟩
              · intro a W hb0 hs hp hi; have hb := undrew hb0; clear hb0
                have tg : sl a 150 = .bool true := hp 6 (by decide)
                have t19 : sl a 19 = .int .u64 1 := hi 19 (by decide)
                exact ite_y (wanted_yes rfl rfl (by have hz : a.tmps.size = 181 := hs; rw [hz]; decide) tg) (wp_val (sl a 19) rfl ⟨_, rfl, Below.refl _ _, t19⟩)
              · intro a W hb0 hs hp hi; have hb := undrew hb0; clear hb0
                have tg : sl a 150 = .bool true := hp 6 (by decide)
                have t152 : sl a 152 = .int .u64 1 := hp 8 (by decide)
                refine ite_y (wanted_yes rfl rfl (by have hz : a.tmps.size = 181 := hs; rw [hz]; decide) tg) (wp_val (.int .u64 256) ?_ ?_)
                · simp only [execOp, eval_tmp, eval_const, t152]; simp [go_sem, hw256]
                · exact ⟨_, rfl, Below.refl _ _, rfl⟩
              · intro a W hb0 hs hp hi; have hb := undrew hb0; clear hb0
                have tg : sl a 150 = .bool true := hp 6 (by decide)
                have t153 : sl a 153 = .int .u64 256 := hp 9 (by decide)
                refine ite_y (wanted_yes rfl rfl (by have hz : a.tmps.size = 181 := hs; rw [hz]; decide) tg) (wp_enter 16 #[.int .u64 256] ?_ (Of_k 256 (by decide) W) ?_)
                · simp only [execOp, resolve, List.map_toArray, List.map, eval_tmp, eval_func, eval_const, t153]; simp [go_sem]
                · rintro e W' ⟨q, n, c, rfl, hw, hb'⟩; exact ⟨_, rfl, _, rfl, hb', q, n, c, rfl, hw⟩
              · intro a W hb0 hs hp hi; have hb := undrew hb0; clear hb0
                have tg : sl a 150 = .bool true := hp 6 (by decide)
                have tA : sl a 151 = .agg #[.slice qz nz cz] := hp 7 (by decide)
                have tB : NmV 256 (sl a 154) W := hp 10 (by decide)
                obtain ⟨ya, yb, yc, tB, zz⟩ := tB
                refine ite_y (wanted_yes rfl rfl (by have hz : a.tmps.size = 181 := hs; rw [hz]; decide) tg) (wp_enter 22 #[.agg #[.slice qz nz cz], .agg #[.slice ya yb yc]] ?_ (Cmp_same (HWZ.out.keep hb) zz rfl) ?_)
                · simp only [execOp, resolve, List.map_toArray, List.map, eval_tmp, eval_func, eval_const, tA, tB]; simp [go_sem]
                · rintro e W' ⟨rfl, hw⟩; exact ⟨_, rfl, _, rfl, hw, rfl⟩
              · intro a W hb0 hs hp hi; have hb := undrew hb0; clear hb0
                have tg : sl a 150 = .bool true := hp 6 (by decide)
                have t155 : sl a 155 = .int .i64 0 := hp 11 (by decide)
                refine ite_y (wanted_yes rfl rfl (by have hz : a.tmps.size = 181 := hs; rw [hz]; decide) tg) (wp_val (.bool true) ?_ ?_)
                · simp only [execOp, eval_tmp, eval_const, t155]; simp [go_sem]
                · exact ⟨_, rfl, Below.refl _ _, rfl⟩
              · intro a W hb0 hs hp hi; have hb := undrew hb0; clear hb0
                have t150 : sl a 150 = .bool true := hp 6 (by decide)
                have t156 : sl a 156 = .bool true := hp 12 (by decide)
                refine ite_y rfl (wp_val (.bool true) ?_ ?_)
                · simp only [execOp, eval_tmp, eval_const, t150, t156]; simp [go_sem]
                · exact ⟨_, rfl, Below.refl _ _, rfl⟩
              · intro a W hb0 hs hp hi; have hb := undrew hb0; clear hb0
                have t157 : sl a 157 = .bool true := hp 13 (by decide)
                exact ite_y rfl (wp_val (sl a 157) rfl ⟨_, rfl, Below.refl _ _, t157⟩)
            intro a wz hb hs hd hI ht
            have ha := act_is [144, 145, 146, 147, 148, 149, 150, 151, 152, 153, 154, 155, 156, 157, 6] hs hd ht (by decide)
            have t6 : sl a 6 = .bool true := hI 14 (by decide)
            simp only [List.foldl, t6] at ha
            generalize sl a 144 = u144 at ha
            generalize sl a 145 = u145 at ha
            generalize sl a 146 = u146 at ha
            generalize sl a 147 = u147 at ha
            generalize sl a 148 = u148 at ha
            generalize sl a 149 = u149 at ha
            generalize sl a 150 = u150 at ha
            generalize sl a 151 = u151 at ha
            generalize sl a 152 = u152 at ha
            generalize sl a 153 = u153 at ha
            generalize sl a 154 = u154 at ha
            generalize sl a 155 = u155 at ha
            generalize sl a 156 = u156 at ha
            generalize sl a 157 = u157 at ha
            simp only [Act.put, List.setIfInBounds_toArray, List.set_cons_zero, List.set_cons_succ] at ha
            rw [ha]
            clear ha hI ht
            have HBZ := Lib.hid (bl HMa.out.bel hb HMa.out.bel.size)
            clear hb
            go_wp2
            go_ret
            exact ⟨rfl, HBZ.out⟩
      ·
        rw [hR] at hS
        have HSS := Lib.hid hS
        rw [show ((R : Nat) : Int) = 1 by rw [hR]; rfl]
        obtain ⟨g, hg⟩ : ∃ g : Nat → Bool, ∀ b, g b = decide (S (UInt8.ofNat b) = 1) := ⟨_, fun _ => rfl⟩
        have HG := Lib.hid hg
        clear hg hR hS HC
        go_wp2
        go_loopw [19, 94] (fun nv iv wr => ∃ i : Nat, i ≤ 256 ∧ iv = .int .i64 (i : Nat) ∧ nv = .int .u64 (cntB g i : Nat) ∧ Hid (OddM w wr ga g7 g9 x0 x1)) (fun _ iv _ => 256 - (intOf iv).toNat)
        case atStart => exact ⟨0, by omega, rfl, rfl, HM8.out⟩
        case round =>
          obtain ⟨i, hi, rfl, rfl, HR⟩ := hrel
          clear HM8
          by_cases hlt : i < 256
          · have hlt' : (i : Int) < 256 := by omega
            obtain ⟨b8, hb8⟩ : ∃ b8, b8 = UInt8.ofNat i := ⟨_, rfl⟩
            have hbn : b8.toNat = i := by rw [hb8]; simp; omega
            have A1 : IntKind.u8.wrap (i : Int) = (b8.toNat : Int) := by rw [hbn]; exact wraps_u8 _ (by omega) (by omega)
            obtain ⟨Sb, hSb⟩ : ∃ Sb, Sb = S b8 := ⟨_, rfl⟩
            have hgi : g i = decide (Sb = 1) := by rw [HG.out, hSb, hb8]
            have hcn : cntB g (i + 1) = cntB g i + (if g i then 1 else 0) := rfl
            have hcl := cntB_le g i
            have HRs : Hid (∀ W q n c p m d, Below w.heap.size w W → Sl B8 W q n c [1, 2] → Sl2 W p m d [[x0, x1], [f, b8]] → Calls Tryz.prog 25 #[PVal 2 1 2 3, .slice q n c, .slice p m d] W fun e w' => e = .returned (.tuple #[.int .i64 (Sb : Nat), .bool true]) ∧ Below W.heap.size W w') := fun W q n c p m d hb h1 h2 => by
              rw [hSb]; exact HRd.out b8 W q n c p m d hb h1 h2
            have SX : Hid (Sl B8 wr (some ⟨ga, 0, none⟩) 2 2 [x0, x1]) := sl_block [x0, x1] 2 HR.out.arr rfl rfl (by simp [maxLen])
            have HBM := Lib.hid HR.out.bel
            obtain ⟨z0, z1, z2, z3⟩ := cells_four HR.out.p9
            obtain ⟨cn, hcn0⟩ : ∃ cn, cn = cntB g i := ⟨_, rfl⟩
            rw [← hcn0] at hcn hcl ⊢
            have HC := Lib.hid hcn; have HI := Lib.hid hlt
            clear hSb hb8 hcn hcn0 hlt hbn
            by_cases hSR : Sb = 1
            · have hd : ((Sb : Int) == 1) = true := by rw [hSR]; rfl
              have HGI : Hid (g i = true) := by show _ = _; rw [hgi]; exact decide_eq_true hSR
              clear hgi hSR
              go_wp2_with fail
              refine wp_region_shapes (fun ix => ([.val (.agg #[.int .i64 2, .int .i64 1, .int .i64 2, .int .u32 3]), .bytes ([1, 2]), .val (.slice (some ⟨ga, 0, none⟩) 2 2), .val (B8 f), .val (.int .i64 (i : Nat)), .val (B8 b8), .bytes ([f, b8]), .rows ([[x0, x1], [f, b8]]), .val (.tuple #[.int .i64 (Sb : Nat), .bool true]), .val (.tuple #[.int .i64 (Sb : Nat), .bool true]), .val (.int .i64 (Sb : Nat)), .val (.bool true), .val (.int .i64 (Sb : Nat)), .val (.bool true)][ix]?).getD (.any)) 181 rfl (by kernel_rfl) (by decide +kernel) (by decide +kernel) (by decide +kernel) ?_ ?_
              · refine ⟨?_, ?_, ?_, ?_, ?_, ?_, ?_, ?_, ?_, ?_, ?_, ?_, ?_, ?_, trivial⟩
                · intro a W hb0 hs hp hi; have hb := undrew hb0; clear hb0
                  have tt : sl a 9 = .pointer (some ⟨g9, 0, none⟩) := hi 9 (by decide)
                  have dd0 := (hb.cell (p := ⟨g9, 0, none⟩) (lt_of_cell z0)).trans z0
                  have dd1 := (hb.cell (p := ⟨g9, 1, none⟩) (lt_of_cell z1)).trans z1
                  have dd2 := (hb.cell (p := ⟨g9, 2, none⟩) (lt_of_cell z2)).trans z2
                  have dd3 := (hb.cell (p := ⟨g9, 3, none⟩) (lt_of_cell z3)).trans z3
                  refine ite_y rfl (wp_val (.agg #[.int .i64 2, .int .i64 1, .int .i64 2, .int .u32 3]) ?_ ?_)
                  · simp only [execOp, eval_tmp, tt]; simp [go_sem, dd0, dd1, dd2, dd3]
                  · exact ⟨_, rfl, Below.refl _ _, rfl⟩
                · intro a W hb0 hs hp hi; have hb := undrew hb0; clear hb0
                  refine ite_y rfl (wp_val' (w' := W.alloc (.cells #[.int .u8 1, .int .u8 2] 5)) (.slice (some ⟨W.heap.size, 0, none⟩) 2 2) ?_ ?_)
                  · simp only [execOp, eval_tmp, eval_const]; simp [go_sem]
                  · exact ⟨_, rfl, (al (Below.refl _ _) (Nat.le_refl _)), _, _, _, rfl, sl_block ([1, 2]) 2 (hnew rfl) rfl rfl (by simp [maxLen])⟩
                · intro a W hb0 hs hp hi; have hb := undrew hb0; clear hb0
                  have t4 : sl a 4 = .pointer (some ⟨ga, 0, none⟩) := hi 4 (by decide)
                  refine ite_y rfl (wp_val (.slice (some ⟨ga, 0, none⟩) 2 2) ?_ ?_)
                  · simp only [execOp, eval_tmp, eval_const, t4]; simp [go_sem]
                  · exact ⟨_, rfl, Below.refl _ _, rfl⟩
                · intro a W hb0 hs hp hi; have hb := undrew hb0; clear hb0
                  have t2 : sl a 2 = B8 f := hi 2 (by decide)
                  exact ite_y rfl (wp_val (sl a 2) rfl ⟨_, rfl, Below.refl _ _, t2⟩)
                · intro a W hb0 hs hp hi; have hb := undrew hb0; clear hb0
                  have t20 : sl a 20 = .int .i64 (i : Nat) := hi 20 (by decide)
                  exact ite_y rfl (wp_val (sl a 20) rfl ⟨_, rfl, Below.refl _ _, t20⟩)
                · intro a W hb0 hs hp hi; have hb := undrew hb0; clear hb0
                  have tt : sl a 102 = .int .i64 (i : Nat) := hp 4 (by decide)
                  refine ite_y rfl (wp_val (B8 b8) ?_ ?_)
                  · simp only [execOp, eval_tmp, tt]; simp [go_sem, A1]
                  · exact ⟨_, rfl, Below.refl _ _, rfl⟩
                · intro a W hb0 hs hp hi; have hb := undrew hb0; clear hb0
                  have t101 : sl a 101 = B8 f := hp 3 (by decide)
                  have t103 : sl a 103 = B8 b8 := hp 5 (by decide)
                  have v101 : a.tmps[101]?.getD undef = sl a 101 := by simp [sl]
                  rw [t101] at v101
                  have v103 : a.tmps[103]?.getD undef = sl a 103 := by simp [sl]
                  rw [t103] at v103
                  refine ite_y rfl (wp_val' (w' := W.alloc (.cells #[B8 f, B8 b8] 5)) (.slice (some ⟨W.heap.size, 0, none⟩) 2 2) ?_ ?_)
                  · simp only [execOp, eval_tmp, eval_const, t101, t103]; simp [go_sem, v101, v103]
                  · exact ⟨_, rfl, (al (Below.refl _ _) (Nat.le_refl _)), _, _, _, rfl, sl_block ([f, b8]) 2 (hnew rfl) rfl rfl (by simp [maxLen])⟩
                · intro a W hb0 hs hp hi; have hb := undrew hb0; clear hb0
                  have t100 : sl a 100 = .slice (some ⟨ga, 0, none⟩) 2 2 := hp 2 (by decide)
                  have t104 : BytesIs ([f, b8]) (sl a 104) W := hp 6 (by decide)
                  obtain ⟨y104a, y104b, y104c, t104, z104a⟩ := t104
                  have v100 : a.tmps[100]?.getD undef = sl a 100 := by simp [sl]
                  rw [t100] at v100
                  have v104 : a.tmps[104]?.getD undef = sl a 104 := by simp [sl]
                  rw [t104] at v104
                  refine ite_y rfl (wp_val' (w' := W.alloc (.cells #[.slice (some ⟨ga, 0, none⟩) 2 2, .slice y104a y104b y104c] 22)) (.slice (some ⟨W.heap.size, 0, none⟩) 2 2) ?_ ?_)
                  · simp only [execOp, eval_tmp, eval_const, t100, t104]; simp [go_sem, v100, v104]
                  · exact ⟨_, rfl, (al (Below.refl _ _) (Nat.le_refl _)), _, _, _, rfl, sl2_pair (hnew rfl) ((SX.out.keep hb).keep (al (Below.refl _ _) (Nat.le_refl _))) (z104a.keep (al (Below.refl _ _) (Nat.le_refl _)))⟩
                · intro a W hb0 hs hp hi; have hb := undrew hb0; clear hb0
                  have t98 : sl a 98 = .agg #[.int .i64 2, .int .i64 1, .int .i64 2, .int .u32 3] := hp 0 (by decide)
                  have t99 : BytesIs ([1, 2]) (sl a 99) W := hp 1 (by decide)
                  obtain ⟨y99a, y99b, y99c, t99, z99a⟩ := t99
                  have t105 : RowsIs ([[x0, x1], [f, b8]]) (sl a 105) W := hp 7 (by decide)
                  obtain ⟨y105a, y105b, y105c, t105, z105a⟩ := t105
                  refine ite_y rfl (wp_enter 25 #[.agg #[.int .i64 2, .int .i64 1, .int .i64 2, .int .u32 3], .slice y99a y99b y99c, .slice y105a y105b y105c] ?_ (HRs.out W y99a y99b y99c y105a y105b y105c (bl HBM.out hb HBM.out.size) z99a z105a) ?_)
                  · simp only [execOp, resolve, List.map_toArray, List.map, eval_tmp, eval_func, eval_const, t98, t99, t105]; simp [go_sem]
                  · rintro e W' ⟨rfl, hw⟩; exact ⟨_, rfl, _, rfl, hw, rfl⟩
                · intro a W hb0 hs hp hi; have hb := undrew hb0; clear hb0
                  have t106 : sl a 106 = .tuple #[.int .i64 (Sb : Nat), .bool true] := hp 8 (by decide)
                  exact ite_y rfl (wp_val (sl a 106) rfl ⟨_, rfl, Below.refl _ _, t106⟩)
                · intro a W hb0 hs hp hi; have hb := undrew hb0; clear hb0
                  have tt : sl a 97 = .tuple #[.int .i64 (Sb : Nat), .bool true] := hp 9 (by decide)
                  refine ite_y rfl (wp_val (.int .i64 (Sb : Nat)) ?_ ?_)
                  · simp only [execOp, eval_tmp, tt]; rfl
                  · exact ⟨_, rfl, Below.refl _ _, rfl⟩
                · intro a W hb0 hs hp hi; have hb := undrew hb0; clear hb0
                  have tt : sl a 97 = .tuple #[.int .i64 (Sb : Nat), .bool true] := hp 9 (by decide)
                  refine ite_y rfl (wp_val (.bool true) ?_ ?_)
                  · simp only [execOp, eval_tmp, tt]; rfl
                  · exact ⟨_, rfl, Below.refl _ _, rfl⟩
                · intro a W hb0 hs hp hi; have hb := undrew hb0; clear hb0
                  have t107 : sl a 107 = .int .i64 (Sb : Nat) := hp 10 (by decide)
                  exact ite_y rfl (wp_val (sl a 107) rfl ⟨_, rfl, Below.refl _ _, t107⟩)
                · intro a W hb0 hs hp hi; have hb := undrew hb0; clear hb0
                  have t108 : sl a 108 = .bool true := hp 11 (by decide)
                  exact ite_y rfl (wp_val (sl a 108) rfl ⟨_, rfl, Below.refl _ _, t108⟩)
              intro a w2 hb hs hd hI ht
              have ha := act_is [98, 99, 100, 101, 102, 103, 104, 105, 106, 97, 107, 108, 21, 22] hs hd ht (by decide)
              have t21 : sl a 21 = .int .i64 (Sb : Nat) := hI 12 (by decide)
              have t22 : sl a 22 = .bool true := hI 13 (by decide)
              simp only [List.foldl, t21, t22] at ha
              generalize sl a 98 = u98 at ha
              generalize sl a 99 = u99 at ha
              generalize sl a 100 = u100 at ha
              generalize sl a 101 = u101 at ha
              generalize sl a 102 = u102 at ha
              generalize sl a 103 = u103 at ha
              generalize sl a 104 = u104 at ha
              generalize sl a 105 = u105 at ha
              generalize sl a 106 = u106 at ha
              generalize sl a 97 = u97 at ha
              generalize sl a 107 = u107 at ha
              generalize sl a 108 = u108 at ha
              simp only [Act.put, List.setIfInBounds_toArray, List.set_cons_zero, List.set_cons_succ] at ha
              rw [ha]
              clear ha hI ht
              have HR2 := Lib.hid (HR.out.keep hb)
              clear hb HR HRs z0 z1 z2 z3 SX HBM A1
              have hu : IntKind.u64.wrap ((cn : Int) + 1) = ((cn + 1 : Nat) : Int) := by rw [IntKind.wrap_u64]; omega
              go_wp2
              go_roundw
              case rel => exact ⟨i + 1, by have := HI.out; omega, by go_num, by rw [HC.out, HGI.out]; go_num, HR2.out⟩
              case measure => simp [intOf]; have := HI.out; omega
            · have hd : ((Sb : Int) == 1) = false := by rw [beq_eq_false_iff_ne]; omega
              have HGI : Hid (g i = false) := by show _ = _; rw [hgi]; exact decide_eq_false hSR
              clear hgi hSR
              go_wp2_with fail
              refine wp_region_shapes (fun ix => ([.val (.agg #[.int .i64 2, .int .i64 1, .int .i64 2, .int .u32 3]), .bytes ([1, 2]), .val (.slice (some ⟨ga, 0, none⟩) 2 2), .val (B8 f), .val (.int .i64 (i : Nat)), .val (B8 b8), .bytes ([f, b8]), .rows ([[x0, x1], [f, b8]]), .val (.tuple #[.int .i64 (Sb : Nat), .bool true]), .val (.tuple #[.int .i64 (Sb : Nat), .bool true]), .val (.int .i64 (Sb : Nat)), .val (.bool true), .val (.int .i64 (Sb : Nat)), .val (.bool true)][ix]?).getD (.any)) 181 rfl (by kernel_rfl) (by decide +kernel) (by decide +kernel) (by decide +kernel) ?_ ?_
              · refine ⟨?_, ?_, ?_, ?_, ?_, ?_, ?_, ?_, ?_, ?_, ?_, ?_, ?_, ?_, trivial⟩
                · intro a W hb0 hs hp hi; have hb := undrew hb0; clear hb0
                  have tt : sl a 9 = .pointer (some ⟨g9, 0, none⟩) := hi 9 (by decide)
                  have dd0 := (hb.cell (p := ⟨g9, 0, none⟩) (lt_of_cell z0)).trans z0
                  have dd1 := (hb.cell (p := ⟨g9, 1, none⟩) (lt_of_cell z1)).trans z1
                  have dd2 := (hb.cell (p := ⟨g9, 2, none⟩) (lt_of_cell z2)).trans z2
                  have dd3 := (hb.cell (p := ⟨g9, 3, none⟩) (lt_of_cell z3)).trans z3
                  refine ite_y rfl (wp_val (.agg #[.int .i64 2, .int .i64 1, .int .i64 2, .int .u32 3]) ?_ ?_)
                  · simp only [execOp, eval_tmp, tt]; simp [go_sem, dd0, dd1, dd2, dd3]
                  · exact ⟨_, rfl, Below.refl _ _, rfl⟩
                · intro a W hb0 hs hp hi; have hb := undrew hb0; clear hb0
                  refine ite_y rfl (wp_val' (w' := W.alloc (.cells #[.int .u8 1, .int .u8 2] 5)) (.slice (some ⟨W.heap.size, 0, none⟩) 2 2) ?_ ?_)
                  · simp only [execOp, eval_tmp, eval_const]; simp [go_sem]
                  · exact ⟨_, rfl, (al (Below.refl _ _) (Nat.le_refl _)), _, _, _, rfl, sl_block ([1, 2]) 2 (hnew rfl) rfl rfl (by simp [maxLen])⟩
                · intro a W hb0 hs hp hi; have hb := undrew hb0; clear hb0
                  have t4 : sl a 4 = .pointer (some ⟨ga, 0, none⟩) := hi 4 (by decide)
                  refine ite_y rfl (wp_val (.slice (some ⟨ga, 0, none⟩) 2 2) ?_ ?_)
                  · simp only [execOp, eval_tmp, eval_const, t4]; simp [go_sem]
                  · exact ⟨_, rfl, Below.refl _ _, rfl⟩
                · intro a W hb0 hs hp hi; have hb := undrew hb0; clear hb0
                  have t2 : sl a 2 = B8 f := hi 2 (by decide)
                  exact ite_y rfl (wp_val (sl a 2) rfl ⟨_, rfl, Below.refl _ _, t2⟩)
                · intro a W hb0 hs hp hi; have hb := undrew hb0; clear hb0
                  have t20 : sl a 20 = .int .i64 (i : Nat) := hi 20 (by decide)
                  exact ite_y rfl (wp_val (sl a 20) rfl ⟨_, rfl, Below.refl _ _, t20⟩)
                · intro a W hb0 hs hp hi; have hb := undrew hb0; clear hb0
                  have tt : sl a 102 = .int .i64 (i : Nat) := hp 4 (by decide)
                  refine ite_y rfl (wp_val (B8 b8) ?_ ?_)
                  · simp only [execOp, eval_tmp, tt]; simp [go_sem, A1]
                  · exact ⟨_, rfl, Below.refl _ _, rfl⟩
                · intro a W hb0 hs hp hi; have hb := undrew hb0; clear hb0
                  have t101 : sl a 101 = B8 f := hp 3 (by decide)
                  have t103 : sl a 103 = B8 b8 := hp 5 (by decide)
                  have v101 : a.tmps[101]?.getD undef = sl a 101 := by simp [sl]
                  rw [t101] at v101
                  have v103 : a.tmps[103]?.getD undef = sl a 103 := by simp [sl]
                  rw [t103] at v103
                  refine ite_y rfl (wp_val' (w' := W.alloc (.cells #[B8 f, B8 b8] 5)) (.slice (some ⟨W.heap.size, 0, none⟩) 2 2) ?_ ?_)
                  · simp only [execOp, eval_tmp, eval_const, t101, t103]; simp [go_sem, v101, v103]
                  · exact ⟨_, rfl, (al (Below.refl _ _) (Nat.le_refl _)), _, _, _, rfl, sl_block ([f, b8]) 2 (hnew rfl) rfl rfl (by simp [maxLen])⟩
                · intro a W hb0 hs hp hi; have hb := undrew hb0; clear hb0
                  have t100 : sl a 100 = .slice (some ⟨ga, 0, none⟩) 2 2 := hp 2 (by decide)
                  have t104 : BytesIs ([f, b8]) (sl a 104) W := hp 6 (by decide)
                  obtain ⟨y104a, y104b, y104c, t104, z104a⟩ := t104
                  have v100 : a.tmps[100]?.getD undef = sl a 100 := by simp [sl]
                  rw [t100] at v100
                  have v104 : a.tmps[104]?.getD undef = sl a 104 := by simp [sl]
                  rw [t104] at v104
                  refine ite_y rfl (wp_val' (w' := W.alloc (.cells #[.slice (some ⟨ga, 0, none⟩) 2 2, .slice y104a y104b y104c] 22)) (.slice (some ⟨W.heap.size, 0, none⟩) 2 2) ?_ ?_)
                  · simp only [execOp, eval_tmp, eval_const, t100, t104]; simp [go_sem, v100, v104]
                  · exact ⟨_, rfl, (al (Below.refl _ _) (Nat.le_refl _)), _, _, _, rfl, sl2_pair (hnew rfl) ((SX.out.keep hb).keep (al (Below.refl _ _) (Nat.le_refl _))) (z104a.keep (al (Below.refl _ _) (Nat.le_refl _)))⟩
                · intro a W hb0 hs hp hi; have hb := undrew hb0; clear hb0
                  have t98 : sl a 98 = .agg #[.int .i64 2, .int .i64 1, .int .i64 2, .int .u32 3] := hp 0 (by decide)
                  have t99 : BytesIs ([1, 2]) (sl a 99) W := hp 1 (by decide)
                  obtain ⟨y99a, y99b, y99c, t99, z99a⟩ := t99
                  have t105 : RowsIs ([[x0, x1], [f, b8]]) (sl a 105) W := hp 7 (by decide)
                  obtain ⟨y105a, y105b, y105c, t105, z105a⟩ := t105
                  refine ite_y rfl (wp_enter 25 #[.agg #[.int .i64 2, .int .i64 1, .int .i64 2, .int .u32 3], .slice y99a y99b y99c, .slice y105a y105b y105c] ?_ (HRs.out W y99a y99b y99c y105a y105b y105c (bl HBM.out hb HBM.out.size) z99a z105a) ?_)
                  · simp only [execOp, resolve, List.map_toArray, List.map, eval_tmp, eval_func, eval_const, t98, t99, t105]; simp [go_sem]
                  · rintro e W' ⟨rfl, hw⟩; exact ⟨_, rfl, _, rfl, hw, rfl⟩
                · intro a W hb0 hs hp hi; have hb := undrew hb0; clear hb0
                  have t106 : sl a 106 = .tuple #[.int .i64 (Sb : Nat), .bool true] := hp 8 (by decide)
                  exact ite_y rfl (wp_val (sl a 106) rfl ⟨_, rfl, Below.refl _ _, t106⟩)
                · intro a W hb0 hs hp hi; have hb := undrew hb0; clear hb0
                  have tt : sl a 97 = .tuple #[.int .i64 (Sb : Nat), .bool true] := hp 9 (by decide)
                  refine ite_y rfl (wp_val (.int .i64 (Sb : Nat)) ?_ ?_)
                  · simp only [execOp, eval_tmp, tt]; rfl
                  · exact ⟨_, rfl, Below.refl _ _, rfl⟩
                · intro a W hb0 hs hp hi; have hb := undrew hb0; clear hb0
                  have tt : sl a 97 = .tuple #[.int .i64 (Sb : Nat), .bool true] := hp 9 (by decide)
                  refine ite_y rfl (wp_val (.bool true) ?_ ?_)
                  · simp only [execOp, eval_tmp, tt]; rfl
                  · exact ⟨_, rfl, Below.refl _ _, rfl⟩
                · intro a W hb0 hs hp hi; have hb := undrew hb0; clear hb0
                  have t107 : sl a 107 = .int .i64 (Sb : Nat) := hp 10 (by decide)
                  exact ite_y rfl (wp_val (sl a 107) rfl ⟨_, rfl, Below.refl _ _, t107⟩)
                · intro a W hb0 hs hp hi; have hb := undrew hb0; clear hb0
                  have t108 : sl a 108 = .bool true := hp 11 (by decide)
                  exact ite_y rfl (wp_val (sl a 108) rfl ⟨_, rfl, Below.refl _ _, t108⟩)
              intro a w2 hb hs hd hI ht
              have ha := act_is [98, 99, 100, 101, 102, 103, 104, 105, 106, 97, 107, 108, 21, 22] hs hd ht (by decide)
              have t21 : sl a 21 = .int .i64 (Sb : Nat) := hI 12 (by decide)
              have t22 : sl a 22 = .bool true := hI 13 (by decide)
              simp only [List.foldl, t21, t22] at ha
              generalize sl a 98 = u98 at ha
              generalize sl a 99 = u99 at ha
              generalize sl a 100 = u100 at ha
              generalize sl a 101 = u101 at ha
              generalize sl a 102 = u102 at ha
              generalize sl a 103 = u103 at ha
              generalize sl a 104 = u104 at ha
              generalize sl a 105 = u105 at ha
              generalize sl a 106 = u106 at ha
              generalize sl a 97 = u97 at ha
              generalize sl a 107 = u107 at ha
              generalize sl a 108 = u108 at ha
              simp only [Act.put, List.setIfInBounds_toArray, List.set_cons_zero, List.set_cons_succ] at ha
              rw [ha]
              clear ha hI ht
              have HR2 := Lib.hid (HR.out.keep hb)
              clear hb HR HRs z0 z1 z2 z3 SX HBM A1
              go_wp2
              go_roundw
              case rel => exact ⟨i + 1, by have := HI.out; omega, by go_num, by rw [HC.out, HGI.out]; go_num, HR2.out⟩
              case measure => simp [intOf]; have := HI.out; omega
          · obtain rfl : i = 256 := by omega
            have HRE := Lib.hid HR.out
            clear hlt hi HR HRd
            have gT : ∀ b, g b = true ↔ S (UInt8.ofNat b) = 1 := fun b => by rw [HG.out]; simp
            have gF : ∀ b, S (UInt8.ofNat b) ≠ 1 → g b = false := fun b h => by rw [HG.out]; simpa using h
            have hS := HSS.out
            by_cases hf : f = 0
            · have hc : cntB g 256 = 256 := cntB_all 256 (fun i hi => (gT i).2 ((hS _).2 hf))
              rw [show ((cntB g 256 : Nat) : Int) = 256 by rw [hc]; rfl]
              rw [show B8 f = .int .u8 0 by rw [hf]; rfl]
              have cx : wr.cell? ⟨ga, 0, none⟩ = some (.int .u8 0) := by have := cell_of_row _ _ 0 _ _ _ HRE.out.arr; rw [hx0] at this; exact this
              have SP : Hid (∀ W, Calls Tryz.prog 27 #[.int .i64 1] W (RetN 44 W 256)) := fun W => by have h := Spare_any 1 (by decide) W; rwa [show (256 : Nat) ^ 1 = 256 from rfl] at h
              clear gT gF hc hS HG HSS
              go_wp2_with fail
              refine Calls.mono (SP.out _) ?_
              rintro e w9 ⟨qf, nf, cf, rfl, hw, hb⟩
              have HM9 := Lib.hid (HRE.out.keep hb)
              have cx9 := (hb.cell (p := ⟨ga, 0, none⟩) (lt_of_cell cx)).trans cx
              have HW9 := Lib.hid hw
              clear hb hw HRE SP cx
              have hA9 := NBox.new (T := 40) HW9.out
              have ba : Below w9.heap.size w9 (w9.alloc (.cells #[.slice qf nf cf] 40 (0, 0))) := al (Below.refl _ _) (Nat.le_refl _)
              have cxa : ∀ o', (w9.alloc o').cell? ⟨ga, 0, none⟩ = _ := fun _ => calloc cx9
              go_wp2
              have HMa := Lib.hid (HM9.out.keep ba)
              obtain ⟨g23, hg23⟩ : ∃ g23, g23 = w9.heap.size := ⟨_, rfl⟩
              rw [← hg23] at hA9 ⊢
              clear cxa cx9
              generalize w9.alloc (.cells #[.slice qf nf cf] 40 (0, 0)) = wa at *
              obtain ⟨qz, nz, cz, kz, wz⟩ := hA9
              have HWZ := Lib.hid wz
              obtain ⟨_, z0, z1, z2, z3⟩ := One.of kz
              clear ba HM9 HW9 hg23 wz
              go_wp2_with fail
              refine wp_region_shapes (fun ix => ([.val (.int .i64 0), .val (.bool true), .val (.bool true), .val (.int .u64 256), .val (.bool true), .val (.int .u8 0), .val (.bool true), .val (.bool true), .val (.bool true), .val (.bool true), .val (.int .u8 0), .val (.bool true), .val (.bool true), .val (undef), .val (undef), .val (.bool true), .val (.bool true), .val (.bool true), .val (.agg #[.slice qz nz cz]), (ShNmV 256), .val (.int .i64 0), .val (.bool true), .val (.bool true), .val (.bool true)][ix]?).getD (.any)) 181 rfl (by kernel_rfl) (by decide +kernel) (by decide +kernel) (by decide +kernel) ?_ ?_
              · refine ⟨?_, ?_, ?_, ?_, ?_, ?_, ?_, ?_, ?_, ?_, ?_, ?_, ?_, ?_, ?_, ?_, ?_, ?_, ?_, ?_, ?_, ?_, ?_, ?_, trivial⟩
                · intro a W hb0 hs hp hi; have hb := undrew hb0; clear hb0
                  have t24 : sl a 24 = .int .i64 0 := hi 24 (by decide)
                  exact ite_y rfl (wp_val (sl a 24) rfl ⟨_, rfl, Below.refl _ _, t24⟩)
                · intro a W hb0 hs hp hi; have hb := undrew hb0; clear hb0
                  have t158 : sl a 158 = .int .i64 0 := hp 0 (by decide)
                  refine ite_y rfl (wp_val (.bool true) ?_ ?_)
                  · simp only [execOp, eval_tmp, eval_const, t158]; simp [go_sem]
                  · exact ⟨_, rfl, Below.refl _ _, rfl⟩
                · intro a W hb0 hs hp hi; have hb := undrew hb0; clear hb0
                  have t159 : sl a 159 = .bool true := hp 1 (by decide)
                  exact ite_y rfl (wp_val (sl a 159) rfl ⟨_, rfl, Below.refl _ _, t159⟩)
                · intro a W hb0 hs hp hi; have hb := undrew hb0; clear hb0
                  have tg : sl a 160 = .bool true := hp 2 (by decide)
                  have t19 : sl a 19 = .int .u64 256 := hi 19 (by decide)
                  exact ite_y (wanted_yes rfl rfl (by have hz : a.tmps.size = 181 := hs; rw [hz]; decide) tg) (wp_val (sl a 19) rfl ⟨_, rfl, Below.refl _ _, t19⟩)
                · intro a W hb0 hs hp hi; have hb := undrew hb0; clear hb0
                  have tg : sl a 160 = .bool true := hp 2 (by decide)
                  have t161 : sl a 161 = .int .u64 256 := hp 3 (by decide)
                  refine ite_y (wanted_yes rfl rfl (by have hz : a.tmps.size = 181 := hs; rw [hz]; decide) tg) (wp_val (.bool true) ?_ ?_)
                  · simp only [execOp, eval_tmp, eval_const, t161]; simp [go_sem]
                  · exact ⟨_, rfl, Below.refl _ _, rfl⟩
                · intro a W hb0 hs hp hi; have hb := undrew hb0; clear hb0
                  have tg : sl a 160 = .bool true := hp 2 (by decide)
                  have t2 : sl a 2 = .int .u8 0 := hi 2 (by decide)
                  exact ite_y (wanted_yes rfl rfl (by have hz : a.tmps.size = 181 := hs; rw [hz]; decide) tg) (wp_val (sl a 2) rfl ⟨_, rfl, Below.refl _ _, t2⟩)
                · intro a W hb0 hs hp hi; have hb := undrew hb0; clear hb0
                  have tg : sl a 160 = .bool true := hp 2 (by decide)
                  have t163 : sl a 163 = .int .u8 0 := hp 5 (by decide)
                  refine ite_y (wanted_yes rfl rfl (by have hz : a.tmps.size = 181 := hs; rw [hz]; decide) tg) (wp_val (.bool true) ?_ ?_)
                  · simp only [execOp, eval_tmp, eval_const, t163]; simp [go_sem]
                  · exact ⟨_, rfl, Below.refl _ _, rfl⟩
                · intro a W hb0 hs hp hi; have hb := undrew hb0; clear hb0
                  have tg : sl a 160 = .bool true := hp 2 (by decide)
                  have t162 : sl a 162 = .bool true := hp 4 (by decide)
                  have t164 : sl a 164 = .bool true := hp 6 (by decide)
                  refine ite_y (wanted_yes rfl rfl (by have hz : a.tmps.size = 181 := hs; rw [hz]; decide) tg) (wp_val (.bool true) ?_ ?_)
                  · simp only [execOp, eval_tmp, eval_const, t162, t164]; simp [go_sem]
                  · exact ⟨_, rfl, Below.refl _ _, rfl⟩
                · intro a W hb0 hs hp hi; have hb := undrew hb0; clear hb0
                  have t160 : sl a 160 = .bool true := hp 2 (by decide)
                  have t165 : sl a 165 = .bool true := hp 7 (by decide)
                  refine ite_y rfl (wp_val (.bool true) ?_ ?_)
                  · simp only [execOp, eval_tmp, eval_const, t160, t165]; simp [go_sem]
                  · exact ⟨_, rfl, Below.refl _ _, rfl⟩
                · intro a W hb0 hs hp hi; have hb := undrew hb0; clear hb0
                  have t166 : sl a 166 = .bool true := hp 8 (by decide)
                  exact ite_y rfl (wp_val (sl a 166) rfl ⟨_, rfl, Below.refl _ _, t166⟩)
                · intro a W hb0 hs hp hi; have hb := undrew hb0; clear hb0
                  have tg : sl a 167 = .bool true := hp 9 (by decide)
                  have t2 : sl a 2 = .int .u8 0 := hi 2 (by decide)
                  exact ite_y (wanted_yes rfl rfl (by have hz : a.tmps.size = 181 := hs; rw [hz]; decide) tg) (wp_val (sl a 2) rfl ⟨_, rfl, Below.refl _ _, t2⟩)
                · intro a W hb0 hs hp hi; have hb := undrew hb0; clear hb0
                  have tg : sl a 167 = .bool true := hp 9 (by decide)
                  have t168 : sl a 168 = .int .u8 0 := hp 10 (by decide)
                  refine ite_y (wanted_yes rfl rfl (by have hz : a.tmps.size = 181 := hs; rw [hz]; decide) tg) (wp_val (.bool true) ?_ ?_)
                  · simp only [execOp, eval_tmp, eval_const, t168]; simp [go_sem]
                  · exact ⟨_, rfl, Below.refl _ _, rfl⟩
                · intro a W hb0 hs hp hi; have hb := undrew hb0; clear hb0
                  have tg : sl a 167 = .bool true := hp 9 (by decide)
                  have t169 : sl a 169 = .bool true := hp 11 (by decide)
                  exact ite_y (wanted_yes rfl rfl (by have hz : a.tmps.size = 181 := hs; rw [hz]; decide) tg) (wp_val (sl a 169) rfl ⟨_, rfl, Below.refl _ _, t169⟩)
                · intro a W hb0 hs hp hi; have hb := undrew hb0; clear hb0
                  have tg : sl a 170 = .bool true := hp 12 (by decide)
                  exact ite_n (wanted_no rfl rfl (by have hz : a.tmps.size = 181 := hs; rw [hz]; decide) tg (by decide)) rfl
                · intro a W hb0 hs hp hi; have hb := undrew hb0; clear hb0
                  have tg : sl a 170 = .bool true := hp 12 (by decide)
                  exact ite_n (wanted_no rfl rfl (by have hz : a.tmps.size = 181 := hs; rw [hz]; decide) tg (by decide)) rfl
                · intro a W hb0 hs hp hi; have hb := undrew hb0; clear hb0
                  have tg : sl a 167 = .bool true := hp 9 (by decide)
                  have t170 : sl a 170 = .bool true := hp 12 (by decide)
                  have t172 : sl a 172 = undef := hp 14 (by decide)
                  refine ite_y (wanted_yes rfl rfl (by have hz : a.tmps.size = 181 := hs; rw [hz]; decide) tg) (wp_val (.bool true) ?_ ?_)
                  · simp only [execOp, eval_tmp, eval_const, t170, t172]; simp [go_sem]
                  · exact ⟨_, rfl, Below.refl _ _, rfl⟩
                · intro a W hb0 hs hp hi; have hb := undrew hb0; clear hb0
                  have t167 : sl a 167 = .bool true := hp 9 (by decide)
                  have t173 : sl a 173 = .bool true := hp 15 (by decide)
                  refine ite_y rfl (wp_val (.bool true) ?_ ?_)
                  · simp only [execOp, eval_tmp, eval_const, t167, t173]; simp [go_sem]
                  · exact ⟨_, rfl, Below.refl _ _, rfl⟩
                · intro a W hb0 hs hp hi; have hb := undrew hb0; clear hb0
                  have t174 : sl a 174 = .bool true := hp 16 (by decide)
                  exact ite_y rfl (wp_val (sl a 174) rfl ⟨_, rfl, Below.refl _ _, t174⟩)
                · intro a W hb0 hs hp hi; have hb := undrew hb0; clear hb0
                  have tg : sl a 175 = .bool true := hp 17 (by decide)
                  have tt : sl a 23 = .pointer (some ⟨g23, 0, none⟩) := hi 23 (by decide)
                  have dd0 := (hb.cell (p := ⟨g23, 0, none⟩) (lt_of_cell z0)).trans z0
                  refine ite_y (wanted_yes rfl rfl (by have hz : a.tmps.size = 181 := hs; rw [hz]; decide) tg) (wp_val (.agg #[.slice qz nz cz]) ?_ ?_)
                  · simp only [execOp, eval_tmp, tt]; simp [go_sem, dd0]
                  · exact ⟨_, rfl, Below.refl _ _, rfl⟩
                · intro a W hb0 hs hp hi; have hb := undrew hb0; clear hb0
                  have tg : sl a 175 = .bool true := hp 17 (by decide)
                  refine ite_y (wanted_yes rfl rfl (by have hz : a.tmps.size = 181 := hs; rw [hz]; decide) tg) (wp_enter 16 #[.int .u64 256] ?_ (Of_k 256 (by decide) W) ?_)
                  · simp only [execOp, resolve, List.map_toArray, List.map, eval_tmp, eval_func, eval_const]; simp [go_sem]
                  · rintro e W' ⟨q, n, c, rfl, hw, hb'⟩; exact ⟨_, rfl, _, rfl, hb', q, n, c, rfl, hw⟩
                · intro a W hb0 hs hp hi; have hb := undrew hb0; clear hb0
                  have tg : sl a 175 = .bool true := hp 17 (by decide)
                  have tA : sl a 176 = .agg #[.slice qz nz cz] := hp 18 (by decide)
                  have tB : NmV 256 (sl a 177) W := hp 19 (by decide)
                  obtain ⟨ya, yb, yc, tB, zz⟩ := tB
                  refine ite_y (wanted_yes rfl rfl (by have hz : a.tmps.size = 181 := hs; rw [hz]; decide) tg) (wp_enter 22 #[.agg #[.slice qz nz cz], .agg #[.slice ya yb yc]] ?_ (Cmp_same (HWZ.out.keep hb) zz rfl) ?_)
                  · simp only [execOp, resolve, List.map_toArray, List.map, eval_tmp, eval_func, eval_const, tA, tB]; simp [go_sem]
                  · rintro e W' ⟨rfl, hw⟩; exact ⟨_, rfl, _, rfl, hw, rfl⟩
                · intro a W hb0 hs hp hi; have hb := undrew hb0; clear hb0
                  have tg : sl a 175 = .bool true := hp 17 (by decide)
                  have t178 : sl a 178 = .int .i64 0 := hp 20 (by decide)
                  refine ite_y (wanted_yes rfl rfl (by have hz : a.tmps.size = 181 := hs; rw [hz]; decide) tg) (wp_val (.bool true) ?_ ?_)
                  · simp only [execOp, eval_tmp, eval_const, t178]; simp [go_sem]
                  · exact ⟨_, rfl, Below.refl _ _, rfl⟩
                · intro a W hb0 hs hp hi; have hb := undrew hb0; clear hb0
                  have t175 : sl a 175 = .bool true := hp 17 (by decide)
                  have t179 : sl a 179 = .bool true := hp 21 (by decide)
                  refine ite_y rfl (wp_val (.bool true) ?_ ?_)
                  · simp only [execOp, eval_tmp, eval_const, t175, t179]; simp [go_sem]
                  · exact ⟨_, rfl, Below.refl _ _, rfl⟩
                · intro a W hb0 hs hp hi; have hb := undrew hb0; clear hb0
                  have t180 : sl a 180 = .bool true := hp 22 (by decide)
                  exact ite_y rfl (wp_val (sl a 180) rfl ⟨_, rfl, Below.refl _ _, t180⟩)
              intro a wz hb hs hd hI ht
              have ha := act_is [158, 159, 160, 161, 162, 163, 164, 165, 166, 167, 168, 169, 170, 171, 172, 173, 174, 175, 176, 177, 178, 179, 180, 6] hs hd ht (by decide)
              have t6 : sl a 6 = .bool true := hI 23 (by decide)
              simp only [List.foldl, t6] at ha
              generalize sl a 158 = u158 at ha
              generalize sl a 159 = u159 at ha
              generalize sl a 160 = u160 at ha
              generalize sl a 161 = u161 at ha
              generalize sl a 162 = u162 at ha
              generalize sl a 163 = u163 at ha
              generalize sl a 164 = u164 at ha
              generalize sl a 165 = u165 at ha
              generalize sl a 166 = u166 at ha
              generalize sl a 167 = u167 at ha
              generalize sl a 168 = u168 at ha
              generalize sl a 169 = u169 at ha
              generalize sl a 170 = u170 at ha
              generalize sl a 171 = u171 at ha
              generalize sl a 172 = u172 at ha
              generalize sl a 173 = u173 at ha
              generalize sl a 174 = u174 at ha
              generalize sl a 175 = u175 at ha
              generalize sl a 176 = u176 at ha
              generalize sl a 177 = u177 at ha
              generalize sl a 178 = u178 at ha
              generalize sl a 179 = u179 at ha
              generalize sl a 180 = u180 at ha
              simp only [Act.put, List.setIfInBounds_toArray, List.set_cons_zero, List.set_cons_succ] at ha
              rw [ha]
              clear ha hI ht
              have HBZ := Lib.hid (bl HMa.out.bel hb HMa.out.bel.size)
              clear hb
              go_wp2
              go_ret
              exact ⟨rfl, HBZ.out⟩
            · have hc : cntB g 256 = 0 := cntB_none 256 (fun i hi => gF i (fun h => hf ((hS _).1 h)))
              rw [show ((cntB g 256 : Nat) : Int) = 0 by rw [hc]; rfl]
              have hf1 : ((f.toNat : Int) == 0) = false := by rw [nat_eq_zero]; exact decide_eq_false hf
              have cx : wr.cell? ⟨ga, 0, none⟩ = some (.int .u8 0) := by have := cell_of_row _ _ 0 _ _ _ HRE.out.arr; rw [hx0] at this; exact this
              have SP : Hid (∀ W, Calls Tryz.prog 27 #[.int .i64 1] W (RetN 44 W 256)) := fun W => by have h := Spare_any 1 (by decide) W; rwa [show (256 : Nat) ^ 1 = 256 from rfl] at h
              clear gT gF hc hS HG HSS
              go_wp2_with fail
              refine Calls.mono (SP.out _) ?_
              rintro e w9 ⟨qf, nf, cf, rfl, hw, hb⟩
              have HM9 := Lib.hid (HRE.out.keep hb)
              have cx9 := (hb.cell (p := ⟨ga, 0, none⟩) (lt_of_cell cx)).trans cx
              have HW9 := Lib.hid hw
              clear hb hw HRE SP cx
              have hA9 := NBox.new (T := 40) HW9.out
              have ba : Below w9.heap.size w9 (w9.alloc (.cells #[.slice qf nf cf] 40 (0, 0))) := al (Below.refl _ _) (Nat.le_refl _)
              have cxa : ∀ o', (w9.alloc o').cell? ⟨ga, 0, none⟩ = _ := fun _ => calloc cx9
              go_wp2
              have HMa := Lib.hid (HM9.out.keep ba)
              obtain ⟨g23, hg23⟩ : ∃ g23, g23 = w9.heap.size := ⟨_, rfl⟩
              rw [← hg23] at hA9 ⊢
              clear cxa cx9
              generalize w9.alloc (.cells #[.slice qf nf cf] 40 (0, 0)) = wa at *
              obtain ⟨qz, nz, cz, kz, wz⟩ := hA9
              have HWZ := Lib.hid wz
              obtain ⟨_, z0, z1, z2, z3⟩ := One.of kz
              clear ba HM9 HW9 hg23 wz
              go_wp2_with fail
              refine wp_region_shapes (fun ix => ([.val (.int .i64 0), .val (.bool true), .val (.bool true), .val (.int .u64 0), .val (.bool false), .val (B8 f), .val (.bool false), .val (.bool true), .val (.bool true), .val (.bool true), .val (B8 f), .val (.bool false), .val (.bool false), .val (.int .u64 0), .val (.bool true), .val (.bool true), .val (.bool true), .val (.bool true), .val (.agg #[.slice qz nz cz]), (ShNmV 256), .val (.int .i64 0), .val (.bool true), .val (.bool true), .val (.bool true)][ix]?).getD (.any)) 181 rfl (by kernel_rfl) (by decide +kernel) (by decide +kernel) (by decide +kernel) ?_ ?_
              · refine ⟨?_, ?_, ?_, ?_, ?_, ?_, ?_, ?_, ?_, ?_, ?_, ?_, ?_, ?_, ?_, ?_, ?_, ?_, ?_, ?_, ?_, ?_, ?_, ?_, trivial⟩
                · intro a W hb0 hs hp hi; have hb := undrew hb0; clear hb0
                  have t24 : sl a 24 = .int .i64 0 := hi 24 (by decide)
                  exact ite_y rfl (wp_val (sl a 24) rfl ⟨_, rfl, Below.refl _ _, t24⟩)
                · intro a W hb0 hs hp hi; have hb := undrew hb0; clear hb0
                  have t158 : sl a 158 = .int .i64 0 := hp 0 (by decide)
                  refine ite_y rfl (wp_val (.bool true) ?_ ?_)
                  · simp only [execOp, eval_tmp, eval_const, t158]; simp [go_sem]
                  · exact ⟨_, rfl, Below.refl _ _, rfl⟩
                · intro a W hb0 hs hp hi; have hb := undrew hb0; clear hb0
                  have t159 : sl a 159 = .bool true := hp 1 (by decide)
                  exact ite_y rfl (wp_val (sl a 159) rfl ⟨_, rfl, Below.refl _ _, t159⟩)
                · intro a W hb0 hs hp hi; have hb := undrew hb0; clear hb0
                  have tg : sl a 160 = .bool true := hp 2 (by decide)
                  have t19 : sl a 19 = .int .u64 0 := hi 19 (by decide)
                  exact ite_y (wanted_yes rfl rfl (by have hz : a.tmps.size = 181 := hs; rw [hz]; decide) tg) (wp_val (sl a 19) rfl ⟨_, rfl, Below.refl _ _, t19⟩)
                · intro a W hb0 hs hp hi; have hb := undrew hb0; clear hb0
                  have tg : sl a 160 = .bool true := hp 2 (by decide)
                  have t161 : sl a 161 = .int .u64 0 := hp 3 (by decide)
                  refine ite_y (wanted_yes rfl rfl (by have hz : a.tmps.size = 181 := hs; rw [hz]; decide) tg) (wp_val (.bool false) ?_ ?_)
                  · simp only [execOp, eval_tmp, eval_const, t161]; simp [go_sem]
                  · exact ⟨_, rfl, Below.refl _ _, rfl⟩
                · intro a W hb0 hs hp hi; have hb := undrew hb0; clear hb0
                  have tg : sl a 160 = .bool true := hp 2 (by decide)
                  have t2 : sl a 2 = B8 f := hi 2 (by decide)
                  exact ite_y (wanted_yes rfl rfl (by have hz : a.tmps.size = 181 := hs; rw [hz]; decide) tg) (wp_val (sl a 2) rfl ⟨_, rfl, Below.refl _ _, t2⟩)
                · intro a W hb0 hs hp hi; have hb := undrew hb0; clear hb0
                  have tg : sl a 160 = .bool true := hp 2 (by decide)
                  have t163 : sl a 163 = B8 f := hp 5 (by decide)
                  refine ite_y (wanted_yes rfl rfl (by have hz : a.tmps.size = 181 := hs; rw [hz]; decide) tg) (wp_val (.bool false) ?_ ?_)
                  · simp only [execOp, eval_tmp, eval_const, t163]; simp [go_sem, hf1]
                  · exact ⟨_, rfl, Below.refl _ _, rfl⟩
                · intro a W hb0 hs hp hi; have hb := undrew hb0; clear hb0
                  have tg : sl a 160 = .bool true := hp 2 (by decide)
                  have t162 : sl a 162 = .bool false := hp 4 (by decide)
                  have t164 : sl a 164 = .bool false := hp 6 (by decide)
                  refine ite_y (wanted_yes rfl rfl (by have hz : a.tmps.size = 181 := hs; rw [hz]; decide) tg) (wp_val (.bool true) ?_ ?_)
                  · simp only [execOp, eval_tmp, eval_const, t162, t164]; simp [go_sem]
                  · exact ⟨_, rfl, Below.refl _ _, rfl⟩
                · intro a W hb0 hs hp hi; have hb := undrew hb0; clear hb0
                  have t160 : sl a 160 = .bool true := hp 2 (by decide)
                  have t165 : sl a 165 = .bool true := hp 7 (by decide)
                  refine ite_y rfl (wp_val (.bool true) ?_ ?_)
                  · simp only [execOp, eval_tmp, eval_const, t160, t165]; simp [go_sem]
                  · exact ⟨_, rfl, Below.refl _ _, rfl⟩
                · intro a W hb0 hs hp hi; have hb := undrew hb0; clear hb0
                  have t166 : sl a 166 = .bool true := hp 8 (by decide)
                  exact ite_y rfl (wp_val (sl a 166) rfl ⟨_, rfl, Below.refl _ _, t166⟩)
                · intro a W hb0 hs hp hi; have hb := undrew hb0; clear hb0
                  have tg : sl a 167 = .bool true := hp 9 (by decide)
                  have t2 : sl a 2 = B8 f := hi 2 (by decide)
                  exact ite_y (wanted_yes rfl rfl (by have hz : a.tmps.size = 181 := hs; rw [hz]; decide) tg) (wp_val (sl a 2) rfl ⟨_, rfl, Below.refl _ _, t2⟩)
                · intro a W hb0 hs hp hi; have hb := undrew hb0; clear hb0
                  have tg : sl a 167 = .bool true := hp 9 (by decide)
                  have t168 : sl a 168 = B8 f := hp 10 (by decide)
                  refine ite_y (wanted_yes rfl rfl (by have hz : a.tmps.size = 181 := hs; rw [hz]; decide) tg) (wp_val (.bool false) ?_ ?_)
                  · simp only [execOp, eval_tmp, eval_const, t168]; simp [go_sem, hf1]
                  · exact ⟨_, rfl, Below.refl _ _, rfl⟩
                · intro a W hb0 hs hp hi; have hb := undrew hb0; clear hb0
                  have tg : sl a 167 = .bool true := hp 9 (by decide)
                  have t169 : sl a 169 = .bool false := hp 11 (by decide)
                  exact ite_y (wanted_yes rfl rfl (by have hz : a.tmps.size = 181 := hs; rw [hz]; decide) tg) (wp_val (sl a 169) rfl ⟨_, rfl, Below.refl _ _, t169⟩)
                · intro a W hb0 hs hp hi; have hb := undrew hb0; clear hb0
                  have tg : sl a 170 = .bool false := hp 12 (by decide)
                  have t19 : sl a 19 = .int .u64 0 := hi 19 (by decide)
                  exact ite_y (wanted_yes rfl rfl (by have hz : a.tmps.size = 181 := hs; rw [hz]; decide) tg) (wp_val (sl a 19) rfl ⟨_, rfl, Below.refl _ _, t19⟩)
                · intro a W hb0 hs hp hi; have hb := undrew hb0; clear hb0
                  have tg : sl a 170 = .bool false := hp 12 (by decide)
                  have t171 : sl a 171 = .int .u64 0 := hp 13 (by decide)
                  refine ite_y (wanted_yes rfl rfl (by have hz : a.tmps.size = 181 := hs; rw [hz]; decide) tg) (wp_val (.bool true) ?_ ?_)
                  · simp only [execOp, eval_tmp, eval_const, t171]; simp [go_sem]
                  · exact ⟨_, rfl, Below.refl _ _, rfl⟩
                · intro a W hb0 hs hp hi; have hb := undrew hb0; clear hb0
                  have tg : sl a 167 = .bool true := hp 9 (by decide)
                  have t170 : sl a 170 = .bool false := hp 12 (by decide)
                  have t172 : sl a 172 = .bool true := hp 14 (by decide)
                  refine ite_y (wanted_yes rfl rfl (by have hz : a.tmps.size = 181 := hs; rw [hz]; decide) tg) (wp_val (.bool true) ?_ ?_)
                  · simp only [execOp, eval_tmp, eval_const, t170, t172]; simp [go_sem]
                  · exact ⟨_, rfl, Below.refl _ _, rfl⟩
                · intro a W hb0 hs hp hi; have hb := undrew hb0; clear hb0
                  have t167 : sl a 167 = .bool true := hp 9 (by decide)
                  have t173 : sl a 173 = .bool true := hp 15 (by decide)
                  refine ite_y rfl (wp_val (.bool true) ?_ ?_)
                  · simp only [execOp, eval_tmp, eval_const, t167, t173]; simp [go_sem]
                  · exact ⟨_, rfl, Below.refl _ _, rfl⟩
                · intro a W hb0 hs hp hi; have hb := undrew hb0; clear hb0
                  have t174 : sl a 174 = .bool true := hp 16 (by decide)
                  exact ite_y rfl (wp_val (sl a 174) rfl ⟨_, rfl, Below.refl _ _, t174⟩)
                · intro a W hb0 hs hp hi; have hb := undrew hb0; clear hb0
                  have tg : sl a 175 = .bool true := hp 17 (by decide)
                  have tt : sl a 23 = .pointer (some ⟨g23, 0, none⟩) := hi 23 (by decide)
                  have dd0 := (hb.cell (p := ⟨g23, 0, none⟩) (lt_of_cell z0)).trans z0
                  refine ite_y (wanted_yes rfl rfl (by have hz : a.tmps.size = 181 := hs; rw [hz]; decide) tg) (wp_val (.agg #[.slice qz nz cz]) ?_ ?_)
                  · simp only [execOp, eval_tmp, tt]; simp [go_sem, dd0]
                  · exact ⟨_, rfl, Below.refl _ _, rfl⟩
                · intro a W hb0 hs hp hi; have hb := undrew hb0; clear hb0
                  have tg : sl a 175 = .bool true := hp 17 (by decide)
                  refine ite_y (wanted_yes rfl rfl (by have hz : a.tmps.size = 181 := hs; rw [hz]; decide) tg) (wp_enter 16 #[.int .u64 256] ?_ (Of_k 256 (by decide) W) ?_)
                  · simp only [execOp, resolve, List.map_toArray, List.map, eval_tmp, eval_func, eval_const]; simp [go_sem]
                  · rintro e W' ⟨q, n, c, rfl, hw, hb'⟩; exact ⟨_, rfl, _, rfl, hb', q, n, c, rfl, hw⟩
                · intro a W hb0 hs hp hi; have hb := undrew hb0; clear hb0
                  have tg : sl a 175 = .bool true := hp 17 (by decide)
                  have tA : sl a 176 = .agg #[.slice qz nz cz] := hp 18 (by decide)
                  have tB : NmV 256 (sl a 177) W := hp 19 (by decide)
                  obtain ⟨ya, yb, yc, tB, zz⟩ := tB
                  refine ite_y (wanted_yes rfl rfl (by have hz : a.tmps.size = 181 := hs; rw [hz]; decide) tg) (wp_enter 22 #[.agg #[.slice qz nz cz], .agg #[.slice ya yb yc]] ?_ (Cmp_same (HWZ.out.keep hb) zz rfl) ?_)
                  · simp only [execOp, resolve, List.map_toArray, List.map, eval_tmp, eval_func, eval_const, tA, tB]; simp [go_sem]
                  · rintro e W' ⟨rfl, hw⟩; exact ⟨_, rfl, _, rfl, hw, rfl⟩
                · intro a W hb0 hs hp hi; have hb := undrew hb0; clear hb0
                  have tg : sl a 175 = .bool true := hp 17 (by decide)
                  have t178 : sl a 178 = .int .i64 0 := hp 20 (by decide)
                  refine ite_y (wanted_yes rfl rfl (by have hz : a.tmps.size = 181 := hs; rw [hz]; decide) tg) (wp_val (.bool true) ?_ ?_)
                  · simp only [execOp, eval_tmp, eval_const, t178]; simp [go_sem]
                  · exact ⟨_, rfl, Below.refl _ _, rfl⟩
                · intro a W hb0 hs hp hi; have hb := undrew hb0; clear hb0
                  have t175 : sl a 175 = .bool true := hp 17 (by decide)
                  have t179 : sl a 179 = .bool true := hp 21 (by decide)
                  refine ite_y rfl (wp_val (.bool true) ?_ ?_)
                  · simp only [execOp, eval_tmp, eval_const, t175, t179]; simp [go_sem]
                  · exact ⟨_, rfl, Below.refl _ _, rfl⟩
                · intro a W hb0 hs hp hi; have hb := undrew hb0; clear hb0
                  have t180 : sl a 180 = .bool true := hp 22 (by decide)
                  exact ite_y rfl (wp_val (sl a 180) rfl ⟨_, rfl, Below.refl _ _, t180⟩)
              intro a wz hb hs hd hI ht
              have ha := act_is [158, 159, 160, 161, 162, 163, 164, 165, 166, 167, 168, 169, 170, 171, 172, 173, 174, 175, 176, 177, 178, 179, 180, 6] hs hd ht (by decide)
              have t6 : sl a 6 = .bool true := hI 23 (by decide)
              simp only [List.foldl, t6] at ha
              generalize sl a 158 = u158 at ha
              generalize sl a 159 = u159 at ha
              generalize sl a 160 = u160 at ha
              generalize sl a 161 = u161 at ha
              generalize sl a 162 = u162 at ha
              generalize sl a 163 = u163 at ha
              generalize sl a 164 = u164 at ha
              generalize sl a 165 = u165 at ha
              generalize sl a 166 = u166 at ha
              generalize sl a 167 = u167 at ha
              generalize sl a 168 = u168 at ha
              generalize sl a 169 = u169 at ha
              generalize sl a 170 = u170 at ha
              generalize sl a 171 = u171 at ha
              generalize sl a 172 = u172 at ha
              generalize sl a 173 = u173 at ha
              generalize sl a 174 = u174 at ha
              generalize sl a 175 = u175 at ha
              generalize sl a 176 = u176 at ha
              generalize sl a 177 = u177 at ha
              generalize sl a 178 = u178 at ha
              generalize sl a 179 = u179 at ha
              generalize sl a 180 = u180 at ha
              simp only [Act.put, List.setIfInBounds_toArray, List.set_cons_zero, List.set_cons_succ] at ha
              rw [ha]
              clear ha hI ht
              have HBZ := Lib.hid (bl HMa.out.bel hb HMa.out.bel.size)
              clear hb
              go_wp2
              go_ret
              exact ⟨rfl, HBZ.out⟩
end Go.Proofs.YtfbmdlfkipipfaaGreatDoor
namespace Go.By
open Go.RowKit
end Go.By
namespace Go.By
open Go.RowKit Go.ChangeShapes
section
variable {H : Type} {enc : TypeId × Value → H} {P : Program} {w : World} {base : Nat} {spare : Nat → Bool} {held : Bool}
theorem trod_array2 {t e : TypeId} {fuel : Nat} {c0 c1 : Value} {x : DataW H × List MemPlace} (ht : P.underlying t = some (.array 2 e)) (hce : P.cellsOf e = 1)
    (h : DataW.trod enc P w base spare held fuel t [c0, c1] = some x) :
    ∃ y0 y1 n, x = (.agg [y0.1, y1.1], y0.2 ++ y1.2) ∧ DataW.trod enc P w base spare held n e [c0] = some y0 ∧ DataW.trod enc P w base spare held n e [c1] = some y1 := by
  cases fuel with
  | zero => simp [DataW.trod] at h
  | succ n =>
    unfold DataW.trod at h
    rw [ht] at h
    have r2 : List.range 2 = [0, 1] := rfl
    simp [r2, hce] at h
    obtain ⟨_, h⟩ := h
    cases h0 : DataW.trod enc P w base spare held n e [c0] with
    | none => simp [h0] at h
    | some y0 =>
      cases h1 : DataW.trod enc P w base spare held n e [c1] with
      | none => simp [h0, h1] at h
      | some y1 =>
        simp [h0, h1] at h
        exact ⟨y0, y1, n, h.symm, h0, h1⟩
theorem open_arr2 {r : Reach} {b0 : Nat} {t e : TypeId} {v : Value} {d : DataW H} {p : List MemPlace} (ht : P.underlying t = some (.array 2 e)) (he : P.underlying e = some (.int .u8)) (hct : P.cellsOf t = 2) (hce : P.cellsOf e = 1) (hv : Value.okWide P w r b0 t v) (h : DataW.Trod enc P w base spare held t v d p) :
    ∃ a b : Int, v = .agg #[.int .u8 a, .int .u8 b] ∧ (Lit.int .u8 a).wf = true ∧ (Lit.int .u8 b).wf = true := by
  simp only [Value.okWide, ht] at hv
  obtain ⟨cs, rfl, hsz, _⟩ := hv
  rw [hct] at hsz
  obtain ⟨c0, c1, rfl⟩ := Joins.array2 hsz
  obtain ⟨fuel, hf⟩ := h
  obtain ⟨y0, y1, n, _, h0, h1⟩ := trod_array2 ht hce hf
  obtain ⟨a, ea, _, wa⟩ := DataW.trod_int he h0
  obtain ⟨b, eb, _, wb⟩ := DataW.trod_int he h1
  simp only [List.cons.injEq, and_true] at ea eb
  subst ea; subst eb
  exact ⟨a, b, rfl, wa, wb⟩
end
end Go.By
