/- Counts of grids: OfRank. -/
import Derived.Test.YtbfmdfbnhakolaaDoorD3
namespace Go.By
theorem cnt_cap {n k r : Nat} (hn : n ≤ 20) (hk : k ≤ 20) (hr : r ≤ k) : cntR k n r < capN := by
  have : n * k ≤ 20 * 20 := Nat.mul_le_mul hn hk
  exact Nat.lt_of_le_of_lt (cnt_le hr) (lt_cap (k := n * k + 1) (Nat.pow_lt_pow_right (by decide) (by omega)) (by omega))
/-- the counts behind a row more, down to rank r -/
def rowF (k i r t : Nat) : Nat := if t ≤ r then cntR k i t else cntR k (i + 1) t
end Go.By
namespace Go.Proofs.YtbfmdfbnhakolaaDoor
open Go.RowKit Go.By
set_option maxRecDepth 100000 in
set_option maxHeartbeats 1000000 in
theorem OfRank_less (n k r : Nat) (hn : n ≤ 20) (hk1 : 1 ≤ k) (hk : k ≤ 20) (hlt : n < r) (hr : r ≤ 20) (w : World) : Calls Tryd.prog 12 #[.int .i64 n, .int .i64 k, .int .i64 r] w (RetN 34 w 0) := by
  have hinfo := info_nat
  have HF : Hid (∀ W, Calls Tryd.prog 34 #[.int .i64 n, .int .i64 k] W fun e w' => e = .returned (.bool true) ∧ W = w') := fun W => fits_yes n k hn hk1 hk W
  have h1 : (n : Int) < (r : Int) := by omega
  clear hlt
  go_enter Tryd.func12, Tryd.ntmps12
  go_wp2_with fail
  refine Calls.mono (HF.out _) ?_
  rintro e w' ⟨rfl, rfl⟩
  go_wp2_with fail
  refine Calls.mono (Of_k 0 (by decide) _) ?_
  rintro e w2 ⟨q2, m2, d2, rfl, hw, hb⟩
  have K2 : w2.heap[w.heap.size]? = some (.cells #[.slice none 0 0] 29 (0, 0)) := (hb.block _ (by simp)).trans (hnew rfl)
  have R := Lib.hid (ret_num K2 (Nat.le_refl _) ((Bel.mk (ba1 w _)).keep hb).out hw (by decide))
  obtain ⟨_, a1, a2, a3, a4⟩ := One.of K2
  clear hw hb K2
  go_wp2
  exact bodyPost_ret (res_cell_tmp rfl _ _ _ 29 #[.slice q2 m2 d2] (0, 0) _ (.int .i64 0) rfl R.out.2.2 rfl Tryd.underlying29 rfl hinfo) rfl ⟨_, _, _, rfl, R.out.1, R.out.2.1⟩
set_option maxRecDepth 100000 in
set_option maxHeartbeats 4000000 in
theorem OfRank_more (n k rk : Nat) (hn : n ≤ 20) (hk1 : 1 ≤ k) (hk : k ≤ 20) (hrn : rk ≤ n) (hrk : rk ≤ k) (w : World) : Calls Tryd.prog 12 #[.int .i64 n, .int .i64 k, .int .i64 rk] w (RetN 34 w (cntR k n rk)) := by
  have hinfo := info_nat
  obtain ⟨i0, hi, hz0, hz1, hz2⟩ := info_parts info_natz
  have HF : Hid (∀ W, Calls Tryd.prog 34 #[.int .i64 n, .int .i64 k] W fun e w' => e = .returned (.bool true) ∧ W = w') := fun W => fits_yes n k hn hk1 hk W
  have HM1 : Hid (rk + 1 ≤ maxLen) := by show rk + 1 ≤ maxLen; unfold maxLen; omega
  have HM2 : Hid (24 * (rk + 1) ≤ 281474976710656) := by show 24 * (rk + 1) ≤ _; omega
  have h1 : (rk : Int) ≤ (n : Int) := by omega
  have h2 : (rk : Int) ≤ (k : Int) := by omega
  have hr20 : rk ≤ 20 := by omega
  have HR := Lib.hid hrk
  clear hrn hrk
  go_enter Tryd.func12, Tryd.ntmps12
  go_wp2_with fail
  refine Calls.mono (HF.out _) ?_
  rintro e w' ⟨rfl, rfl⟩
  clear HF
  go_wp2_with (at_make; refine wpList_make_full _ rfl _ _ 74 rfl (w.heap.size + 1) 29 i0 (.agg #[.slice none 0 0]) 1 Tryd.underlying74 hi hz0 hz1 .i64 .i64 _ _ (rk + 1) rfl rfl (by simp) (by simp) (by rw [hz2]; exact HM2.out) HM1.out (by simp) ?_)
  intro w1 ho hg
  have hb1 : Below (w.alloc (.cells #[.slice none 0 0] 29)).heap.size (w.alloc (.cells #[.slice none 0 0] 29)) w1 := (Below.refl _ _).grown hg (Nat.le_refl _) (by simp)
  obtain ⟨gs, hgs⟩ : ∃ gs, gs = w.heap.size + 1 := ⟨_, rfl⟩
  have A1 : Hid (NArr 29 34 w1 gs (rk + 1) (fun _ => 0)) := by rw [hgs]; exact NArr.made ho (by omega)
  have K1 : Hid (BlkIs w.heap.size (.cells #[.slice none 0 0] 29) w1) := BlkIs.keep (hnew rfl) hb1
  have B1 : Hid (Bel w w1) := (Bel.mk (ba1 w _)).keep hb1
  have hlt1 : w.heap.size < gs := by omega
  have hgs2 : w.heap.size + 1 = gs := hgs.symm
  have hs1 : gs < w1.heap.size := by obtain ⟨cs, hh⟩ := A1.out.blk; exact blk_lt hh
  clear ho hg hb1 hgs
  rw [hgs2]
  clear hgs2
  go_wp2_with (at_make; refine wpList_make_full _ rfl _ _ 74 rfl w1.heap.size 29 i0 (.agg #[.slice none 0 0]) 1 Tryd.underlying74 hi hz0 hz1 .i64 .i64 _ _ (rk + 1) rfl rfl (by simp) (by simp) (by rw [hz2]; exact HM2.out) HM1.out (Nat.le_refl _) ?_)
  intro w2 ho hg
  have hb1 : Below w1.heap.size w1 w2 := (Below.refl _ _).grown hg (Nat.le_refl _) (by simp)
  have A2 := Lib.hid (A1.out.keep hb1)
  have G2 : Hid (NArr 29 34 w2 w1.heap.size (rk + 1) (fun _ => 0)) := NArr.made ho (by omega)
  have K2 := Lib.hid (K1.out.keep hb1); have B2 := Lib.hid (B1.out.keep hb1)
  clear ho hg hb1 A1 K1 B1
  generalize w1.heap.size = gg at *
  go_wp2
  go_loopw [10] (fun rv wr => ∃ r : Nat, 1 ≤ r ∧ r ≤ rk + 1 ∧ rv = .int .i64 r ∧ Hid (BlkIs w.heap.size (.cells #[.slice none 0 0] 29) wr) ∧ Hid (Bel w wr) ∧ Hid (NArr 29 34 wr gs (rk + 1) (fun t => if 1 ≤ t ∧ t < r then 256 ^ t else 0)) ∧ Hid (NArr 29 34 wr gg (rk + 1) (fun t => if 1 ≤ t ∧ t < r then 256 ^ k - 256 ^ (t - 1) else 0))) (fun rv _ => rk + 1 - (intOf rv).toNat)
  case atStart =>
    refine ⟨1, by omega, by omega, rfl, K2.out, B2.out, A2.out.congr fun i _ => ?_, G2.out.congr fun i _ => ?_⟩
    · rw [if_neg (by omega)]
    · rw [if_neg (by omega)]
  case round =>
    clear A2 G2 K2 B2
    obtain ⟨r, hr1, hr2, rfl, hK, hB, hA, hG⟩ := hrel
    by_cases hlt : r ≤ rk
    · have hlt' : (r : Int) ≤ (rk : Int) := by omega
      obtain ⟨p, hp⟩ : ∃ p, r = p + 1 := ⟨r - 1, by omega⟩
      have HP := Lib.hid hp
      have HL := Lib.hid hlt
      clear hp
      go_wp2_with fail
      refine Calls.mono (power_any r (by omega) _) ?_
      rintro e w4 ⟨q4, m4, d4, rfl, hw, hb⟩
      have K4 := hK.out.keep hb; have B4 := hB.out.keep hb
      have A4 := hA.out.keep hb; have G4 := hG.out.keep hb
      obtain ⟨qx, nx, cx, e1, e2, _⟩ := A4.at (i := r) (by omega)
      obtain ⟨cs, kb⟩ := A4.blk
      have S5 : Hid (BlkIs w.heap.size (.cells #[.slice none 0 0] 29) (w4.setCell ⟨gs, r, none⟩ (.slice q4 m4 d4)) ∧ Bel w (w4.setCell ⟨gs, r, none⟩ (.slice q4 m4 d4)) ∧ NArr 29 34 (w4.setCell ⟨gs, r, none⟩ (.slice q4 m4 d4)) gs (rk + 1) (fun t => if 1 ≤ t ∧ t < r + 1 then 256 ^ t else 0) ∧ NArr 29 34 (w4.setCell ⟨gs, r, none⟩ (.slice q4 m4 d4)) gg (rk + 1) (fun t => if 1 ≤ t ∧ t < r then 256 ^ k - 256 ^ (t - 1) else 0)) := by
        refine ⟨hsc K4 (by show w.heap.size ≠ gs; omega), ⟨B4.out.setCell (by show w.heap.size ≤ gs; omega) _⟩, A4.set (by decide) hw (by omega) (by rw [if_pos (by omega)]) (fun i hi hij => ?_), G4.other kb (by omega) (by decide)⟩
        by_cases hir : 1 ≤ i ∧ i < r
        · rw [if_pos hir, if_pos (by omega)]
        · rw [if_neg hir, if_neg (by omega)]
      clear hw hb K4 B4 A4 G4 kb hK hB hA hG
      have hri : (r : Int) < (rk : Int) + 1 := by omega
      go_wp2_with fail
      rw [show (r : Int) - 1 = (p : Int) by have := HP.out; omega]
      refine Calls.mono (without_any k p (by omega) (by have := HP.out; have := HR.out; omega) _) ?_
      rintro e w6 ⟨q6, m6, d6, rfl, hw, hb⟩
      have K4 := S5.out.1.keep hb; have B4 := S5.out.2.1.keep hb
      have A4 := S5.out.2.2.1.keep hb; have G4 := S5.out.2.2.2.keep hb
      obtain ⟨qx, nx, cx, f1, f2, _⟩ := G4.at (i := r) (by omega)
      obtain ⟨cs, kb⟩ := G4.blk
      have S7 : Hid (BlkIs w.heap.size (.cells #[.slice none 0 0] 29) (w6.setCell ⟨gg, r, none⟩ (.slice q6 m6 d6)) ∧ Bel w (w6.setCell ⟨gg, r, none⟩ (.slice q6 m6 d6)) ∧ NArr 29 34 (w6.setCell ⟨gg, r, none⟩ (.slice q6 m6 d6)) gs (rk + 1) (fun t => if 1 ≤ t ∧ t < r + 1 then 256 ^ t else 0) ∧ NArr 29 34 (w6.setCell ⟨gg, r, none⟩ (.slice q6 m6 d6)) gg (rk + 1) (fun t => if 1 ≤ t ∧ t < r + 1 then 256 ^ k - 256 ^ (t - 1) else 0)) := by
        refine ⟨hsc K4 (by show w.heap.size ≠ gg; omega), ⟨B4.out.setCell (by show w.heap.size ≤ gg; omega) _⟩, A4.other kb (by omega) (by decide), G4.set (by decide) hw (by omega) (by rw [if_pos (by omega)]; have := HP.out; rw [show r - 1 = p by omega]) (fun i hi hij => ?_)⟩
        by_cases hir : 1 ≤ i ∧ i < r
        · rw [if_pos hir, if_pos (by omega)]
        · rw [if_neg hir, if_neg (by omega)]
      clear hw hb K4 B4 A4 G4 kb S5 e1 e2
      go_wp2
      go_roundw
      case rel => exact ⟨r + 1, by omega, by have := HL.out; omega, by go_num, S7.out.1, S7.out.2.1, S7.out.2.2.1, S7.out.2.2.2⟩
      case measure => simp [intOf]; have := HL.out; omega
    · obtain rfl : r = rk + 1 := by omega
      have SA := hA.out.congr (G := fun t => if 1 ≤ t then 256 ^ t else 0) (fun i hi => by
        by_cases h : 1 ≤ i
        · rw [if_pos ⟨h, hi⟩, if_pos h]
        · rw [if_neg (by omega), if_neg h])
      have SG := hG.out.congr (G := fun t => if 1 ≤ t then 256 ^ k - 256 ^ (t - 1) else 0) (fun i hi => by
        by_cases h : 1 ≤ i
        · rw [if_pos ⟨h, hi⟩, if_pos h]
        · rw [if_neg (by omega), if_neg h])
      have SA_0 := Lib.hid SA; have SG_0 := Lib.hid SG
      have hgw : gg < wr.heap.size := by obtain ⟨cs, hh⟩ := SG.blk; exact blk_lt hh
      clear SA SG hA hG hlt hr1 hr2
      go_wp2_with (at_make; refine wpList_make_full _ rfl _ _ 74 rfl wr.heap.size 29 i0 (.agg #[.slice none 0 0]) 1 Tryd.underlying74 hi hz0 hz1 .i64 .i64 _ _ (rk + 1) rfl rfl (by simp) (by simp) (by rw [hz2]; exact HM2.out) HM1.out (Nat.le_refl _) ?_)
      intro w3 ho hg
      have hb1 : Below wr.heap.size wr w3 := (Below.refl _ _).grown hg (Nat.le_refl _) (by simp)
      have C_1 : Hid (NArr 29 34 w3 wr.heap.size (rk + 1) (fun _ => 0)) := NArr.made ho (by omega)
      have SA_1 := Lib.hid (SA_0.out.keep hb1); have SG_1 := Lib.hid (SG_0.out.keep hb1); have K_1 := Lib.hid (hK.out.keep hb1); have B_1 := Lib.hid (hB.out.keep hb1)
      clear ho hg hb1 SA_0 SG_0 hK hB
      generalize wr.heap.size = gc at *
      go_wp2_with fail
      refine Calls.mono (Of_k 1 (by decide) _) ?_
      rintro e w4 ⟨q4, m4, d4, rfl, hw, hb⟩
      have C4 := C_1.out.keep hb
      obtain ⟨qx, nx, cx, e1, e2, _⟩ := C4.at (i := 0) (by omega)
      obtain ⟨cs, kb⟩ := C4.blk
      have S5 : Hid (BlkIs w.heap.size (.cells #[.slice none 0 0] 29) (w4.setCell ⟨gc, 0, none⟩ (.slice q4 m4 d4)) ∧ Bel w (w4.setCell ⟨gc, 0, none⟩ (.slice q4 m4 d4)) ∧ NArr 29 34 (w4.setCell ⟨gc, 0, none⟩ (.slice q4 m4 d4)) gs (rk + 1) (fun t => if 1 ≤ t then 256 ^ t else 0) ∧ NArr 29 34 (w4.setCell ⟨gc, 0, none⟩ (.slice q4 m4 d4)) gg (rk + 1) (fun t => if 1 ≤ t then 256 ^ k - 256 ^ (t - 1) else 0) ∧ NArr 29 34 (w4.setCell ⟨gc, 0, none⟩ (.slice q4 m4 d4)) gc (rk + 1) (cntR k 0)) := by
        refine ⟨hsc (K_1.out.keep hb) (by show w.heap.size ≠ gc; omega), ⟨(B_1.out.keep hb).out.setCell (by show w.heap.size ≤ gc; omega) _⟩, (SA_1.out.keep hb).other kb (by omega) (by decide), (SG_1.out.keep hb).other kb (by omega) (by decide), C4.set (by decide) hw (by omega) rfl (fun i hi hij => ?_)⟩
        obtain ⟨j, rfl⟩ : ∃ j, i = j + 1 := ⟨i - 1, by omega⟩
        rfl
      clear hw hb C4 kb C_1 SA_1 SG_1 K_1 B_1
      go_wp2
      go_loopw [79] (fun iv wr => ∃ i : Nat, i ≤ n ∧ iv = .int .i64 i ∧ Hid (BlkIs w.heap.size (.cells #[.slice none 0 0] 29) wr) ∧ Hid (Bel w wr) ∧ Hid (NArr 29 34 wr gs (rk + 1) (fun t => if 1 ≤ t then 256 ^ t else 0)) ∧ Hid (NArr 29 34 wr gg (rk + 1) (fun t => if 1 ≤ t then 256 ^ k - 256 ^ (t - 1) else 0)) ∧ Hid (NArr 29 34 wr gc (rk + 1) (cntR k i))) (fun iv _ => n - (intOf iv).toNat)
      case atStart => exact ⟨0, Nat.zero_le _, rfl, S5.out.1, S5.out.2.1, S5.out.2.2.1, S5.out.2.2.2.1, S5.out.2.2.2.2⟩
      case round =>
        clear S5 e1 e2
        obtain ⟨i, hin, rfl, hK, hB, hA, hG, hC⟩ := hrel
        by_cases hlt : i < n
        · have hlt' : (i : Int) < (n : Int) := by omega
          have HL := Lib.hid hlt
          have HC0 : Hid (NArr 29 34 wr gc (rk + 1) (rowF k i rk)) := hC.out.congr (fun t ht => by unfold rowF; rw [if_pos (by omega)])
          clear hlt hC
          go_wp2
          go_loopw [13] (fun rv wr => ∃ r : Nat, r ≤ rk ∧ rv = .int .i64 r ∧ Hid (BlkIs w.heap.size (.cells #[.slice none 0 0] 29) wr) ∧ Hid (Bel w wr) ∧ Hid (NArr 29 34 wr gs (rk + 1) (fun t => if 1 ≤ t then 256 ^ t else 0)) ∧ Hid (NArr 29 34 wr gg (rk + 1) (fun t => if 1 ≤ t then 256 ^ k - 256 ^ (t - 1) else 0)) ∧ Hid (NArr 29 34 wr gc (rk + 1) (rowF k i r))) (fun rv _ => (intOf rv).toNat)
          case atStart => exact ⟨rk, Nat.le_refl _, rfl, hK.out, hB.out, hA.out, hG.out, HC0.out⟩
          case round =>
            clear hK hB hA hG HC0
            obtain ⟨r, hr, rfl, hK, hB, hA, hG, hC⟩ := hrel
            cases r with
            | zero =>
              have HC1 : Hid (NArr 29 34 wr gc (rk + 1) (cntR k (i + 1))) := hC.out.congr (fun t ht => by
                unfold rowF
                by_cases h : t ≤ 0
                · have : t = 0 := by omega
                  subst this
                  rw [if_pos h, cnt_zero, cnt_zero]
                · rw [if_neg h])
              clear hC
              go_wp2
              go_roundw
              case rel => exact ⟨i + 1, by have := HL.out; omega, by go_num, hK.out, hB.out, hA.out, hG.out, HC1.out⟩
              case measure => simp [intOf]; have := HL.out; omega
            | succ p =>
              obtain ⟨r, hrp⟩ : ∃ r, r = p + 1 := ⟨_, rfl⟩
              rw [← hrp] at hr hC ⊢
              have HRP := Lib.hid hrp
              have hr1 : (1 : Int) ≤ (r : Int) := by omega
              obtain ⟨qa, na, ca, cA, _, wA⟩ := hC.out.at (i := r) (by omega)
              obtain ⟨qb, nb, cb, cB, _, wB⟩ := hA.out.at (i := r) (by omega)
              have L1 : Hid (Ws 34 wr qa na ca (cntR k i r)) := by have := wA; unfold rowF at this; rw [if_pos (Nat.le_refl _)] at this; exact this
              have L2 : Hid (Ws 34 wr qb nb cb (256 ^ r)) := by have := wB; rw [if_pos (by omega)] at this; exact this
              have K1 : (r : Int) < (rk : Int) + 1 := by omega
              have K2 : r < rk + 1 := by omega
              have HS1 : Hid (cntR k i r < capN ∧ cntR k i r * 256 ^ r < capN ∧ cntR k i p < capN ∧ cntR k i p * (256 ^ k - 256 ^ p) < capN ∧ cntR k i r * 256 ^ r + cntR k i p * (256 ^ k - 256 ^ p) = cntR k (i + 1) r ∧ cntR k (i + 1) r < capN) := by
                have hrk := HR.out; have hil := HL.out
                have c1 := cnt_cap (n := i) (k := k) (r := r) (by omega) hk (by omega)
                have c2 := cnt_cap (n := i) (k := k) (r := p) (by omega) hk (by omega)
                have c3 := cnt_cap (n := i + 1) (k := k) (r := r) (by omega) hk (by omega)
                have e : cntR k (i + 1) r = cntR k i r * 256 ^ r + cntR k i p * (256 ^ k - 256 ^ p) := by rw [hrp]; rfl
                refine ⟨c1, ?_, c2, ?_, e.symm, c3⟩ <;> omega
              clear wA wB hrp
              go_wp2
              refine wp_region_boxN 29 (fun ix => ([ShN.val _ _ (.slice (some ⟨gc, 0, none⟩) (rk + 1) (rk + 1)), ShN.val _ _ (.int .i64 r), ShN.val _ _ (.pointer (some ⟨gc, r, none⟩)), ShN.val _ _ (.agg #[.slice qa na ca]), ShN.val _ _ (.slice (some ⟨gs, 0, none⟩) (rk + 1) (rk + 1)), ShN.val _ _ (.int .i64 r), ShN.val _ _ (.pointer (some ⟨gs, r, none⟩)), ShN.val _ _ (.agg #[.slice qb nb cb]), ShN.num2 34 (cntR k i r) (256 ^ r) (by decide), ShN.numT 34 (cntR k i r * 256 ^ r) (0) (by decide), ShN.numT 34 (cntR k i r * 256 ^ r) (0) (by decide), ShN.num 34 (cntR k i r * 256 ^ r) (by decide), ShN.val _ _ (.int .i64 0), ShN.box _ _, ShN.any _ _, ShN.val _ _ (.int .i64 0)][ix]?).getD (ShN.any _ _)) 14 14 (ShN.num 34 (cntR k i r * 256 ^ r) (by decide)) 140 rfl (by kernel_rfl) (by decide) (by decide) (by decide) ?_ ?_
              · refine ⟨?_, ?_, ?_, ?_, ?_, ?_, ?_, ?_, ?_, ?_, ?_, ?_, ?_, ?_, ?_, ?_, trivial⟩
                · intro a W hb hs hp hi
                  exact ite_y rfl (wp_val (sl a 12) rfl ⟨_, rfl, Below.refl _ _, hi 12 (by decide)⟩)
                · intro a W hb hs hp hi
                  exact ite_y rfl (wp_val (sl a 13) rfl ⟨_, rfl, Below.refl _ _, hi 13 (by decide)⟩)
                · intro a W hb hs hp hi
                  have tx0 : sl a 87 = .slice (some ⟨gc, 0, none⟩) (rk + 1) (rk + 1) := hp 0 (by decide)
                  have tx1 : sl a 88 = .int .i64 r := hp 1 (by decide)
                  refine ite_y rfl (wp_val (.pointer (some ⟨gc, r, none⟩)) ?_ ?_)
                  · simp only [execOp, eval_tmp, tx0, tx1]; simp [go_sem, K1, K2]
                  · exact ⟨_, rfl, Below.refl _ _, rfl⟩
                · intro a W hb hs hp hi
                  have tt : sl a 89 = .pointer (some ⟨gc, r, none⟩) := hp 2 (by decide)
                  have dd := (hb.cell (p := ⟨gc, r, none⟩) (lt_of_cell cA)).trans cA
                  refine ite_y rfl (wp_val (.agg #[.slice qa na ca]) ?_ ?_)
                  · simp only [execOp, eval_tmp, tt]; simp [go_sem, dd]
                  · exact ⟨_, rfl, Below.refl _ _, rfl⟩
                · intro a W hb hs hp hi
                  exact ite_y rfl (wp_val (sl a 8) rfl ⟨_, rfl, Below.refl _ _, hi 8 (by decide)⟩)
                · intro a W hb hs hp hi
                  exact ite_y rfl (wp_val (sl a 13) rfl ⟨_, rfl, Below.refl _ _, hi 13 (by decide)⟩)
                · intro a W hb hs hp hi
                  have tx0 : sl a 91 = .slice (some ⟨gs, 0, none⟩) (rk + 1) (rk + 1) := hp 4 (by decide)
                  have tx1 : sl a 92 = .int .i64 r := hp 5 (by decide)
                  refine ite_y rfl (wp_val (.pointer (some ⟨gs, r, none⟩)) ?_ ?_)
                  · simp only [execOp, eval_tmp, tx0, tx1]; simp [go_sem, K1, K2]
                  · exact ⟨_, rfl, Below.refl _ _, rfl⟩
                · intro a W hb hs hp hi
                  have tt : sl a 93 = .pointer (some ⟨gs, r, none⟩) := hp 6 (by decide)
                  have dd := (hb.cell (p := ⟨gs, r, none⟩) (lt_of_cell cB)).trans cB
                  refine ite_y rfl (wp_val (.agg #[.slice qb nb cb]) ?_ ?_)
                  · simp only [execOp, eval_tmp, tt]; simp [go_sem, dd]
                  · exact ⟨_, rfl, Below.refl _ _, rfl⟩
                · intro a W hb hs hp hi
                  have tx : sl a 90 = .agg #[.slice qa na ca] := hp 3 (by decide)
                  have ty : sl a 94 = .agg #[.slice qb nb cb] := hp 7 (by decide)
                  refine ite_y rfl (wp_val' (w' := W.alloc (.cells #[.slice qa na ca, .slice qb nb cb] 29)) (.slice (some ⟨W.heap.size, 0, none⟩) 2 2) ?_ ?_)
                  · simp only [execOp, eval_tmp, List.map_toArray, List.map, tx, ty]; simp [go_sem, tx, ty]
                  · exact ⟨_, rfl, al (Below.refl _ _) (Nat.le_refl _), _, _, _, _, _, _, _, rfl, hnew rfl, (L1.out.keep hb).on1, (L2.out.keep hb).on1⟩
                · intro a W hb hs hp hi
                  have tx : IsN2 29 34 (cntR k i r) (256 ^ r) (sl a 95) W := hp 8 (by decide)
                  obtain ⟨p, tx, h25⟩ := tx.sl
                  refine ite_y rfl (wp_enter 14 #[.slice p 2 2] ?_ (Mul2_ok h25 HS1.out.1 HS1.out.2.1) ?_)
                  · simp only [execOp, resolve, List.map_toArray, List.map, eval_tmp, eval_func, eval_const, tx]; simp [go_sem]
                  · rintro e W' ⟨q, n, c, rfl, hw, hb'⟩; exact ⟨_, rfl, _, rfl, hb', q, n, c, rfl, hw⟩
                · intro a W hb hs hp hi
                  exact ite_y rfl (wp_val (sl a 96) rfl ⟨_, rfl, Below.refl _ _, hp 9 (by decide)⟩)
                · intro a W hb hs hp hi
                  have tx : IsNT 34 (cntR k i r * 256 ^ r) (0) (sl a 86) W := hp 10 (by decide)
                  obtain ⟨q, n, c, tx, wx⟩ := tx
                  refine ite_y rfl (wp_val (.agg #[.slice q n c]) ?_ ?_)
                  · simp only [execOp, eval_tmp, tx]; rfl
                  · exact ⟨_, rfl, Below.refl _ _, q, n, c, rfl, wx⟩
                · intro a W hb hs hp hi
                  have tx : IsNT 34 (cntR k i r * 256 ^ r) (0) (sl a 86) W := hp 10 (by decide)
                  obtain ⟨q, n, c, tx, wx⟩ := tx
                  refine ite_y rfl (wp_val (.int .i64 0) ?_ ?_)
                  · simp only [execOp, eval_tmp, tx]; rfl
                  · exact ⟨_, rfl, Below.refl _ _, rfl⟩
                · intro a W hb hs hp hi
                  refine ite_y rfl (wp_val' (w' := W.alloc (.cells #[.slice none 0 0] 29)) (.pointer (some ⟨W.heap.size, 0, none⟩)) ?_ ?_)
                  · simp only [execOp]; simp [go_sem]
                  · exact ⟨_, rfl, al (Below.refl _ _) (Nat.le_refl _), W.heap.size, #[.slice none 0 0], rfl, hb.size, rfl, hnew rfl⟩
                · intro a W hb hs hp hi
                  have tu : IsN 34 (cntR k i r * 256 ^ r) (sl a 97) W := hp 11 (by decide)
                  obtain ⟨q, n, c, tu, wu⟩ := tu
                  have tb : NBoxS _ _ 1 (sl a 14) W := hp 13 (by decide)
                  obtain ⟨b, cs, tb, hB, hc, hh⟩ := tb
                  obtain ⟨u0, rfl⟩ := size1 hc
                  have d0 : W.cell? ⟨b, 0, none⟩ = some u0 := cell_of_row _ _ 0 _ _ _ hh
                  have z0 : W.frozen? ⟨b, 0, none⟩ = false := frozen_of_row _ _ 0 _ _ hh
                  refine ite_y rfl (wp_skipX (w' := W.setCell ⟨b, 0, none⟩ (.slice q n c)) ?_ ?_)
                  · simp only [execOp, eval_tmp, tu, tb]; simp [go_sem, d0, z0]
                  · have hst := stepN_set (v := .slice q n c) hB hh
                    exact ⟨_, rfl, hst, b, #[.slice q n c], tb, hB, hss hh, q, n, c, rfl, wu.step hst (by decide)⟩
                · intro a W hb hs hp hi
                  exact ite_y rfl (wp_val (sl a 98) rfl ⟨_, rfl, Below.refl _ _, hp 12 (by decide)⟩)
              intro a wx hb hs hd hI ht
              have ha := act_is [87, 88, 89, 90, 91, 92, 93, 94, 95, 96, 86, 97, 98, 14, 15] hs hd ht (by decide)
              have tb : BoxedN _ _ _ _ (sl a) wx := hI 14 (by decide)
              obtain ⟨bx, cs, t3, hBx, hhx, qx, mx, dx, ec, hwx⟩ := tb
              obtain rfl : cs = #[.slice qx mx dx] := by injection ec
              have t4 : sl a 15 = .int .i64 0 := hI 15 (by decide)
              simp only [List.foldl, t3, t4] at ha
              generalize sl a 87 = u87 at ha
              generalize sl a 88 = u88 at ha
              generalize sl a 89 = u89 at ha
              generalize sl a 90 = u90 at ha
              generalize sl a 91 = u91 at ha
              generalize sl a 92 = u92 at ha
              generalize sl a 93 = u93 at ha
              generalize sl a 94 = u94 at ha
              generalize sl a 95 = u95 at ha
              generalize sl a 96 = u96 at ha
              generalize sl a 86 = u86 at ha
              generalize sl a 97 = u97 at ha
              generalize sl a 98 = u98 at ha
              simp only [Act.put, List.setIfInBounds_toArray, List.set_cons_zero, List.set_cons_succ] at ha
              rw [ha]
              clear ha hI ht t3 t4 ec hs hd
              have HWx := Lib.hid hwx
              clear hwx
              have K_x := Lib.hid (hK.out.keep hb); have B_x := Lib.hid (hB.out.keep hb); have A_x := Lib.hid (hA.out.keep hb); have G_x := Lib.hid (hG.out.keep hb); have C_x := Lib.hid (hC.out.keep hb)
              have X_x : Hid (NBox 29 34 wx bx (cntR k i r * 256 ^ r)) := ⟨_, _, _, hhx, HWx.out⟩
              clear hb hhx HWx hBx hK hB hA hG hC cA cB L1 L2
              obtain ⟨qa, na, ca, cA, _, wA⟩ := C_x.out.at (i := p) (by have := HRP.out; omega)
              obtain ⟨qb, nb, cb, cB, _, wB⟩ := G_x.out.at (i := r) (by omega)
              have L1 : Hid (Ws 34 wx qa na ca (cntR k i p)) := by have := wA; unfold rowF at this; rw [if_pos (by have := HRP.out; omega)] at this; exact this
              have L2 : Hid (Ws 34 wx qb nb cb (256 ^ k - 256 ^ p)) := by have := wB; rw [if_pos (by omega), show r - 1 = p by have := HRP.out; omega] at this; exact this
              have K3 : (p : Int) < (rk : Int) + 1 := by have := HRP.out; omega
              have K4 : p < rk + 1 := by have := HRP.out; omega
              have K5 : IntKind.i64.wrap ((r : Int) - 1) = (p : Int) := (Go.IntWalk.i64_in _ ⟨by omega, by omega⟩).trans (by have := HRP.out; omega)
              have HK5 := Lib.hid K5
              clear wA wB K5
              go_wp2
              have K5 := HK5.out
              refine wp_region_boxN 29 (fun ix => ([ShN.val _ _ (.slice (some ⟨gc, 0, none⟩) (rk + 1) (rk + 1)), ShN.val _ _ (.int .i64 r), ShN.val _ _ (.int .i64 p), ShN.val _ _ (.pointer (some ⟨gc, p, none⟩)), ShN.val _ _ (.agg #[.slice qa na ca]), ShN.val _ _ (.slice (some ⟨gg, 0, none⟩) (rk + 1) (rk + 1)), ShN.val _ _ (.int .i64 r), ShN.val _ _ (.pointer (some ⟨gg, r, none⟩)), ShN.val _ _ (.agg #[.slice qb nb cb]), ShN.num2 34 (cntR k i p) (256 ^ k - 256 ^ p) (by decide), ShN.numT 34 (cntR k i p * (256 ^ k - 256 ^ p)) (0) (by decide), ShN.numT 34 (cntR k i p * (256 ^ k - 256 ^ p)) (0) (by decide), ShN.num 34 (cntR k i p * (256 ^ k - 256 ^ p)) (by decide), ShN.val _ _ (.int .i64 0), ShN.box _ _, ShN.any _ _, ShN.val _ _ (.int .i64 0)][ix]?).getD (ShN.any _ _)) 15 16 (ShN.num 34 (cntR k i p * (256 ^ k - 256 ^ p)) (by decide)) 140 rfl (by kernel_rfl) (by decide) (by decide) (by decide) ?_ ?_
              · refine ⟨?_, ?_, ?_, ?_, ?_, ?_, ?_, ?_, ?_, ?_, ?_, ?_, ?_, ?_, ?_, ?_, ?_, trivial⟩
                · intro a W hb hs hp hi
                  exact ite_y rfl (wp_val (sl a 12) rfl ⟨_, rfl, Below.refl _ _, hi 12 (by decide)⟩)
                · intro a W hb hs hp hi
                  exact ite_y rfl (wp_val (sl a 13) rfl ⟨_, rfl, Below.refl _ _, hi 13 (by decide)⟩)
                · intro a W hb hs hp hi
                  have tx0 : sl a 105 = .int .i64 r := hp 1 (by decide)
                  refine ite_y rfl (wp_val (.int .i64 p) ?_ ?_)
                  · simp only [execOp, eval_tmp, eval_const, tx0]; simp [go_sem, K5]
                  · exact ⟨_, rfl, Below.refl _ _, rfl⟩
                · intro a W hb hs hp hi
                  have tx0 : sl a 104 = .slice (some ⟨gc, 0, none⟩) (rk + 1) (rk + 1) := hp 0 (by decide)
                  have tx1 : sl a 106 = .int .i64 p := hp 2 (by decide)
                  refine ite_y rfl (wp_val (.pointer (some ⟨gc, p, none⟩)) ?_ ?_)
                  · simp only [execOp, eval_tmp, tx0, tx1]; simp [go_sem, K3, K4]
                  · exact ⟨_, rfl, Below.refl _ _, rfl⟩
                · intro a W hb hs hp hi
                  have tt : sl a 107 = .pointer (some ⟨gc, p, none⟩) := hp 3 (by decide)
                  have dd := (hb.cell (p := ⟨gc, p, none⟩) (lt_of_cell cA)).trans cA
                  refine ite_y rfl (wp_val (.agg #[.slice qa na ca]) ?_ ?_)
                  · simp only [execOp, eval_tmp, tt]; simp [go_sem, dd]
                  · exact ⟨_, rfl, Below.refl _ _, rfl⟩
                · intro a W hb hs hp hi
                  exact ite_y rfl (wp_val (sl a 9) rfl ⟨_, rfl, Below.refl _ _, hi 9 (by decide)⟩)
                · intro a W hb hs hp hi
                  exact ite_y rfl (wp_val (sl a 13) rfl ⟨_, rfl, Below.refl _ _, hi 13 (by decide)⟩)
                · intro a W hb hs hp hi
                  have tx0 : sl a 109 = .slice (some ⟨gg, 0, none⟩) (rk + 1) (rk + 1) := hp 5 (by decide)
                  have tx1 : sl a 110 = .int .i64 r := hp 6 (by decide)
                  refine ite_y rfl (wp_val (.pointer (some ⟨gg, r, none⟩)) ?_ ?_)
                  · simp only [execOp, eval_tmp, tx0, tx1]; simp [go_sem, K1, K2]
                  · exact ⟨_, rfl, Below.refl _ _, rfl⟩
                · intro a W hb hs hp hi
                  have tt : sl a 111 = .pointer (some ⟨gg, r, none⟩) := hp 7 (by decide)
                  have dd := (hb.cell (p := ⟨gg, r, none⟩) (lt_of_cell cB)).trans cB
                  refine ite_y rfl (wp_val (.agg #[.slice qb nb cb]) ?_ ?_)
                  · simp only [execOp, eval_tmp, tt]; simp [go_sem, dd]
                  · exact ⟨_, rfl, Below.refl _ _, rfl⟩
                · intro a W hb hs hp hi
                  have tx : sl a 108 = .agg #[.slice qa na ca] := hp 4 (by decide)
                  have ty : sl a 112 = .agg #[.slice qb nb cb] := hp 8 (by decide)
                  refine ite_y rfl (wp_val' (w' := W.alloc (.cells #[.slice qa na ca, .slice qb nb cb] 29)) (.slice (some ⟨W.heap.size, 0, none⟩) 2 2) ?_ ?_)
                  · simp only [execOp, eval_tmp, List.map_toArray, List.map, tx, ty]; simp [go_sem, tx, ty]
                  · exact ⟨_, rfl, al (Below.refl _ _) (Nat.le_refl _), _, _, _, _, _, _, _, rfl, hnew rfl, (L1.out.keep hb).on1, (L2.out.keep hb).on1⟩
                · intro a W hb hs hp hi
                  have tx : IsN2 29 34 (cntR k i p) (256 ^ k - 256 ^ p) (sl a 113) W := hp 9 (by decide)
                  obtain ⟨p, tx, h25⟩ := tx.sl
                  refine ite_y rfl (wp_enter 14 #[.slice p 2 2] ?_ (Mul2_ok h25 HS1.out.2.2.1 HS1.out.2.2.2.1) ?_)
                  · simp only [execOp, resolve, List.map_toArray, List.map, eval_tmp, eval_func, eval_const, tx]; simp [go_sem]
                  · rintro e W' ⟨q, n, c, rfl, hw, hb'⟩; exact ⟨_, rfl, _, rfl, hb', q, n, c, rfl, hw⟩
                · intro a W hb hs hp hi
                  exact ite_y rfl (wp_val (sl a 114) rfl ⟨_, rfl, Below.refl _ _, hp 10 (by decide)⟩)
                · intro a W hb hs hp hi
                  have tx : IsNT 34 (cntR k i p * (256 ^ k - 256 ^ p)) (0) (sl a 103) W := hp 11 (by decide)
                  obtain ⟨q, n, c, tx, wx⟩ := tx
                  refine ite_y rfl (wp_val (.agg #[.slice q n c]) ?_ ?_)
                  · simp only [execOp, eval_tmp, tx]; rfl
                  · exact ⟨_, rfl, Below.refl _ _, q, n, c, rfl, wx⟩
                · intro a W hb hs hp hi
                  have tx : IsNT 34 (cntR k i p * (256 ^ k - 256 ^ p)) (0) (sl a 103) W := hp 11 (by decide)
                  obtain ⟨q, n, c, tx, wx⟩ := tx
                  refine ite_y rfl (wp_val (.int .i64 0) ?_ ?_)
                  · simp only [execOp, eval_tmp, tx]; rfl
                  · exact ⟨_, rfl, Below.refl _ _, rfl⟩
                · intro a W hb hs hp hi
                  refine ite_y rfl (wp_val' (w' := W.alloc (.cells #[.slice none 0 0] 29)) (.pointer (some ⟨W.heap.size, 0, none⟩)) ?_ ?_)
                  · simp only [execOp]; simp [go_sem]
                  · exact ⟨_, rfl, al (Below.refl _ _) (Nat.le_refl _), W.heap.size, #[.slice none 0 0], rfl, hb.size, rfl, hnew rfl⟩
                · intro a W hb hs hp hi
                  have tu : IsN 34 (cntR k i p * (256 ^ k - 256 ^ p)) (sl a 115) W := hp 12 (by decide)
                  obtain ⟨q, n, c, tu, wu⟩ := tu
                  have tb : NBoxS _ _ 1 (sl a 16) W := hp 14 (by decide)
                  obtain ⟨b, cs, tb, hB, hc, hh⟩ := tb
                  obtain ⟨u0, rfl⟩ := size1 hc
                  have d0 : W.cell? ⟨b, 0, none⟩ = some u0 := cell_of_row _ _ 0 _ _ _ hh
                  have z0 : W.frozen? ⟨b, 0, none⟩ = false := frozen_of_row _ _ 0 _ _ hh
                  refine ite_y rfl (wp_skipX (w' := W.setCell ⟨b, 0, none⟩ (.slice q n c)) ?_ ?_)
                  · simp only [execOp, eval_tmp, tu, tb]; simp [go_sem, d0, z0]
                  · have hst := stepN_set (v := .slice q n c) hB hh
                    exact ⟨_, rfl, hst, b, #[.slice q n c], tb, hB, hss hh, q, n, c, rfl, wu.step hst (by decide)⟩
                · intro a W hb hs hp hi
                  exact ite_y rfl (wp_val (sl a 116) rfl ⟨_, rfl, Below.refl _ _, hp 13 (by decide)⟩)
              intro a wy hb hs hd hI ht
              have ha := act_is [104, 105, 106, 107, 108, 109, 110, 111, 112, 113, 114, 103, 115, 116, 16, 15] hs hd ht (by decide)
              have tb : BoxedN _ _ _ _ (sl a) wy := hI 15 (by decide)
              obtain ⟨bz, cs, t3, hBz, hhz, qz, mz, dz, ec, hwz⟩ := tb
              obtain rfl : cs = #[.slice qz mz dz] := by injection ec
              have t4 : sl a 15 = .int .i64 0 := hI 16 (by decide)
              simp only [List.foldl, t3, t4] at ha
              generalize sl a 104 = u104 at ha
              generalize sl a 105 = u105 at ha
              generalize sl a 106 = u106 at ha
              generalize sl a 107 = u107 at ha
              generalize sl a 108 = u108 at ha
              generalize sl a 109 = u109 at ha
              generalize sl a 110 = u110 at ha
              generalize sl a 111 = u111 at ha
              generalize sl a 112 = u112 at ha
              generalize sl a 113 = u113 at ha
              generalize sl a 114 = u114 at ha
              generalize sl a 103 = u103 at ha
              generalize sl a 115 = u115 at ha
              generalize sl a 116 = u116 at ha
              simp only [Act.put, List.setIfInBounds_toArray, List.set_cons_zero, List.set_cons_succ] at ha
              rw [ha]
              clear ha hI ht t3 t4 ec hs hd
              have HWz := Lib.hid hwz
              clear hwz
              have K_y := Lib.hid (K_x.out.keep hb); have B_y := Lib.hid (B_x.out.keep hb); have A_y := Lib.hid (A_x.out.keep hb); have G_y := Lib.hid (G_x.out.keep hb); have C_y := Lib.hid (C_x.out.keep hb)
              have X_y := Lib.hid (X_x.out.keep hb)
              clear hb hBz K_x B_x A_x G_x C_x X_x cA cB L1 L2 K5 HK5 K3 K4
              obtain ⟨q3, n3, c3, k3, x3⟩ := X_y.out
              obtain ⟨_, e1, e2, e3, e4⟩ := One.of k3
              obtain ⟨_, f1, f2, f3, f4⟩ := One.of hhz
              have X3 := Lib.hid x3
              clear k3 x3 hhz X_y
              go_wp2_with fail
              refine Calls.mono (Add2_ok (Nsl.two (hnew (by simp)) X3.out.on1 HWz.out.on1) (by have := HS1.out; omega)) ?_
              rintro e w8 ⟨q8, m8, d8, rfl, hw, hb⟩
              have hbb : Below wy.heap.size wy w8 := bl (ba1 wy _) hb (ba1 wy _).size
              have C8 := C_y.out.keep hbb
              obtain ⟨qx, nx, cx, g1, g2, _⟩ := C8.at (i := r) (by omega)
              obtain ⟨cs, kb⟩ := C8.blk
              have S9 : Hid (BlkIs w.heap.size (.cells #[.slice none 0 0] 29) (w8.setCell ⟨gc, r, none⟩ (.slice q8 m8 d8)) ∧ Bel w (w8.setCell ⟨gc, r, none⟩ (.slice q8 m8 d8)) ∧ NArr 29 34 (w8.setCell ⟨gc, r, none⟩ (.slice q8 m8 d8)) gs (rk + 1) (fun t => if 1 ≤ t then 256 ^ t else 0) ∧ NArr 29 34 (w8.setCell ⟨gc, r, none⟩ (.slice q8 m8 d8)) gg (rk + 1) (fun t => if 1 ≤ t then 256 ^ k - 256 ^ (t - 1) else 0) ∧ NArr 29 34 (w8.setCell ⟨gc, r, none⟩ (.slice q8 m8 d8)) gc (rk + 1) (rowF k i p)) := by
                refine ⟨hsc (K_y.out.keep hbb) (by show w.heap.size ≠ gc; omega), ⟨(B_y.out.keep hbb).out.setCell (by show w.heap.size ≤ gc; omega) _⟩, (A_y.out.keep hbb).other kb (by omega) (by decide), (G_y.out.keep hbb).other kb (by omega) (by decide), C8.set (by decide) hw (by omega) ?_ (fun t ht htr => ?_)⟩
                · unfold rowF; rw [if_neg (by have := HRP.out; omega)]; exact HS1.out.2.2.2.2.1.symm
                · unfold rowF
                  have := HRP.out
                  by_cases h : t ≤ p
                  · rw [if_pos h, if_pos (by omega)]
                  · rw [if_neg h, if_neg (by omega)]
              clear hw hb hbb C8 kb K_y B_y A_y G_y C_y X3 HWz e1 e2 e3 e4 f1 f2 f3 f4
              go_wp2
              go_roundw
              case rel => exact ⟨p, by have := HRP.out; omega, by rw [show (r : Int) - 1 = (p : Int) by have := HRP.out; omega], S9.out.1, S9.out.2.1, S9.out.2.2.1, S9.out.2.2.2.1, S9.out.2.2.2.2⟩
              case measure => simp [intOf]; omega
        · obtain rfl : i = n := by omega
          obtain ⟨qx, nx, cx, g1, g2, wx⟩ := hC.out.at (i := rk) (by omega)
          have R := Lib.hid (ret_num hK.out (Nat.le_refl _) hB.out.out wx (by decide))
          obtain ⟨_, a1, a2, a3, a4⟩ := One.of hK.out
          clear wx hK hB hA hG hC hlt
          go_wp2
          exact bodyPost_ret (res_cell_tmp rfl _ _ _ 29 #[.slice qx nx cx] (0, 0) _ (.int .i64 0) rfl R.out.2.2 rfl Tryd.underlying29 rfl hinfo) rfl ⟨_, _, _, rfl, R.out.1, R.out.2.1⟩
theorem OfRank_any (n k r : Nat) (hn : n ≤ 20) (hk1 : 1 ≤ k) (hk : k ≤ 20) (hr : r ≤ k) (w : World) : Calls Tryd.prog 12 #[.int .i64 n, .int .i64 k, .int .i64 r] w (RetN 34 w (cntR k n r)) := by
  by_cases h : r ≤ n
  · exact OfRank_more n k r hn hk1 hk h hr w
  · rw [cnt_more k n r (by omega)]; exact OfRank_less n k r hn hk1 hk (by omega) (by omega) w
end Go.Proofs.YtbfmdfbnhakolaaDoor
