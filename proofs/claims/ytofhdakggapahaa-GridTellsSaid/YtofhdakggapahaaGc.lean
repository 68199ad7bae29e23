/- GridTells: the walk, a grid, a unit. -/
import Derived.Test.YtofhdakggapahaaG9
namespace Go.Proofs.Ytofhdakggapahaa
open Go.RowKit Go.By
set_option maxRecDepth 100000 in
set_option maxHeartbeats 4000000 in
theorem GT_gg (wd : Nat) (N : Nat) (p : Option Addr) (m c : Nat) (xss : List (List UInt8)) (w : World) (h : Sl2 w p m c xss) (hf : xss.all (fun y => decide (y.length ≤ 30)) = true) (hm : m ≤ 30)
    (hw : wd ≤ 65536) (hmw : m * wd ≤ 65536) (hall : xss.all (fun y => decide (y.length = wd)) = true)
    (hN : N ≤ 40) :
    Calls Try.prog 3 #[.int .i64 (wd : Nat), .slice p m c, .int .i64 (N : Nat)] w fun e w' => e = .returned (.bool true) ∧ Below w.heap.size w w' := by
  have HO : Hid (∀ W, Sl2 W p m c xss → Calls Try.prog 11 #[.int .i64 wd, .slice p m c] W (RetG2 5 W m wd xss.flatten 0)) := fun W h => GOf_good wd p m c xss W h hw (by omega) hmw hall
  have HR : Hid (∀ W, Sl2 W p m c xss → Calls Try.prog 13 #[.int .i64 wd, .slice p m c] W fun e w' => e = .returned (.int .i64 0) ∧ W = w') := fun W h => by
    have := RGOf_good wd p m c xss W h hw (by omega) hmw
    rw [if_pos hall] at this; exact this
  have HROWS : Hid ((List.range m).map (rowF wd xss.flatten) = xss) := by show _ = _; rw [← h.len]; exact rows_flat (fun x hx => by simpa using List.all_eq_true.1 hall x hx)
  have HGR : Hid (∀ W q n1 c1, n1 = m * wd → Sl B8 W q n1 c1 xss.flatten → Calls Try.prog 17 #[.agg #[.int .i64 m, .int .i64 wd, .slice q n1 c1]] W fun e w' => ∃ q c', e = .returned (.slice q m c') ∧ Own2 25 5 w' W.heap.size (.slice q m c') m xss ∧ Below W.heap.size W w') := fun W q n1 c1 hn hs => by
    have := GRows_any m wd q n1 c1 xss.flatten W hs hn (by unfold Room; omega) (by unfold Room; omega)
    rwa [HROWS.out] at this
  have HU : Hid (∀ W, Calls Try.prog 12 #[.int .i64 N] W (RetG2 5 W N N (unitC N N) 0)) := fun W => Unit_good N W (by omega)
  have HUR : Hid (∀ W q n1 c1, n1 = N * N → Sl B8 W q n1 c1 (unitC N N) → Calls Try.prog 17 #[.agg #[.int .i64 N, .int .i64 N, .slice q n1 c1]] W fun e w' => ∃ q c', e = .returned (.slice q N c') ∧ Own2 25 5 w' W.heap.size (.slice q N c') N ((List.range N).map (rowF N (unitC N N))) ∧ Below W.heap.size W w') := fun W q n1 c1 hn hs =>
    GRows_any N N q n1 c1 (unitC N N) W hs hn (by unfold Room; omega) (by unfold Room; omega)
  have HLEN := Lib.hid h.len
  have HLN : Hid (∀ x, x ∈ xss → x.length = wd) := fun x hx => by simpa using List.all_eq_true.1 hall x hx
  have HEL : Hid (∀ (k j : Nat) (row : List UInt8) (x : UInt8), k < N → ((List.range N).map (rowF N (unitC N N)))[k]? = some row → row[j]? = some x → j < N → x = if k = j then 1 else 0) := fun k j row x hk hrow hx hj => unit_elem hk hrow hx hj
  have hn0 : ¬ (256 < (N : Int)) := by omega
  have hn40 : ¬ (40 < (N : Int)) := by omega
  have HF : Hid (∀ W, Sl2 W p m c xss → Calls Try.prog 10 #[.slice p m c] W fun e w' => e = .returned (.bool true) ∧ W = w') := fun W h => by
    have := Few7_any p m c xss W h
    rw [hf, decide_eq_true hm] at this; exact this
  have H := Lib.hid h
  have HF1 := Lib.hid hf
  have HALL := Lib.hid hall; have HMW := Lib.hid hmw
  clear hall hmw
  clear h hf
  go_enter Try.func3, Try.ntmps3
  go_wp2_with fail
  refine (awake07 _).mono ?_; rintro e w1 ⟨rfl, k1⟩
  have H1 := Lib.hid (H.out.keep k1); have B1 := Lib.hid k1
  clear k1 H
  go_wp2_with fail
  refine Calls.mono (HF.out _ H1.out) ?_; rintro e w' ⟨rfl, rfl⟩
  go_wp2_with fail
  refine Calls.mono (HO.out _ H1.out) ?_; rintro e w2 ⟨q1, n1, c1, hn1, rfl, o1, hb1⟩
  have S1 := Lib.hid (Sl.of_owns o1); have H2 := Lib.hid (H1.out.keep hb1); have B2 := Lib.hid (bl B1.out hb1 B1.out.size); have HN1 := Lib.hid hn1
  clear o1 hb1 H1 B1 hn1
  go_wp2_with fail
  refine use_w (fun W => Below w2.heap.size w2 W ∧ W.heap[w2.heap.size]? = some (.cells #[.int .i64 m, .int .i64 wd, .slice q1 n1 c1] 27 (0, 0))) ⟨al (Below.refl _ _) (Nat.le_refl _), hnew rfl⟩ ?_
  rintro w3 ⟨b3, x3⟩
  refine Calls.mono (HU.out _) ?_; rintro e w4 ⟨q2, n2, c2, hn2, rfl, o2, hb4⟩
  have b24 := bl b3 hb4 b3.size
  have S2 := Lib.hid (Sl.of_owns o2); have S1' := Lib.hid (S1.out.keep b24); have H4 := Lib.hid (H2.out.keep b24); have B4 := Lib.hid (bl B2.out b24 B2.out.size); have HN2 := Lib.hid hn2
  have X4 : Hid (w4.heap[w2.heap.size]? = some (.cells #[.int .i64 m, .int .i64 wd, .slice q1 n1 c1] 27 (0, 0))) := (hb4.block _ (blk_lt x3)).trans x3
  clear b3 x3 o2 hb4 b24 S1 H2 B2 hn2
  go_wp2_with fail
  refine use_w (fun W => Below w4.heap.size w4 W ∧ W.heap[w4.heap.size]? = some (.cells #[.int .i64 N, .int .i64 N, .slice q2 n2 c2] 27 (0, 0))) ⟨al (Below.refl _ _) (Nat.le_refl _), hnew rfl⟩ ?_
  rintro w5 ⟨b5, x5⟩
  have S15 := Lib.hid (S1'.out.keep b5); have S25 := Lib.hid (S2.out.keep b5); have H5 := Lib.hid (H4.out.keep b5); have B5 := Lib.hid (bl B4.out b5 B4.out.size)
  have X7 : Hid (w5.heap[w2.heap.size]? = some (.cells #[.int .i64 m, .int .i64 wd, .slice q1 n1 c1] 27 (0, 0))) := (b5.block _ (blk_lt X4.out)).trans X4.out
  have X9 := Lib.hid x5
  clear b5 x5 S1' S2 H4 B4 X4
  refine Calls.mono (HR.out _ H5.out) ?_; rintro e w' ⟨rfl, rfl⟩
  obtain ⟨f0, f1, f2⟩ := cells3 X7.out
  obtain ⟨g0, g1, g2⟩ := cells3 X9.out
  go_wp2_with fail
  refine Calls.mono (Width_any m wd _ _) ?_
  rintro e w6 ⟨rfl, hb⟩
  have S1_6 := Lib.hid (S15.out.keep hb); have S2_6 := Lib.hid (S25.out.keep hb); have H_6 := Lib.hid (H5.out.keep hb); have B_6 := Lib.hid (bl B5.out hb B5.out.size)
  have X7_6 := Lib.hid ((hb.block _ (blk_lt X7.out)).trans X7.out); have X9_6 := Lib.hid ((hb.block _ (blk_lt X9.out)).trans X9.out)
  clear hb S15 S25 H5 B5 X7 X9 f0 f1 f2 g0 g1 g2
  obtain ⟨f0, f1, f2⟩ := cells3 X7_6.out
  obtain ⟨g0, g1, g2⟩ := cells3 X9_6.out
  go_wp2_with fail
  refine Calls.mono (Height_any m wd _ _) ?_
  rintro e w7 ⟨rfl, hb⟩
  have S1_7 := Lib.hid (S1_6.out.keep hb); have S2_7 := Lib.hid (S2_6.out.keep hb); have H_7 := Lib.hid (H_6.out.keep hb); have B_7 := Lib.hid (bl B_6.out hb B_6.out.size)
  have X7_7 := Lib.hid ((hb.block _ (blk_lt X7_6.out)).trans X7_6.out); have X9_7 := Lib.hid ((hb.block _ (blk_lt X9_6.out)).trans X9_6.out)
  clear hb S1_6 S2_6 H_6 B_6 X7_6 X9_6 f0 f1 f2 g0 g1 g2
  obtain ⟨f0, f1, f2⟩ := cells3 X7_7.out
  obtain ⟨g0, g1, g2⟩ := cells3 X9_7.out
  go_wp2_with fail
  refine Calls.mono (HGR.out _ _ _ _ HN1.out S1_7.out) ?_
  rintro e w8 ⟨q3, c3, rfl, ho3, hb⟩
  have R3 := Lib.hid ho3.sl2
  clear ho3
  have S1_8 := Lib.hid (S1_7.out.keep hb); have S2_8 := Lib.hid (S2_7.out.keep hb); have H_8 := Lib.hid (H_7.out.keep hb); have B_8 := Lib.hid (bl B_7.out hb B_7.out.size)
  have X7_8 := Lib.hid ((hb.block _ (blk_lt X7_7.out)).trans X7_7.out); have X9_8 := Lib.hid ((hb.block _ (blk_lt X9_7.out)).trans X9_7.out)
  clear hb S1_7 S2_7 H_7 B_7 X7_7 X9_7 f0 f1 f2 g0 g1 g2
  obtain ⟨f0, f1, f2⟩ := cells3 X7_8.out
  obtain ⟨g0, g1, g2⟩ := cells3 X9_8.out
  go_wp2_with fail
  refine Calls.mono (Same7_any _ _ _ _ _ _ xss xss _ R3.out H_8.out) ?_
  rintro e w9 ⟨rfl, hb⟩
  have S1_9 := Lib.hid (S1_8.out.keep hb); have S2_9 := Lib.hid (S2_8.out.keep hb); have H_9 := Lib.hid (H_8.out.keep hb); have B_9 := Lib.hid (bl B_8.out hb B_8.out.size)
  have X7_9 := Lib.hid ((hb.block _ (blk_lt X7_8.out)).trans X7_8.out); have X9_9 := Lib.hid ((hb.block _ (blk_lt X9_8.out)).trans X9_8.out)
  clear hb S1_8 S2_8 H_8 B_8 X7_8 X9_8 f0 f1 f2 g0 g1 g2
  rw [decide_eq_true rfl]
  obtain ⟨f0, f1, f2⟩ := cells3 X7_9.out
  obtain ⟨g0, g1, g2⟩ := cells3 X9_9.out
  go_wp2_with fail
  refine Calls.mono (HUR.out _ _ _ _ HN2.out S2_9.out) ?_
  rintro e w10 ⟨q4, c4, rfl, ho4, hb⟩
  have R4 := Lib.hid ho4.sl2
  clear ho4
  have S1_10 := Lib.hid (S1_9.out.keep hb); have S2_10 := Lib.hid (S2_9.out.keep hb); have H_10 := Lib.hid (H_9.out.keep hb); have B_10 := Lib.hid (bl B_9.out hb B_9.out.size)
  have X7_10 := Lib.hid ((hb.block _ (blk_lt X7_9.out)).trans X7_9.out); have X9_10 := Lib.hid ((hb.block _ (blk_lt X9_9.out)).trans X9_9.out)
  clear hb S1_9 S2_9 H_9 B_9 X7_9 X9_9 f0 f1 f2 g0 g1 g2
  obtain ⟨f0, f1, f2⟩ := cells3 X7_10.out
  clear f0 f1 f2
  go_wp2
  go_loop [96] (fun i => ∃ k : Nat, k ≤ N ∧ i = .int .i64 k) (fun i => N - (intOf i).toNat)
  case atStart => exact ⟨0, Nat.zero_le _, rfl⟩
  case round =>
    obtain ⟨k, hk, rfl⟩ := hrel
    by_cases hlt : k < N
    · obtain ⟨b, o, q, mx, cx, row, rfl, hc, hs, hx⟩ := R4.out.at k hlt
      obtain rfl : mx = N := by
        have h1 := hs.len
        have h2 := hx.out
        rw [List.getElem?_map, List.getElem?_range hlt] at h2
        have h3 : rowF N (unitC N N) k = row := by simpa using h2
        rw [← h3, rowF_len (unitC_len N N) hlt] at h1
        exact h1.symm
      have HS := Lib.hid hs
      have kn : (k : Int) < (mx : Int) := by omega
      clear hs
      go_wp2
      clear hc
      go_loop [103] (fun i => ∃ j : Nat, j ≤ mx ∧ i = .int .i64 j) (fun i => mx - (intOf i).toNat)
      case atStart => exact ⟨0, Nat.zero_le _, rfl⟩
      case round =>
        obtain ⟨j, hj, rfl⟩ := hrel
        by_cases hjl : j < mx
        · obtain ⟨b', o', x, rfl, hcx, hxx⟩ := HS.out.at j hjl
          have e := HEL.out k j row x hlt hx.out hxx.out hjl
          have jn : (j : Int) < (mx : Int) := by omega
          by_cases hkj : k = j
          · rw [if_pos hkj] at e
            subst e
            have hcx' : _ = some (Value.int .u8 1) := hcx
            have dkj : ((k : Int) == (j : Int)) = true := by simp [hkj]
            clear hcx hkj
            go_wp2
            go_round
            case rel => exact ⟨j + 1, by omega, by go_num⟩
            case measure => simp [intOf]; omega
          · rw [if_neg hkj] at e
            subst e
            have hcx' : _ = some (Value.int .u8 0) := hcx
            have dkj : ((k : Int) == (j : Int)) = false := by simp; omega
            clear hcx hkj
            go_wp2
            go_round
            case rel => exact ⟨j + 1, by omega, by go_num⟩
            case measure => simp [intOf]; omega
        · have hge : (mx : Int) ≤ (j : Int) := by omega
          go_wp2
          go_round
          case rel => exact ⟨k + 1, by omega, by go_num⟩
          case measure => simp [intOf]; omega
    · have hge : (N : Int) ≤ (k : Int) := by omega
      clear hk hlt
      obtain ⟨f0, f1, f2⟩ := cells3 X7_10.out
      obtain ⟨g0, g1, g2⟩ := cells3 X9_10.out
      go_wp2_with fail
      refine Calls.mono (Height_any N N _ _) ?_
      rintro e w11 ⟨rfl, hb⟩
      have S1_11 := Lib.hid (S1_10.out.keep hb); have S2_11 := Lib.hid (S2_10.out.keep hb); have H_11 := Lib.hid (H_10.out.keep hb); have B_11 := Lib.hid (bl B_10.out hb B_10.out.size)
      have X7_11 := Lib.hid ((hb.block _ (blk_lt X7_10.out)).trans X7_10.out); have X9_11 := Lib.hid ((hb.block _ (blk_lt X9_10.out)).trans X9_10.out)
      clear hb S1_10 S2_10 H_10 B_10 X7_10 X9_10 f0 f1 f2 g0 g1 g2
      obtain ⟨f0, f1, f2⟩ := cells3 X7_11.out
      obtain ⟨g0, g1, g2⟩ := cells3 X9_11.out
      go_wp2_with fail
      refine Calls.mono (Width_any N N _ _) ?_
      rintro e w12 ⟨rfl, hb⟩
      have S1_12 := Lib.hid (S1_11.out.keep hb); have S2_12 := Lib.hid (S2_11.out.keep hb); have H_12 := Lib.hid (H_11.out.keep hb); have B_12 := Lib.hid (bl B_11.out hb B_11.out.size)
      have X7_12 := Lib.hid ((hb.block _ (blk_lt X7_11.out)).trans X7_11.out); have X9_12 := Lib.hid ((hb.block _ (blk_lt X9_11.out)).trans X9_11.out)
      clear hb S1_11 S2_11 H_11 B_11 X7_11 X9_11 f0 f1 f2 g0 g1 g2
      obtain ⟨f0, f1, f2⟩ := cells3 X7_12.out
      obtain ⟨g0, g1, g2⟩ := cells3 X9_12.out
      go_wp2_with fail
      refine Calls.mono (GSame_any N N N N _ _ _ _ _ _ (unitC N N) (unitC N N) _ S2_12.out S2_12.out) ?_
      rintro e w13 ⟨rfl, hb⟩
      have S1_13 := Lib.hid (S1_12.out.keep hb); have S2_13 := Lib.hid (S2_12.out.keep hb); have H_13 := Lib.hid (H_12.out.keep hb); have B_13 := Lib.hid (bl B_12.out hb B_12.out.size)
      have X7_13 := Lib.hid ((hb.block _ (blk_lt X7_12.out)).trans X7_12.out); have X9_13 := Lib.hid ((hb.block _ (blk_lt X9_12.out)).trans X9_12.out)
      clear hb S1_12 S2_12 H_12 B_12 X7_12 X9_12 f0 f1 f2 g0 g1 g2
      rw [decide_eq_true ⟨rfl, rfl, rfl⟩]
      by_cases hwn : wd = N
      · have HSM : Hid (decide (wd = N ∧ m = N ∧ xss.flatten = unitC N N) = decide (xss = (List.range N).map (rowF N (unitC N N)))) := by
          show _ = _
          rw [unit_same HLEN.out HLN.out, decide_eq_true hwn, Bool.true_and]
        have dwn : ((wd : Int) == (N : Int)) = true := by simp [hwn]
        clear hwn
        obtain ⟨f0, f1, f2⟩ := cells3 X7_13.out
        obtain ⟨g0, g1, g2⟩ := cells3 X9_13.out
        go_wp2_with fail
        refine Calls.mono (GSame_any m wd N N _ _ _ _ _ _ xss.flatten (unitC N N) _ S1_13.out S2_13.out) ?_
        rintro e w14 ⟨rfl, hb⟩
        have S1_14 := Lib.hid (S1_13.out.keep hb); have S2_14 := Lib.hid (S2_13.out.keep hb); have H_14 := Lib.hid (H_13.out.keep hb); have B_14 := Lib.hid (bl B_13.out hb B_13.out.size)
        have X7_14 := Lib.hid ((hb.block _ (blk_lt X7_13.out)).trans X7_13.out); have X9_14 := Lib.hid ((hb.block _ (blk_lt X9_13.out)).trans X9_13.out)
        clear hb S1_13 S2_13 H_13 B_13 X7_13 X9_13 f0 f1 f2 g0 g1 g2
        rw [HSM.out]
        obtain ⟨f0, f1, f2⟩ := cells3 X7_14.out
        obtain ⟨g0, g1, g2⟩ := cells3 X9_14.out
        go_wp2_with fail
        refine Calls.mono (HUR.out _ _ _ _ HN2.out S2_14.out) ?_
        rintro e w15 ⟨q5, c5, rfl, ho5, hb⟩
        have R5 := Lib.hid ho5.sl2
        clear ho5
        have S1_15 := Lib.hid (S1_14.out.keep hb); have S2_15 := Lib.hid (S2_14.out.keep hb); have H_15 := Lib.hid (H_14.out.keep hb); have B_15 := Lib.hid (bl B_14.out hb B_14.out.size)
        have X7_15 := Lib.hid ((hb.block _ (blk_lt X7_14.out)).trans X7_14.out); have X9_15 := Lib.hid ((hb.block _ (blk_lt X9_14.out)).trans X9_14.out)
        clear hb S1_14 S2_14 H_14 B_14 X7_14 X9_14 f0 f1 f2 g0 g1 g2
        obtain ⟨f0, f1, f2⟩ := cells3 X7_15.out
        obtain ⟨g0, g1, g2⟩ := cells3 X9_15.out
        go_wp2_with fail
        refine Calls.mono (Same7_any _ _ _ _ _ _ xss ((List.range N).map (rowF N (unitC N N))) _ H_15.out R5.out) ?_
        rintro e w16 ⟨rfl, hb⟩
        have S1_16 := Lib.hid (S1_15.out.keep hb); have S2_16 := Lib.hid (S2_15.out.keep hb); have H_16 := Lib.hid (H_15.out.keep hb); have B_16 := Lib.hid (bl B_15.out hb B_15.out.size)
        have X7_16 := Lib.hid ((hb.block _ (blk_lt X7_15.out)).trans X7_15.out); have X9_16 := Lib.hid ((hb.block _ (blk_lt X9_15.out)).trans X9_15.out)
        clear hb S1_15 S2_15 H_15 B_15 X7_15 X9_15 f0 f1 f2 g0 g1 g2
        generalize decide (xss = (List.range N).map (rowF N (unitC N N))) = D
        go_wp2
        go_ret
        exact ⟨rfl, B_16.out⟩
      · have HSF : Hid (decide (wd = N ∧ m = N ∧ xss.flatten = unitC N N) = false) := decide_eq_false (fun h => hwn h.1)
        have dwn : ((wd : Int) == (N : Int)) = false := by simp; omega
        clear hwn
        obtain ⟨f0, f1, f2⟩ := cells3 X7_13.out
        obtain ⟨g0, g1, g2⟩ := cells3 X9_13.out
        go_wp2_with fail
        refine Calls.mono (GSame_any m wd N N _ _ _ _ _ _ xss.flatten (unitC N N) _ S1_13.out S2_13.out) ?_
        rintro e w14 ⟨rfl, hb⟩
        have S1_14 := Lib.hid (S1_13.out.keep hb); have S2_14 := Lib.hid (S2_13.out.keep hb); have H_14 := Lib.hid (H_13.out.keep hb); have B_14 := Lib.hid (bl B_13.out hb B_13.out.size)
        have X7_14 := Lib.hid ((hb.block _ (blk_lt X7_13.out)).trans X7_13.out); have X9_14 := Lib.hid ((hb.block _ (blk_lt X9_13.out)).trans X9_13.out)
        clear hb S1_13 S2_13 H_13 B_13 X7_13 X9_13 f0 f1 f2 g0 g1 g2
        rw [HSF.out]
        go_wp2
        go_ret
        exact ⟨rfl, B_14.out⟩
end Go.Proofs.Ytofhdakggapahaa
