/- GridTells: the walk, no unit. -/
import Derived.Test.YtofhdakggapahaaG9
namespace Go.Proofs.Ytofhdakggapahaa
open Go.RowKit Go.By
set_option maxRecDepth 100000 in
set_option maxHeartbeats 4000000 in
theorem GT_bb (width code : Int) (n : Int) (p : Option Addr) (m c : Nat) (xss : List (List UInt8)) (w : World) (h : Sl2 w p m c xss) (hf : xss.all (fun y => decide (y.length ≤ 30)) = true) (hm : m ≤ 30)
    (hO : ∀ W, Sl2 W p m c xss → Calls Try.prog 11 #[.int .i64 width, .slice p m c] W (RetG2 5 W 0 0 [] code)) (hR : ∀ W, Sl2 W p m c xss → Calls Try.prog 13 #[.int .i64 width, .slice p m c] W fun e w' => e = .returned (.int .i64 code) ∧ W = w') (hcode : code ≠ 0)
    (hn : n < 0 ∨ 256 < n) :
    Calls Try.prog 3 #[.int .i64 width, .slice p m c, .int .i64 n] w fun e w' => e = .returned (.bool true) ∧ Below w.heap.size w w' := by
  have HO := Lib.hid hO; have HR := Lib.hid hR
  have hc1 : (code == 0) = false := by simpa using hcode
  have hc2 : (code != 0) = true := by simpa using hcode
  clear hO hR hcode
  have HU : Hid (∀ W, Calls Try.prog 12 #[.int .i64 n] W (RetG2 5 W 0 0 [] 2)) := fun W => Unit_bad n W hn
  have HF : Hid (∀ W, Sl2 W p m c xss → Calls Try.prog 10 #[.slice p m c] W fun e w' => e = .returned (.bool true) ∧ W = w') := fun W h => by
    have := Few7_any p m c xss W h
    rw [hf, decide_eq_true hm] at this; exact this
  have H := Lib.hid h
  have HF1 := Lib.hid hf
  clear h hf
  rcases hn with hn | hn
  · go_enter Try.func3, Try.ntmps3
    go_wp2_with fail
    refine (awake07 _).mono ?_; rintro e w1 ⟨rfl, k1⟩
    have H1 := Lib.hid (H.out.keep k1); have B1 := Lib.hid k1
    clear k1 H
    go_wp2_with fail
    refine Calls.mono (HF.out _ H1.out) ?_; rintro e w' ⟨rfl, rfl⟩
    go_wp2_with fail
    refine Calls.mono (HO.out _ H1.out) ?_; rintro e w2 ⟨q1, n1, c1, hn1, rfl, o1, hb1⟩
    have S1 := Lib.hid (Sl.of_owns o1); have H2 := Lib.hid (H1.out.keep hb1); have B2 := Lib.hid (bl B1.out hb1 B1.out.size); have HN1 := Lib.hid hn1
    clear o1 hb1 H1 B1 hn1
    go_wp2_with fail
    refine use_w (fun W => Below w2.heap.size w2 W ∧ W.heap[w2.heap.size]? = some (.cells #[.int .i64 0, .int .i64 0, .slice q1 n1 c1] 27 (0, 0))) ⟨al (Below.refl _ _) (Nat.le_refl _), hnew rfl⟩ ?_
    rintro w3 ⟨b3, x3⟩
    refine Calls.mono (HU.out _) ?_; rintro e w4 ⟨q2, n2, c2, hn2, rfl, o2, hb4⟩
    have b24 := bl b3 hb4 b3.size
    have S2 := Lib.hid (Sl.of_owns o2); have S1' := Lib.hid (S1.out.keep b24); have H4 := Lib.hid (H2.out.keep b24); have B4 := Lib.hid (bl B2.out b24 B2.out.size); have HN2 := Lib.hid hn2
    have X4 : Hid (w4.heap[w2.heap.size]? = some (.cells #[.int .i64 0, .int .i64 0, .slice q1 n1 c1] 27 (0, 0))) := (hb4.block _ (blk_lt x3)).trans x3
    clear b3 x3 o2 hb4 b24 S1 H2 B2 hn2
    go_wp2_with fail
    refine use_w (fun W => Below w4.heap.size w4 W ∧ W.heap[w4.heap.size]? = some (.cells #[.int .i64 0, .int .i64 0, .slice q2 n2 c2] 27 (0, 0))) ⟨al (Below.refl _ _) (Nat.le_refl _), hnew rfl⟩ ?_
    rintro w5 ⟨b5, x5⟩
    have S15 := Lib.hid (S1'.out.keep b5); have S25 := Lib.hid (S2.out.keep b5); have H5 := Lib.hid (H4.out.keep b5); have B5 := Lib.hid (bl B4.out b5 B4.out.size)
    have X7 : Hid (w5.heap[w2.heap.size]? = some (.cells #[.int .i64 0, .int .i64 0, .slice q1 n1 c1] 27 (0, 0))) := (b5.block _ (blk_lt X4.out)).trans X4.out
    have X9 := Lib.hid x5
    clear b5 x5 S1' S2 H4 B4 X4
    refine Calls.mono (HR.out _ H5.out) ?_; rintro e w' ⟨rfl, rfl⟩
    obtain ⟨f0, f1, f2⟩ := cells3 X7.out
    obtain ⟨g0, g1, g2⟩ := cells3 X9.out
    go_wp2_with fail
    refine Calls.mono (Width_any 0 0 _ _) ?_
    rintro e w6 ⟨rfl, hb⟩
    have S1_6 := Lib.hid (S15.out.keep hb); have S2_6 := Lib.hid (S25.out.keep hb); have H_6 := Lib.hid (H5.out.keep hb); have B_6 := Lib.hid (bl B5.out hb B5.out.size)
    have X7_6 := Lib.hid ((hb.block _ (blk_lt X7.out)).trans X7.out); have X9_6 := Lib.hid ((hb.block _ (blk_lt X9.out)).trans X9.out)
    clear hb S15 S25 H5 B5 X7 X9 f0 f1 f2 g0 g1 g2
    obtain ⟨f0, f1, f2⟩ := cells3 X7_6.out
    obtain ⟨g0, g1, g2⟩ := cells3 X9_6.out
    go_wp2_with fail
    refine Calls.mono (Height_any 0 0 _ _) ?_
    rintro e w7 ⟨rfl, hb⟩
    have S1_7 := Lib.hid (S1_6.out.keep hb); have S2_7 := Lib.hid (S2_6.out.keep hb); have H_7 := Lib.hid (H_6.out.keep hb); have B_7 := Lib.hid (bl B_6.out hb B_6.out.size)
    have X7_7 := Lib.hid ((hb.block _ (blk_lt X7_6.out)).trans X7_6.out); have X9_7 := Lib.hid ((hb.block _ (blk_lt X9_6.out)).trans X9_6.out)
    clear hb S1_6 S2_6 H_6 B_6 X7_6 X9_6 f0 f1 f2 g0 g1 g2
    obtain ⟨f0, f1, f2⟩ := cells3 X7_7.out
    obtain ⟨g0, g1, g2⟩ := cells3 X9_7.out
    go_wp2_with fail
    refine Calls.mono (Height_any 0 0 _ _) ?_
    rintro e w8 ⟨rfl, hb⟩
    have S1_8 := Lib.hid (S1_7.out.keep hb); have S2_8 := Lib.hid (S2_7.out.keep hb); have H_8 := Lib.hid (H_7.out.keep hb); have B_8 := Lib.hid (bl B_7.out hb B_7.out.size)
    have X7_8 := Lib.hid ((hb.block _ (blk_lt X7_7.out)).trans X7_7.out); have X9_8 := Lib.hid ((hb.block _ (blk_lt X9_7.out)).trans X9_7.out)
    clear hb S1_7 S2_7 H_7 B_7 X7_7 X9_7 f0 f1 f2 g0 g1 g2
    go_wp2
    go_ret
    exact ⟨rfl, B_8.out⟩
  · have hnn : 0 ≤ n := by omega
    go_enter Try.func3, Try.ntmps3
    go_wp2_with fail
    refine (awake07 _).mono ?_; rintro e w1 ⟨rfl, k1⟩
    have H1 := Lib.hid (H.out.keep k1); have B1 := Lib.hid k1
    clear k1 H
    go_wp2_with fail
    refine Calls.mono (HF.out _ H1.out) ?_; rintro e w' ⟨rfl, rfl⟩
    go_wp2_with fail
    refine Calls.mono (HO.out _ H1.out) ?_; rintro e w2 ⟨q1, n1, c1, hn1, rfl, o1, hb1⟩
    have S1 := Lib.hid (Sl.of_owns o1); have H2 := Lib.hid (H1.out.keep hb1); have B2 := Lib.hid (bl B1.out hb1 B1.out.size); have HN1 := Lib.hid hn1
    clear o1 hb1 H1 B1 hn1
    go_wp2_with fail
    refine use_w (fun W => Below w2.heap.size w2 W ∧ W.heap[w2.heap.size]? = some (.cells #[.int .i64 0, .int .i64 0, .slice q1 n1 c1] 27 (0, 0))) ⟨al (Below.refl _ _) (Nat.le_refl _), hnew rfl⟩ ?_
    rintro w3 ⟨b3, x3⟩
    refine Calls.mono (HU.out _) ?_; rintro e w4 ⟨q2, n2, c2, hn2, rfl, o2, hb4⟩
    have b24 := bl b3 hb4 b3.size
    have S2 := Lib.hid (Sl.of_owns o2); have S1' := Lib.hid (S1.out.keep b24); have H4 := Lib.hid (H2.out.keep b24); have B4 := Lib.hid (bl B2.out b24 B2.out.size); have HN2 := Lib.hid hn2
    have X4 : Hid (w4.heap[w2.heap.size]? = some (.cells #[.int .i64 0, .int .i64 0, .slice q1 n1 c1] 27 (0, 0))) := (hb4.block _ (blk_lt x3)).trans x3
    clear b3 x3 o2 hb4 b24 S1 H2 B2 hn2
    go_wp2_with fail
    refine use_w (fun W => Below w4.heap.size w4 W ∧ W.heap[w4.heap.size]? = some (.cells #[.int .i64 0, .int .i64 0, .slice q2 n2 c2] 27 (0, 0))) ⟨al (Below.refl _ _) (Nat.le_refl _), hnew rfl⟩ ?_
    rintro w5 ⟨b5, x5⟩
    have S15 := Lib.hid (S1'.out.keep b5); have S25 := Lib.hid (S2.out.keep b5); have H5 := Lib.hid (H4.out.keep b5); have B5 := Lib.hid (bl B4.out b5 B4.out.size)
    have X7 : Hid (w5.heap[w2.heap.size]? = some (.cells #[.int .i64 0, .int .i64 0, .slice q1 n1 c1] 27 (0, 0))) := (b5.block _ (blk_lt X4.out)).trans X4.out
    have X9 := Lib.hid x5
    clear b5 x5 S1' S2 H4 B4 X4
    refine Calls.mono (HR.out _ H5.out) ?_; rintro e w' ⟨rfl, rfl⟩
    obtain ⟨f0, f1, f2⟩ := cells3 X7.out
    obtain ⟨g0, g1, g2⟩ := cells3 X9.out
    go_wp2_with fail
    refine Calls.mono (Width_any 0 0 _ _) ?_
    rintro e w6 ⟨rfl, hb⟩
    have S1_6 := Lib.hid (S15.out.keep hb); have S2_6 := Lib.hid (S25.out.keep hb); have H_6 := Lib.hid (H5.out.keep hb); have B_6 := Lib.hid (bl B5.out hb B5.out.size)
    have X7_6 := Lib.hid ((hb.block _ (blk_lt X7.out)).trans X7.out); have X9_6 := Lib.hid ((hb.block _ (blk_lt X9.out)).trans X9.out)
    clear hb S15 S25 H5 B5 X7 X9 f0 f1 f2 g0 g1 g2
    obtain ⟨f0, f1, f2⟩ := cells3 X7_6.out
    obtain ⟨g0, g1, g2⟩ := cells3 X9_6.out
    go_wp2_with fail
    refine Calls.mono (Height_any 0 0 _ _) ?_
    rintro e w7 ⟨rfl, hb⟩
    have S1_7 := Lib.hid (S1_6.out.keep hb); have S2_7 := Lib.hid (S2_6.out.keep hb); have H_7 := Lib.hid (H_6.out.keep hb); have B_7 := Lib.hid (bl B_6.out hb B_6.out.size)
    have X7_7 := Lib.hid ((hb.block _ (blk_lt X7_6.out)).trans X7_6.out); have X9_7 := Lib.hid ((hb.block _ (blk_lt X9_6.out)).trans X9_6.out)
    clear hb S1_6 S2_6 H_6 B_6 X7_6 X9_6 f0 f1 f2 g0 g1 g2
    obtain ⟨f0, f1, f2⟩ := cells3 X7_7.out
    obtain ⟨g0, g1, g2⟩ := cells3 X9_7.out
    go_wp2_with fail
    refine Calls.mono (Height_any 0 0 _ _) ?_
    rintro e w8 ⟨rfl, hb⟩
    have S1_8 := Lib.hid (S1_7.out.keep hb); have S2_8 := Lib.hid (S2_7.out.keep hb); have H_8 := Lib.hid (H_7.out.keep hb); have B_8 := Lib.hid (bl B_7.out hb B_7.out.size)
    have X7_8 := Lib.hid ((hb.block _ (blk_lt X7_7.out)).trans X7_7.out); have X9_8 := Lib.hid ((hb.block _ (blk_lt X9_7.out)).trans X9_7.out)
    clear hb S1_7 S2_7 H_7 B_7 X7_7 X9_7 f0 f1 f2 g0 g1 g2
    go_wp2
    go_ret
    exact ⟨rfl, B_8.out⟩
set_option maxRecDepth 100000 in
set_option maxHeartbeats 4000000 in
theorem GT_gb (wd : Nat) (n : Int) (p : Option Addr) (m c : Nat) (xss : List (List UInt8)) (w : World) (h : Sl2 w p m c xss) (hf : xss.all (fun y => decide (y.length ≤ 30)) = true) (hm : m ≤ 30)
    (hw : wd ≤ 65536) (hmw : m * wd ≤ 65536) (hall : xss.all (fun y => decide (y.length = wd)) = true)
    (hn : n < 0 ∨ 256 < n) :
    Calls Try.prog 3 #[.int .i64 (wd : Nat), .slice p m c, .int .i64 n] w fun e w' => e = .returned (.bool true) ∧ Below w.heap.size w w' := by
  have HO : Hid (∀ W, Sl2 W p m c xss → Calls Try.prog 11 #[.int .i64 wd, .slice p m c] W (RetG2 5 W m wd xss.flatten 0)) := fun W h => GOf_good wd p m c xss W h hw (by omega) hmw hall
  have HR : Hid (∀ W, Sl2 W p m c xss → Calls Try.prog 13 #[.int .i64 wd, .slice p m c] W fun e w' => e = .returned (.int .i64 0) ∧ W = w') := fun W h => by
    have := RGOf_good wd p m c xss W h hw (by omega) hmw
    rw [if_pos hall] at this; exact this
  have HROWS : Hid ((List.range m).map (rowF wd xss.flatten) = xss) := by show _ = _; rw [← h.len]; exact rows_flat (fun x hx => by simpa using List.all_eq_true.1 hall x hx)
  have HGR : Hid (∀ W q n1 c1, n1 = m * wd → Sl B8 W q n1 c1 xss.flatten → Calls Try.prog 17 #[.agg #[.int .i64 m, .int .i64 wd, .slice q n1 c1]] W fun e w' => ∃ q c', e = .returned (.slice q m c') ∧ Own2 25 5 w' W.heap.size (.slice q m c') m xss ∧ Below W.heap.size W w') := fun W q n1 c1 hn hs => by
    have := GRows_any m wd q n1 c1 xss.flatten W hs hn (by unfold Room; omega) (by unfold Room; omega)
    rwa [HROWS.out] at this
  have HU : Hid (∀ W, Calls Try.prog 12 #[.int .i64 n] W (RetG2 5 W 0 0 [] 2)) := fun W => Unit_bad n W hn
  have HF : Hid (∀ W, Sl2 W p m c xss → Calls Try.prog 10 #[.slice p m c] W fun e w' => e = .returned (.bool true) ∧ W = w') := fun W h => by
    have := Few7_any p m c xss W h
    rw [hf, decide_eq_true hm] at this; exact this
  have H := Lib.hid h
  have HF1 := Lib.hid hf
  have HALL := Lib.hid hall; have HMW := Lib.hid hmw
  clear hall hmw
  clear h hf
  rcases hn with hn | hn
  · go_enter Try.func3, Try.ntmps3
    go_wp2_with fail
    refine (awake07 _).mono ?_; rintro e w1 ⟨rfl, k1⟩
    have H1 := Lib.hid (H.out.keep k1); have B1 := Lib.hid k1
    clear k1 H
    go_wp2_with fail
    refine Calls.mono (HF.out _ H1.out) ?_; rintro e w' ⟨rfl, rfl⟩
    go_wp2_with fail
    refine Calls.mono (HO.out _ H1.out) ?_; rintro e w2 ⟨q1, n1, c1, hn1, rfl, o1, hb1⟩
    have S1 := Lib.hid (Sl.of_owns o1); have H2 := Lib.hid (H1.out.keep hb1); have B2 := Lib.hid (bl B1.out hb1 B1.out.size); have HN1 := Lib.hid hn1
    clear o1 hb1 H1 B1 hn1
    go_wp2_with fail
    refine use_w (fun W => Below w2.heap.size w2 W ∧ W.heap[w2.heap.size]? = some (.cells #[.int .i64 m, .int .i64 wd, .slice q1 n1 c1] 27 (0, 0))) ⟨al (Below.refl _ _) (Nat.le_refl _), hnew rfl⟩ ?_
    rintro w3 ⟨b3, x3⟩
    refine Calls.mono (HU.out _) ?_; rintro e w4 ⟨q2, n2, c2, hn2, rfl, o2, hb4⟩
    have b24 := bl b3 hb4 b3.size
    have S2 := Lib.hid (Sl.of_owns o2); have S1' := Lib.hid (S1.out.keep b24); have H4 := Lib.hid (H2.out.keep b24); have B4 := Lib.hid (bl B2.out b24 B2.out.size); have HN2 := Lib.hid hn2
    have X4 : Hid (w4.heap[w2.heap.size]? = some (.cells #[.int .i64 m, .int .i64 wd, .slice q1 n1 c1] 27 (0, 0))) := (hb4.block _ (blk_lt x3)).trans x3
    clear b3 x3 o2 hb4 b24 S1 H2 B2 hn2
    go_wp2_with fail
    refine use_w (fun W => Below w4.heap.size w4 W ∧ W.heap[w4.heap.size]? = some (.cells #[.int .i64 0, .int .i64 0, .slice q2 n2 c2] 27 (0, 0))) ⟨al (Below.refl _ _) (Nat.le_refl _), hnew rfl⟩ ?_
    rintro w5 ⟨b5, x5⟩
    have S15 := Lib.hid (S1'.out.keep b5); have S25 := Lib.hid (S2.out.keep b5); have H5 := Lib.hid (H4.out.keep b5); have B5 := Lib.hid (bl B4.out b5 B4.out.size)
    have X7 : Hid (w5.heap[w2.heap.size]? = some (.cells #[.int .i64 m, .int .i64 wd, .slice q1 n1 c1] 27 (0, 0))) := (b5.block _ (blk_lt X4.out)).trans X4.out
    have X9 := Lib.hid x5
    clear b5 x5 S1' S2 H4 B4 X4
    refine Calls.mono (HR.out _ H5.out) ?_; rintro e w' ⟨rfl, rfl⟩
    obtain ⟨f0, f1, f2⟩ := cells3 X7.out
    obtain ⟨g0, g1, g2⟩ := cells3 X9.out
    go_wp2_with fail
    refine Calls.mono (Width_any m wd _ _) ?_
    rintro e w6 ⟨rfl, hb⟩
    have S1_6 := Lib.hid (S15.out.keep hb); have S2_6 := Lib.hid (S25.out.keep hb); have H_6 := Lib.hid (H5.out.keep hb); have B_6 := Lib.hid (bl B5.out hb B5.out.size)
    have X7_6 := Lib.hid ((hb.block _ (blk_lt X7.out)).trans X7.out); have X9_6 := Lib.hid ((hb.block _ (blk_lt X9.out)).trans X9.out)
    clear hb S15 S25 H5 B5 X7 X9 f0 f1 f2 g0 g1 g2
    obtain ⟨f0, f1, f2⟩ := cells3 X7_6.out
    obtain ⟨g0, g1, g2⟩ := cells3 X9_6.out
    go_wp2_with fail
    refine Calls.mono (Height_any m wd _ _) ?_
    rintro e w7 ⟨rfl, hb⟩
    have S1_7 := Lib.hid (S1_6.out.keep hb); have S2_7 := Lib.hid (S2_6.out.keep hb); have H_7 := Lib.hid (H_6.out.keep hb); have B_7 := Lib.hid (bl B_6.out hb B_6.out.size)
    have X7_7 := Lib.hid ((hb.block _ (blk_lt X7_6.out)).trans X7_6.out); have X9_7 := Lib.hid ((hb.block _ (blk_lt X9_6.out)).trans X9_6.out)
    clear hb S1_6 S2_6 H_6 B_6 X7_6 X9_6 f0 f1 f2 g0 g1 g2
    obtain ⟨f0, f1, f2⟩ := cells3 X7_7.out
    obtain ⟨g0, g1, g2⟩ := cells3 X9_7.out
    go_wp2_with fail
    refine Calls.mono (HGR.out _ _ _ _ HN1.out S1_7.out) ?_
    rintro e w8 ⟨q3, c3, rfl, ho3, hb⟩
    have R3 := Lib.hid ho3.sl2
    clear ho3
    have S1_8 := Lib.hid (S1_7.out.keep hb); have S2_8 := Lib.hid (S2_7.out.keep hb); have H_8 := Lib.hid (H_7.out.keep hb); have B_8 := Lib.hid (bl B_7.out hb B_7.out.size)
    have X7_8 := Lib.hid ((hb.block _ (blk_lt X7_7.out)).trans X7_7.out); have X9_8 := Lib.hid ((hb.block _ (blk_lt X9_7.out)).trans X9_7.out)
    clear hb S1_7 S2_7 H_7 B_7 X7_7 X9_7 f0 f1 f2 g0 g1 g2
    obtain ⟨f0, f1, f2⟩ := cells3 X7_8.out
    obtain ⟨g0, g1, g2⟩ := cells3 X9_8.out
    go_wp2_with fail
    refine Calls.mono (Same7_any _ _ _ _ _ _ xss xss _ R3.out H_8.out) ?_
    rintro e w9 ⟨rfl, hb⟩
    have S1_9 := Lib.hid (S1_8.out.keep hb); have S2_9 := Lib.hid (S2_8.out.keep hb); have H_9 := Lib.hid (H_8.out.keep hb); have B_9 := Lib.hid (bl B_8.out hb B_8.out.size)
    have X7_9 := Lib.hid ((hb.block _ (blk_lt X7_8.out)).trans X7_8.out); have X9_9 := Lib.hid ((hb.block _ (blk_lt X9_8.out)).trans X9_8.out)
    clear hb S1_8 S2_8 H_8 B_8 X7_8 X9_8 f0 f1 f2 g0 g1 g2
    rw [decide_eq_true rfl]
    obtain ⟨f0, f1, f2⟩ := cells3 X7_9.out
    obtain ⟨g0, g1, g2⟩ := cells3 X9_9.out
    go_wp2_with fail
    refine Calls.mono (Height_any 0 0 _ _) ?_
    rintro e w10 ⟨rfl, hb⟩
    have S1_10 := Lib.hid (S1_9.out.keep hb); have S2_10 := Lib.hid (S2_9.out.keep hb); have H_10 := Lib.hid (H_9.out.keep hb); have B_10 := Lib.hid (bl B_9.out hb B_9.out.size)
    have X7_10 := Lib.hid ((hb.block _ (blk_lt X7_9.out)).trans X7_9.out); have X9_10 := Lib.hid ((hb.block _ (blk_lt X9_9.out)).trans X9_9.out)
    clear hb S1_9 S2_9 H_9 B_9 X7_9 X9_9 f0 f1 f2 g0 g1 g2
    go_wp2
    go_ret
    exact ⟨rfl, B_10.out⟩
  · have hnn : 0 ≤ n := by omega
    go_enter Try.func3, Try.ntmps3
    go_wp2_with fail
    refine (awake07 _).mono ?_; rintro e w1 ⟨rfl, k1⟩
    have H1 := Lib.hid (H.out.keep k1); have B1 := Lib.hid k1
    clear k1 H
    go_wp2_with fail
    refine Calls.mono (HF.out _ H1.out) ?_; rintro e w' ⟨rfl, rfl⟩
    go_wp2_with fail
    refine Calls.mono (HO.out _ H1.out) ?_; rintro e w2 ⟨q1, n1, c1, hn1, rfl, o1, hb1⟩
    have S1 := Lib.hid (Sl.of_owns o1); have H2 := Lib.hid (H1.out.keep hb1); have B2 := Lib.hid (bl B1.out hb1 B1.out.size); have HN1 := Lib.hid hn1
    clear o1 hb1 H1 B1 hn1
    go_wp2_with fail
    refine use_w (fun W => Below w2.heap.size w2 W ∧ W.heap[w2.heap.size]? = some (.cells #[.int .i64 m, .int .i64 wd, .slice q1 n1 c1] 27 (0, 0))) ⟨al (Below.refl _ _) (Nat.le_refl _), hnew rfl⟩ ?_
    rintro w3 ⟨b3, x3⟩
    refine Calls.mono (HU.out _) ?_; rintro e w4 ⟨q2, n2, c2, hn2, rfl, o2, hb4⟩
    have b24 := bl b3 hb4 b3.size
    have S2 := Lib.hid (Sl.of_owns o2); have S1' := Lib.hid (S1.out.keep b24); have H4 := Lib.hid (H2.out.keep b24); have B4 := Lib.hid (bl B2.out b24 B2.out.size); have HN2 := Lib.hid hn2
    have X4 : Hid (w4.heap[w2.heap.size]? = some (.cells #[.int .i64 m, .int .i64 wd, .slice q1 n1 c1] 27 (0, 0))) := (hb4.block _ (blk_lt x3)).trans x3
    clear b3 x3 o2 hb4 b24 S1 H2 B2 hn2
    go_wp2_with fail
    refine use_w (fun W => Below w4.heap.size w4 W ∧ W.heap[w4.heap.size]? = some (.cells #[.int .i64 0, .int .i64 0, .slice q2 n2 c2] 27 (0, 0))) ⟨al (Below.refl _ _) (Nat.le_refl _), hnew rfl⟩ ?_
    rintro w5 ⟨b5, x5⟩
    have S15 := Lib.hid (S1'.out.keep b5); have S25 := Lib.hid (S2.out.keep b5); have H5 := Lib.hid (H4.out.keep b5); have B5 := Lib.hid (bl B4.out b5 B4.out.size)
    have X7 : Hid (w5.heap[w2.heap.size]? = some (.cells #[.int .i64 m, .int .i64 wd, .slice q1 n1 c1] 27 (0, 0))) := (b5.block _ (blk_lt X4.out)).trans X4.out
    have X9 := Lib.hid x5
    clear b5 x5 S1' S2 H4 B4 X4
    refine Calls.mono (HR.out _ H5.out) ?_; rintro e w' ⟨rfl, rfl⟩
    obtain ⟨f0, f1, f2⟩ := cells3 X7.out
    obtain ⟨g0, g1, g2⟩ := cells3 X9.out
    go_wp2_with fail
    refine Calls.mono (Width_any m wd _ _) ?_
    rintro e w6 ⟨rfl, hb⟩
    have S1_6 := Lib.hid (S15.out.keep hb); have S2_6 := Lib.hid (S25.out.keep hb); have H_6 := Lib.hid (H5.out.keep hb); have B_6 := Lib.hid (bl B5.out hb B5.out.size)
    have X7_6 := Lib.hid ((hb.block _ (blk_lt X7.out)).trans X7.out); have X9_6 := Lib.hid ((hb.block _ (blk_lt X9.out)).trans X9.out)
    clear hb S15 S25 H5 B5 X7 X9 f0 f1 f2 g0 g1 g2
    obtain ⟨f0, f1, f2⟩ := cells3 X7_6.out
    obtain ⟨g0, g1, g2⟩ := cells3 X9_6.out
    go_wp2_with fail
    refine Calls.mono (Height_any m wd _ _) ?_
    rintro e w7 ⟨rfl, hb⟩
    have S1_7 := Lib.hid (S1_6.out.keep hb); have S2_7 := Lib.hid (S2_6.out.keep hb); have H_7 := Lib.hid (H_6.out.keep hb); have B_7 := Lib.hid (bl B_6.out hb B_6.out.size)
    have X7_7 := Lib.hid ((hb.block _ (blk_lt X7_6.out)).trans X7_6.out); have X9_7 := Lib.hid ((hb.block _ (blk_lt X9_6.out)).trans X9_6.out)
    clear hb S1_6 S2_6 H_6 B_6 X7_6 X9_6 f0 f1 f2 g0 g1 g2
    obtain ⟨f0, f1, f2⟩ := cells3 X7_7.out
    obtain ⟨g0, g1, g2⟩ := cells3 X9_7.out
    go_wp2_with fail
    refine Calls.mono (HGR.out _ _ _ _ HN1.out S1_7.out) ?_
    rintro e w8 ⟨q3, c3, rfl, ho3, hb⟩
    have R3 := Lib.hid ho3.sl2
    clear ho3
    have S1_8 := Lib.hid (S1_7.out.keep hb); have S2_8 := Lib.hid (S2_7.out.keep hb); have H_8 := Lib.hid (H_7.out.keep hb); have B_8 := Lib.hid (bl B_7.out hb B_7.out.size)
    have X7_8 := Lib.hid ((hb.block _ (blk_lt X7_7.out)).trans X7_7.out); have X9_8 := Lib.hid ((hb.block _ (blk_lt X9_7.out)).trans X9_7.out)
    clear hb S1_7 S2_7 H_7 B_7 X7_7 X9_7 f0 f1 f2 g0 g1 g2
    obtain ⟨f0, f1, f2⟩ := cells3 X7_8.out
    obtain ⟨g0, g1, g2⟩ := cells3 X9_8.out
    go_wp2_with fail
    refine Calls.mono (Same7_any _ _ _ _ _ _ xss xss _ R3.out H_8.out) ?_
    rintro e w9 ⟨rfl, hb⟩
    have S1_9 := Lib.hid (S1_8.out.keep hb); have S2_9 := Lib.hid (S2_8.out.keep hb); have H_9 := Lib.hid (H_8.out.keep hb); have B_9 := Lib.hid (bl B_8.out hb B_8.out.size)
    have X7_9 := Lib.hid ((hb.block _ (blk_lt X7_8.out)).trans X7_8.out); have X9_9 := Lib.hid ((hb.block _ (blk_lt X9_8.out)).trans X9_8.out)
    clear hb S1_8 S2_8 H_8 B_8 X7_8 X9_8 f0 f1 f2 g0 g1 g2
    rw [decide_eq_true rfl]
    obtain ⟨f0, f1, f2⟩ := cells3 X7_9.out
    obtain ⟨g0, g1, g2⟩ := cells3 X9_9.out
    go_wp2_with fail
    refine Calls.mono (Height_any 0 0 _ _) ?_
    rintro e w10 ⟨rfl, hb⟩
    have S1_10 := Lib.hid (S1_9.out.keep hb); have S2_10 := Lib.hid (S2_9.out.keep hb); have H_10 := Lib.hid (H_9.out.keep hb); have B_10 := Lib.hid (bl B_9.out hb B_9.out.size)
    have X7_10 := Lib.hid ((hb.block _ (blk_lt X7_9.out)).trans X7_9.out); have X9_10 := Lib.hid ((hb.block _ (blk_lt X9_9.out)).trans X9_9.out)
    clear hb S1_9 S2_9 H_9 B_9 X7_9 X9_9 f0 f1 f2 g0 g1 g2
    go_wp2
    go_ret
    exact ⟨rfl, B_10.out⟩
end Go.Proofs.Ytofhdakggapahaa
