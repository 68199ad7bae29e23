/- The contract of a system's Rest. The contract of sort.Search. Appends of rows: any part of a slice of rows onto a slice that the call owns. The contract of the reference's Insert. Arrays that the call owns, written in place; lists of parcels: cells of two. The contract of slices.Insert at rows: one more. -/
import Derived.Test.YtofhdakggapahaaZn4
import Derived.Laws.AppendOwnNone
import Derived.Laws.IdiomCopy
import Derived.Deep.RegionLaw
import Derived.Lib.Overlaps
import Derived.Shelf.Spec.SlicesInsertGrow
import Derived.Lib.AppendZerosOnto
namespace Go.Proofs.Ytofhdakggapahaa
open Go.RowKit Go.By
theorem less_zero {n t : Nat} {x k : Rw} (hx : Fit n t x) (hk : Fit n t k) : lessF x 0 k = x := by
  unfold lessF
  rw [axpy_zero_of rfl (by rw [hk.1, hx.1]), axpy_zero_of rfl (by rw [hk.2, hx.2])]
set_option maxRecDepth 100000 in
set_option maxHeartbeats 4000000 in
theorem ERest_any (base be k t n : Nat) (v : Value) (K : List Rw) (p1 p2 : Option Addr) (c1 c2 : Nat) (x : Rw) (w : World) (hE : Elm w base be k t v n K) (s1 : Sl B8 w p1 k c1 x.1) (s2 : Sl B8 w p2 t c2 x.2) (hK : ∀ r, r ∈ K → Fit k t r ∧ Led r) (hk : k ≤ 4096) (ht : t ≤ 65535) :
    Calls Try.prog 33 #[.pointer (some ⟨be, 0, none⟩), .agg #[.slice p1 k c1, .slice p2 t c2]] w (RetR2 5 w (restF K x) 0) := by
  have hinfo := info_row
  obtain ⟨q, c, rfl⟩ := hE.rows.shape
  have HE := Lib.hid hE; have S1 := Lib.hid s1; have S2 := Lib.hid s2; have HK := Lib.hid hK; have HLEN := Lib.hid hE.rows.len
  have HX : Hid (Fit k t x) := ⟨s1.len, s2.len⟩
  have hnb : n ≤ 9223372036854775807 := by
    obtain ⟨vs, a, b, o, r⟩ := hE.rows
    rcases o.2 with ⟨hv, hn⟩ | ⟨g, cap, cur, hv, _, _, h1, h2, _⟩
    · simp at hv; omega
    · unfold maxLen at h2; omega
  clear hE s1 s2 hK
  go_enter Try.func33, Try.ntmps33
  go_wp2
  have b0 : Below w.heap.size w ((w.alloc (.cells #[.slice p1 k c1, .slice p2 t c2] 61)).alloc (.cells #[.slice none 0 0, .slice none 0 0] 61)) := al (al (Below.refl _ _) (Nat.le_refl _)) (by simp)
  have x0 : ((w.alloc (.cells #[.slice p1 k c1, .slice p2 t c2] 61)).alloc (.cells #[.slice none 0 0, .slice none 0 0] 61)).heap[w.heap.size]? = some (.cells #[.slice p1 k c1, .slice p2 t c2] 61 (0, 0)) := hal (hnew rfl)
  have z0 : ((w.alloc (.cells #[.slice p1 k c1, .slice p2 t c2] 61)).alloc (.cells #[.slice none 0 0, .slice none 0 0] 61)).heap[w.heap.size + 1]? = some (.cells #[.slice none 0 0, .slice none 0 0] 61 (0, 0)) := hnew (by simp)
  generalize (w.alloc (.cells #[.slice p1 k c1, .slice p2 t c2] 61)).alloc (.cells #[.slice none 0 0, .slice none 0 0] 61) = w2 at b0 x0 z0 ⊢
  have B2 := Lib.hid b0; have X2 := Lib.hid x0; have Z2 := Lib.hid z0
  clear b0 x0 z0
  have E2 := Lib.hid (HE.out.keep B2.out)
  obtain ⟨f0, f1, f2⟩ := cells3 E2.out.box
  obtain ⟨y0, y1⟩ := cells2 X2.out
  refine wp_region_shapes (fun ix => ([.val (.pointer (some ⟨w.heap.size, 0, none⟩)), .val (.slice p1 k c1), .val (.int .i64 (k : Nat)), .val (.pointer (some ⟨be, 0, none⟩)), .val (.pointer (some ⟨be, 0, none⟩)), .val (.pointer (some ⟨be, 0, none⟩)), .val (.int .i64 k), .val (.bool false), .val (.bool false), .val (.pointer (some ⟨w.heap.size, 1, none⟩)), .val (.slice p2 t c2), .val (.int .i64 (t : Nat)), .val (.pointer (some ⟨be, 0, none⟩)), .val (.pointer (some ⟨be, 0, none⟩)), .val (.pointer (some ⟨be, 1, none⟩)), .val (.int .i64 t), .val (.bool false), .val (.bool false)][ix]?).getD (.any)) 60 rfl (by kernel_rfl) (by decide) (by decide) (by decide) ?_ ?_
  · refine ⟨?_, ?_, ?_, ?_, ?_, ?_, ?_, ?_, ?_, ?_, ?_, ?_, ?_, ?_, ?_, ?_, ?_, ?_, trivial⟩
    · intro a W hb0 hs hp hi; have hb := undrew hb0; clear hb0
      have t3 : sl a 3 = .pointer (some ⟨w.heap.size, 0, none⟩) := hi 3 (by decide)
      refine ite_y rfl (wp_val (.pointer (some ⟨w.heap.size, 0, none⟩)) ?_ ?_)
      · simp only [execOp, eval_tmp, eval_const, t3]; simp [go_sem]
      · exact ⟨_, rfl, Below.refl _ _, rfl⟩
    · intro a W hb0 hs hp hi; have hb := undrew hb0; clear hb0
      have tt : sl a 13 = .pointer (some ⟨w.heap.size, 0, none⟩) := hp 0 (by decide)
      have dd := (hb.cell (p := ⟨w.heap.size, 0, none⟩) (lt_of_cell y0)).trans y0
      refine ite_y rfl (wp_val (.slice p1 k c1) ?_ ?_)
      · simp only [execOp, eval_tmp, tt]; simp [go_sem, dd]
      · exact ⟨_, rfl, Below.refl _ _, rfl⟩
    · intro a W hb0 hs hp hi; have hb := undrew hb0; clear hb0
      have t14 : sl a 14 = .slice p1 k c1 := hp 1 (by decide)
      refine ite_y rfl (wp_val (.int .i64 (k : Nat)) ?_ ?_)
      · simp only [execOp, resolve, List.map_toArray, List.map, eval_tmp, eval_func, eval_const, t14]; simp [go_sem]
      · exact ⟨_, rfl, Below.refl _ _, rfl⟩
    · intro a W hb0 hs hp hi; have hb := undrew hb0; clear hb0
      have t0 : sl a 0 = .pointer (some ⟨be, 0, none⟩) := hi 0 (by decide)
      exact ite_y rfl (wp_val (sl a 0) rfl ⟨_, rfl, Below.refl _ _, t0⟩)
    · intro a W hb0 hs hp hi; have hb := undrew hb0; clear hb0
      have tt : sl a 16 = .pointer (some ⟨be, 0, none⟩) := hp 3 (by decide)
      refine ite_y rfl (wp_val (.pointer (some ⟨be, 0, none⟩)) ?_ ?_)
      · simp only [execOp, eval_tmp, tt]; simp [go_sem]
      · exact ⟨_, rfl, Below.refl _ _, rfl⟩
    · intro a W hb0 hs hp hi; have hb := undrew hb0; clear hb0
      have t17 : sl a 17 = .pointer (some ⟨be, 0, none⟩) := hp 4 (by decide)
      refine ite_y rfl (wp_val (.pointer (some ⟨be, 0, none⟩)) ?_ ?_)
      · simp only [execOp, eval_tmp, eval_const, t17]; simp [go_sem]
      · exact ⟨_, rfl, Below.refl _ _, rfl⟩
    · intro a W hb0 hs hp hi; have hb := undrew hb0; clear hb0
      have tt : sl a 18 = .pointer (some ⟨be, 0, none⟩) := hp 5 (by decide)
      have dd := (hb.cell (p := ⟨be, 0, none⟩) (lt_of_cell f0)).trans f0
      refine ite_y rfl (wp_val (.int .i64 k) ?_ ?_)
      · simp only [execOp, eval_tmp, tt]; simp [go_sem, dd]
      · exact ⟨_, rfl, Below.refl _ _, rfl⟩
    · intro a W hb0 hs hp hi; have hb := undrew hb0; clear hb0
      have t15 : sl a 15 = .int .i64 (k : Nat) := hp 2 (by decide)
      have t19 : sl a 19 = .int .i64 k := hp 6 (by decide)
      refine ite_y rfl (wp_val (.bool false) ?_ ?_)
      · simp only [execOp, eval_tmp, eval_const, t15, t19]; simp [go_sem]
      · exact ⟨_, rfl, Below.refl _ _, rfl⟩
    · intro a W hb0 hs hp hi; have hb := undrew hb0; clear hb0
      have t20 : sl a 20 = .bool false := hp 7 (by decide)
      exact ite_y rfl (wp_val (sl a 20) rfl ⟨_, rfl, Below.refl _ _, t20⟩)
    · intro a W hb0 hs hp hi; have hb := undrew hb0; clear hb0
      have tg : sl a 21 = .bool false := hp 8 (by decide)
      have t3 : sl a 3 = .pointer (some ⟨w.heap.size, 0, none⟩) := hi 3 (by decide)
      refine ite_y (wanted_yes rfl rfl (by have hz : a.tmps.size = 60 := hs; rw [hz]; decide) tg) (wp_val (.pointer (some ⟨w.heap.size, 1, none⟩)) ?_ ?_)
      · simp only [execOp, eval_tmp, eval_const, t3]; simp [go_sem]
      · exact ⟨_, rfl, Below.refl _ _, rfl⟩
    · intro a W hb0 hs hp hi; have hb := undrew hb0; clear hb0
      have tg : sl a 21 = .bool false := hp 8 (by decide)
      have tt : sl a 22 = .pointer (some ⟨w.heap.size, 1, none⟩) := hp 9 (by decide)
      have dd := (hb.cell (p := ⟨w.heap.size, 1, none⟩) (lt_of_cell y1)).trans y1
      refine ite_y (wanted_yes rfl rfl (by have hz : a.tmps.size = 60 := hs; rw [hz]; decide) tg) (wp_val (.slice p2 t c2) ?_ ?_)
      · simp only [execOp, eval_tmp, tt]; simp [go_sem, dd]
      · exact ⟨_, rfl, Below.refl _ _, rfl⟩
    · intro a W hb0 hs hp hi; have hb := undrew hb0; clear hb0
      have tg : sl a 21 = .bool false := hp 8 (by decide)
      have t23 : sl a 23 = .slice p2 t c2 := hp 10 (by decide)
      refine ite_y (wanted_yes rfl rfl (by have hz : a.tmps.size = 60 := hs; rw [hz]; decide) tg) (wp_val (.int .i64 (t : Nat)) ?_ ?_)
      · simp only [execOp, resolve, List.map_toArray, List.map, eval_tmp, eval_func, eval_const, t23]; simp [go_sem]
      · exact ⟨_, rfl, Below.refl _ _, rfl⟩
    · intro a W hb0 hs hp hi; have hb := undrew hb0; clear hb0
      have tg : sl a 21 = .bool false := hp 8 (by decide)
      have t0 : sl a 0 = .pointer (some ⟨be, 0, none⟩) := hi 0 (by decide)
      exact ite_y (wanted_yes rfl rfl (by have hz : a.tmps.size = 60 := hs; rw [hz]; decide) tg) (wp_val (sl a 0) rfl ⟨_, rfl, Below.refl _ _, t0⟩)
    · intro a W hb0 hs hp hi; have hb := undrew hb0; clear hb0
      have tg : sl a 21 = .bool false := hp 8 (by decide)
      have tt : sl a 25 = .pointer (some ⟨be, 0, none⟩) := hp 12 (by decide)
      refine ite_y (wanted_yes rfl rfl (by have hz : a.tmps.size = 60 := hs; rw [hz]; decide) tg) (wp_val (.pointer (some ⟨be, 0, none⟩)) ?_ ?_)
      · simp only [execOp, eval_tmp, tt]; simp [go_sem]
      · exact ⟨_, rfl, Below.refl _ _, rfl⟩
    · intro a W hb0 hs hp hi; have hb := undrew hb0; clear hb0
      have tg : sl a 21 = .bool false := hp 8 (by decide)
      have t26 : sl a 26 = .pointer (some ⟨be, 0, none⟩) := hp 13 (by decide)
      refine ite_y (wanted_yes rfl rfl (by have hz : a.tmps.size = 60 := hs; rw [hz]; decide) tg) (wp_val (.pointer (some ⟨be, 1, none⟩)) ?_ ?_)
      · simp only [execOp, eval_tmp, eval_const, t26]; simp [go_sem]
      · exact ⟨_, rfl, Below.refl _ _, rfl⟩
    · intro a W hb0 hs hp hi; have hb := undrew hb0; clear hb0
      have tg : sl a 21 = .bool false := hp 8 (by decide)
      have tt : sl a 27 = .pointer (some ⟨be, 1, none⟩) := hp 14 (by decide)
      have dd := (hb.cell (p := ⟨be, 1, none⟩) (lt_of_cell f1)).trans f1
      refine ite_y (wanted_yes rfl rfl (by have hz : a.tmps.size = 60 := hs; rw [hz]; decide) tg) (wp_val (.int .i64 t) ?_ ?_)
      · simp only [execOp, eval_tmp, tt]; simp [go_sem, dd]
      · exact ⟨_, rfl, Below.refl _ _, rfl⟩
    · intro a W hb0 hs hp hi; have hb := undrew hb0; clear hb0
      have tg : sl a 21 = .bool false := hp 8 (by decide)
      have t24 : sl a 24 = .int .i64 (t : Nat) := hp 11 (by decide)
      have t28 : sl a 28 = .int .i64 t := hp 15 (by decide)
      refine ite_y (wanted_yes rfl rfl (by have hz : a.tmps.size = 60 := hs; rw [hz]; decide) tg) (wp_val (.bool false) ?_ ?_)
      · simp only [execOp, eval_tmp, eval_const, t24, t28]; simp [go_sem]
      · exact ⟨_, rfl, Below.refl _ _, rfl⟩
    · intro a W hb0 hs hp hi; have hb := undrew hb0; clear hb0
      have t21 : sl a 21 = .bool false := hp 8 (by decide)
      have t29 : sl a 29 = .bool false := hp 16 (by decide)
      refine ite_y rfl (wp_val (.bool false) ?_ ?_)
      · simp only [execOp, eval_tmp, eval_const, t21, t29]; simp [go_sem]
      · exact ⟨_, rfl, Below.refl _ _, rfl⟩
  intro a w3 hb hs hd hI ht
  have ha := act_is [13, 14, 15, 16, 17, 18, 19, 20, 21, 22, 23, 24, 25, 26, 27, 28, 29, 30] hs hd ht (by decide)
  have t30 : sl a 30 = .bool false := hI 17 (by decide)
  simp only [List.foldl, t30] at ha
  generalize sl a 13 = u13 at ha
  generalize sl a 14 = u14 at ha
  generalize sl a 15 = u15 at ha
  generalize sl a 16 = u16 at ha
  generalize sl a 17 = u17 at ha
  generalize sl a 18 = u18 at ha
  generalize sl a 19 = u19 at ha
  generalize sl a 20 = u20 at ha
  generalize sl a 21 = u21 at ha
  generalize sl a 22 = u22 at ha
  generalize sl a 23 = u23 at ha
  generalize sl a 24 = u24 at ha
  generalize sl a 25 = u25 at ha
  generalize sl a 26 = u26 at ha
  generalize sl a 27 = u27 at ha
  generalize sl a 28 = u28 at ha
  generalize sl a 29 = u29 at ha
  simp only [Act.put, List.setIfInBounds_toArray, List.set_cons_zero, List.set_cons_succ] at ha
  rw [ha]
  clear ha hI ht
  have B3 := Lib.hid (bl B2.out hb B2.out.size)
  have X3 := Lib.hid ((hb.block _ (blk_lt X2.out)).trans X2.out); have Z3 := Lib.hid ((hb.block _ (blk_lt Z2.out)).trans Z2.out)
  have hsz3 : w.heap.size + 2 ≤ w3.heap.size := by have := blk_lt Z3.out; omega
  clear hb B2 X2 Z2 E2 f0 f1 f2 y0 y1
  obtain ⟨y0, y1⟩ := cells2 X3.out
  go_wp2_with fail
  refine Calls.mono (RClone_any p1 p2 k c1 t c2 x.1 x.2 w3 (S1.out.keep B3.out) (S2.out.keep B3.out) (by unfold Room; omega) (by unfold Room; omega)) ?_
  rintro e w4 ⟨q1, m1, g1, q2, m2, g2, l1, l2, rfl, o1, o2, hb⟩
  have B4 := Lib.hid (bl B3.out hb B3.out.size)
  have Z4 := Lib.hid ((hb.block _ (blk_lt Z3.out)).trans Z3.out)
  have O1 := Lib.hid (owns_mono o1 hsz3); have O2 := Lib.hid (owns_mono o2 hsz3)
  have E4 := Lib.hid (HE.out.keep B4.out)
  have BA : Hid (∀ o, Below w4.heap.size w4 (w4.alloc o)) := fun o => al (Below.refl _ _) (Nat.le_refl _)
  have hb4 : w.heap.size + 2 ≤ w4.heap.size := Nat.le_trans hsz3 hb.size
  clear hb o1 o2 B3 X3 Z3 y0 y1 l1 l2
  obtain ⟨f0, f1, f2⟩ := cells3 (hal (o := .cells #[.slice q1 m1 g1, .slice q2 m2 g2] 61) E4.out.box)
  obtain ⟨b6, h6⟩ : ∃ b6, b6 = w4.heap.size := ⟨_, rfl⟩
  go_wp2
  clear f0 f1 f2
  rw [← h6]
  have hb6w : w.heap.size + 2 ≤ b6 := by omega
  have H6 := Lib.hid h6
  clear h6
  go_loopw [39] (fun i wr => ∃ (j : Nat) (q1 : Option Addr) (m1 g1 : Nat) (q2 : Option Addr) (m2 g2 : Nat), j ≤ n ∧ i = .int .i64 j ∧ Hid (wr.heap[b6]? = some (.cells #[.slice q1 m1 g1, .slice q2 m2 g2] 61 (0, 0))) ∧
    Hid (wr.ownsRow (w.heap.size + 2) 5 1 (.slice q1 m1 g1) m1 ((restF (K.take j) x).1.map B8)) ∧ Hid (wr.ownsRow (w.heap.size + 2) 5 1 (.slice q2 m2 g2) m2 ((restF (K.take j) x).2.map B8)) ∧ Hid (Below w.heap.size w wr) ∧
    Hid (wr.heap[w.heap.size + 1]? = some (.cells #[.slice none 0 0, .slice none 0 0] 61 (0, 0)))) (fun i _ => n - (intOf i).toNat)
  case atStart => exact ⟨0, q1, m1, g1, q2, m2, g2, Nat.zero_le _, rfl, hnew H6.out, owns_keep O1.out (BA.out _), owns_keep O2.out (BA.out _), bl B4.out (BA.out _) B4.out.size, hal Z4.out⟩
  case round =>
    clear O1 O2 B4 Z4 E4 BA
    obtain ⟨j, q1, m1, g1, q2, m2, g2, hj, rfl, hL, hO1, hO2, hB, hZ⟩ := hrel
    by_cases hjl : j < n
    · obtain ⟨gk, kk, a1, b1, d1, a2, b2, d2, rfl, e1, e2, hkk, t1, t2⟩ := (HE.out.keep hB.out).rows.at hjl
      have T1 := Lib.hid t1; have T2 := Lib.hid t2
      have jn : (j : Int) < (n : Int) := by omega
      have fk := HK.out kk (List.mem_of_getElem? hkk.out)
      obtain ⟨XJ, hXJ⟩ : ∃ XJ, XJ = restF (K.take j) x := ⟨_, rfl⟩
      have fitX : Fit k t XJ := by rw [hXJ]; exact HX.out.rest (fun a ha => (HK.out a (List.mem_of_mem_take ha)).1)
      rw [← hXJ] at hO1 hO2
      obtain ⟨LJ, hLJ⟩ : ∃ LJ, LJ = leadS kk.1 := ⟨_, rfl⟩
      obtain ⟨CJ, hCJ⟩ : ∃ CJ, CJ = atS XJ.1 LJ := ⟨_, rfl⟩
      obtain ⟨YJ, hYJ⟩ : ∃ YJ, YJ = lessF XJ CJ kk := ⟨_, rfl⟩
      have hnext : Hid (restF (K.take (j + 1)) x = YJ) := by show _ = _; rw [restF_take hkk.out, ← hXJ, hYJ, hCJ, hLJ]
      have lm1 : m1 = k := by have := (Sl.of_owns hO1.out).len; rw [fitX.1] at this; exact this.symm
      have lm2 : m2 = t := by have := (Sl.of_owns hO2.out).len; rw [fitX.2] at this; exact this.symm
      have HLD : Hid (∀ W, Sl B8 W a1 b1 d1 kk.1 → Calls Try.prog 62 #[.slice a1 b1 d1] W fun e w' => e = .returned (.int .i64 LJ) ∧ W = w') := fun W h => by rw [hLJ]; exact Lead_any _ _ _ _ W h
      have HAT : Hid (∀ W, Sl B8 W q1 m1 g1 XJ.1 → Calls Try.prog 61 #[.slice q1 m1 g1, .int .i64 LJ] W fun e w' => e = .returned (B8 CJ) ∧ W = w') := fun W h => by rw [hCJ]; exact At_any _ _ _ _ LJ W h
      have HLS : Hid (∀ W, Sl B8 W q1 m1 g1 XJ.1 → Sl B8 W q2 m2 g2 XJ.2 → Sl B8 W a1 b1 d1 kk.1 → Sl B8 W a2 b2 d2 kk.2 → Calls Try.prog 60 #[.agg #[.slice q1 m1 g1, .slice q2 m2 g2], B8 CJ, .agg #[.slice a1 b1 d1, .slice a2 b2 d2]] W (RetR2 5 W YJ 0)) := fun W h1 h2 h3 h4 => by
        have := Less_any q1 q2 a1 a2 m1 g1 m2 g2 b1 d1 b2 d2 XJ.1 XJ.2 kk.1 kk.2 CJ W h1 h2 h3 h4 (by rw [lm1]; unfold Room; omega) (by rw [lm2]; unfold Room; omega)
        rw [lessS_fit (n := k) (t := t) (x := XJ) (k := kk) fitX fk.1, ← hYJ] at this
        exact this
      have hYz : Hid (CJ = 0 → YJ = XJ) := fun h => by rw [hYJ, h]; exact less_zero fitX fk.1
      have E1' := Lib.hid e1; have E2' := Lib.hid e2
      clear hXJ hLJ hCJ hYJ fk fitX lm1 lm2 t1 t2
      go_wp2
      clear e1 e2
      have ba : Below wr.heap.size wr (wr.alloc (.cells #[.slice a1 b1 d1, .slice a2 b2 d2] 61)) := al (Below.refl _ _) (Nat.le_refl _)
      have bx : (wr.alloc (.cells #[.slice a1 b1 d1, .slice a2 b2 d2] 61)).heap[wr.heap.size]? = some (.cells #[.slice a1 b1 d1, .slice a2 b2 d2] 61 (0, 0)) := hnew rfl
      generalize wr.alloc (.cells #[.slice a1 b1 d1, .slice a2 b2 d2] 61) = w5 at ba bx ⊢
      have BA := Lib.hid ba; have BX := Lib.hid bx
      clear ba bx
      have L5 := Lib.hid ((BA.out.block _ (blk_lt hL.out)).trans hL.out)
      obtain ⟨y0, y1⟩ := cells2 L5.out
      obtain ⟨u0, u1⟩ := cells2 BX.out
      refine wp_region_shapes (fun ix => ([.val (.pointer (some ⟨b6, 0, none⟩)), .val (.slice q1 m1 g1), .val (.pointer (some ⟨wr.heap.size, 0, none⟩)), .val (.slice a1 b1 d1), .val (.int .i64 LJ), .val (B8 CJ), .val (B8 CJ)][ix]?).getD (.any)) 60 rfl (by kernel_rfl) (by decide) (by decide) (by decide) ?_ ?_
      · refine ⟨?_, ?_, ?_, ?_, ?_, ?_, ?_, trivial⟩
        · intro a W hb0 hs hp hi; have hb := undrew hb0; clear hb0
          have t6 : sl a 6 = .pointer (some ⟨b6, 0, none⟩) := hi 6 (by decide)
          refine ite_y rfl (wp_val (.pointer (some ⟨b6, 0, none⟩)) ?_ ?_)
          · simp only [execOp, eval_tmp, eval_const, t6]; simp [go_sem]
          · exact ⟨_, rfl, Below.refl _ _, rfl⟩
        · intro a W hb0 hs hp hi; have hb := undrew hb0; clear hb0
          have tt : sl a 43 = .pointer (some ⟨b6, 0, none⟩) := hp 0 (by decide)
          have dd := (hb.cell (p := ⟨b6, 0, none⟩) (lt_of_cell y0)).trans y0
          refine ite_y rfl (wp_val (.slice q1 m1 g1) ?_ ?_)
          · simp only [execOp, eval_tmp, tt]; simp [go_sem, dd]
          · exact ⟨_, rfl, Below.refl _ _, rfl⟩
        · intro a W hb0 hs hp hi; have hb := undrew hb0; clear hb0
          have t8 : sl a 8 = .pointer (some ⟨wr.heap.size, 0, none⟩) := hi 8 (by decide)
          refine ite_y rfl (wp_val (.pointer (some ⟨wr.heap.size, 0, none⟩)) ?_ ?_)
          · simp only [execOp, eval_tmp, eval_const, t8]; simp [go_sem]
          · exact ⟨_, rfl, Below.refl _ _, rfl⟩
        · intro a W hb0 hs hp hi; have hb := undrew hb0; clear hb0
          have tt : sl a 45 = .pointer (some ⟨wr.heap.size, 0, none⟩) := hp 2 (by decide)
          have dd := (hb.cell (p := ⟨wr.heap.size, 0, none⟩) (lt_of_cell u0)).trans u0
          refine ite_y rfl (wp_val (.slice a1 b1 d1) ?_ ?_)
          · simp only [execOp, eval_tmp, tt]; simp [go_sem, dd]
          · exact ⟨_, rfl, Below.refl _ _, rfl⟩
        · intro a W hb0 hs hp hi; have hb := undrew hb0; clear hb0
          have t46 : sl a 46 = .slice a1 b1 d1 := hp 3 (by decide)
          refine ite_y rfl (wp_enter 62 #[.slice a1 b1 d1] ?_ (HLD.out W (T1.out.keep (BA.out.trans (hb.mono BA.out.size)))) ?_)
          · simp only [execOp, resolve, List.map_toArray, List.map, eval_tmp, eval_func, eval_const, t46]; simp [go_sem]
          · rintro e W' ⟨rfl, rfl⟩; exact ⟨_, rfl, _, rfl, Below.refl _ _, rfl⟩
        · intro a W hb0 hs hp hi; have hb := undrew hb0; clear hb0
          have t44 : sl a 44 = .slice q1 m1 g1 := hp 1 (by decide)
          have t47 : sl a 47 = .int .i64 LJ := hp 4 (by decide)
          refine ite_y rfl (wp_enter 61 #[.slice q1 m1 g1, .int .i64 LJ] ?_ (HAT.out W (Sl.of_owns (owns_keep hO1.out (BA.out.trans (hb.mono BA.out.size))))) ?_)
          · simp only [execOp, resolve, List.map_toArray, List.map, eval_tmp, eval_func, eval_const, t44, t47]; simp [go_sem]
          · rintro e W' ⟨rfl, rfl⟩; exact ⟨_, rfl, _, rfl, Below.refl _ _, rfl⟩
        · intro a W hb0 hs hp hi; have hb := undrew hb0; clear hb0
          have t48 : sl a 48 = B8 CJ := hp 5 (by decide)
          exact ite_y rfl (wp_val (sl a 48) rfl ⟨_, rfl, Below.refl _ _, t48⟩)
      intro a w6 hb hs hd hI ht
      have ha := act_is [43, 44, 45, 46, 47, 48, 9] hs hd ht (by decide)
      have t9 : sl a 9 = B8 CJ := hI 6 (by decide)
      simp only [List.foldl, t9] at ha
      generalize sl a 43 = u43 at ha
      generalize sl a 44 = u44 at ha
      generalize sl a 45 = u45 at ha
      generalize sl a 46 = u46 at ha
      generalize sl a 47 = u47 at ha
      generalize sl a 48 = u48 at ha
      simp only [Act.put, List.setIfInBounds_toArray, List.set_cons_zero, List.set_cons_succ] at ha
      rw [ha]
      clear ha hI ht
      have B6 := Lib.hid (BA.out.trans (hb.mono BA.out.size))
      have L6 := Lib.hid ((hb.block _ (blk_lt L5.out)).trans L5.out); have X6 := Lib.hid ((hb.block _ (blk_lt BX.out)).trans BX.out)
      have Z6 := Lib.hid ((B6.out.block _ (blk_lt hZ.out)).trans hZ.out)
      have O16 := Lib.hid (owns_keep hO1.out B6.out); have O26 := Lib.hid (owns_keep hO2.out B6.out)
      have BB6 := Lib.hid (bl hB.out B6.out hB.out.size)
      have T16 := Lib.hid (T1.out.keep B6.out); have T26 := Lib.hid (T2.out.keep B6.out)
      clear hb BA BX L5 y0 y1 u0 u1 hL hO1 hO2 hZ T1 T2 hB HLD HAT
      by_cases hc : CJ = 0
      · have hz : ((CJ.toNat : Int) != 0) = false := by rw [hc]; rfl
        have P1 : Hid (w6.ownsRow (w.heap.size + 2) 5 1 (.slice q1 m1 g1) m1 ((restF (K.take (j + 1)) x).1.map B8)) := by show World.ownsRow _ _ _ _ _ _ _; rw [hnext.out, hYz.out hc]; exact O16.out
        have P2 : Hid (w6.ownsRow (w.heap.size + 2) 5 1 (.slice q2 m2 g2) m2 ((restF (K.take (j + 1)) x).2.map B8)) := by show World.ownsRow _ _ _ _ _ _ _; rw [hnext.out, hYz.out hc]; exact O26.out
        clear hc hnext hYz O16 O26 HLS B6 T16 T26
        go_wp2
        go_roundw
        case rel => exact ⟨j + 1, q1, m1, g1, q2, m2, g2, by omega, by go_num, L6.out, P1.out, P2.out, BB6.out, Z6.out⟩
        case measure => simp [intOf]; omega
      · have hz : ((CJ.toNat : Int) != 0) = true := by simp; exact fun h => hc (UInt8.toNat_inj.1 (by simpa using h))
        obtain ⟨y0, y1⟩ := cells2 L6.out
        obtain ⟨u0, u1⟩ := cells2 X6.out
        clear hc hYz
        go_wp2_with fail
        refine Calls.mono (HLS.out _ (Sl.of_owns O16.out) (Sl.of_owns O26.out) T16.out T26.out) ?_
        rintro e w7 ⟨q5, m5, g5, q6, m6, g6, e5, e6, rfl, o5, o6, hb⟩
        have L7 := Lib.hid ((hb.block _ (blk_lt L6.out)).trans L6.out)
        have Z7 := Lib.hid ((hb.block _ (blk_lt Z6.out)).trans Z6.out)
        have BB7 := Lib.hid (bl BB6.out hb BB6.out.size)
        have hb6 : b6 < w6.heap.size := blk_lt L6.out
        have hsz6 : w.heap.size + 2 ≤ w6.heap.size := by have := B6.out.size; have := blk_lt Z6.out; omega
        have NX : Hid (((w7.setCell ⟨b6, 0, none⟩ (.slice q5 m5 g5)).setCell ⟨b6, 1, none⟩ (.slice q6 m6 g6)).heap[b6]? = some (.cells #[.slice q5 m5 g5, .slice q6 m6 g6] 61 (0, 0)) ∧
            ((w7.setCell ⟨b6, 0, none⟩ (.slice q5 m5 g5)).setCell ⟨b6, 1, none⟩ (.slice q6 m6 g6)).ownsRow (w.heap.size + 2) 5 1 (.slice q5 m5 g5) m5 ((restF (K.take (j + 1)) x).1.map B8) ∧
            ((w7.setCell ⟨b6, 0, none⟩ (.slice q5 m5 g5)).setCell ⟨b6, 1, none⟩ (.slice q6 m6 g6)).ownsRow (w.heap.size + 2) 5 1 (.slice q6 m6 g6) m6 ((restF (K.take (j + 1)) x).2.map B8) ∧
            Below w.heap.size w ((w7.setCell ⟨b6, 0, none⟩ (.slice q5 m5 g5)).setCell ⟨b6, 1, none⟩ (.slice q6 m6 g6)) ∧
            ((w7.setCell ⟨b6, 0, none⟩ (.slice q5 m5 g5)).setCell ⟨b6, 1, none⟩ (.slice q6 m6 g6)).heap[w.heap.size + 1]? = some (.cells #[.slice none 0 0, .slice none 0 0] 61 (0, 0))) := by
          rw [hnext.out]
          have hge : w.heap.size ≤ b6 := by omega
          have hne : w.heap.size + 1 ≠ b6 := by omega
          exact ⟨hss (hss L7.out), owns_mono (owns_set (owns_set o5 hb6) hb6) hsz6, owns_mono (owns_set (owns_set o6 hb6) hb6) hsz6, (BB7.out.setCell hge _).setCell hge _, hsc (hsc Z7.out hne) hne⟩
        clear o5 o6 hb L6 Z6 BB6 X6 u0 u1 y0 y1 O16 O26 T16 T26 B6 hnext e5 e6 Z7 BB7
        obtain ⟨y0, y1⟩ := cells2 L7.out
        have v0 := frozen_of_row _ _ 0 _ _ L7.out
        have v1 := frozen_of_row _ _ 1 _ _ L7.out
        go_wp2
        generalize (w7.setCell ⟨b6, 0, none⟩ (.slice q5 m5 g5)).setCell ⟨b6, 1, none⟩ (.slice q6 m6 g6) = wn at NX ⊢
        go_roundw
        case rel => exact ⟨j + 1, q5, m5, g5, q6, m6, g6, by omega, by go_num, NX.out.1, NX.out.2.1, NX.out.2.2.1, NX.out.2.2.2.1, NX.out.2.2.2.2⟩
        case measure => simp [intOf]; omega
    · have hjn : j = n := by omega
      have hge : (n : Int) ≤ (j : Int) := by omega
      have P1 : Hid (wr.ownsRow (w.heap.size + 2) 5 1 (.slice q1 m1 g1) m1 ((restF K x).1.map B8)) := by have h := hO1.out; rw [List.take_of_length_le (by rw [HLEN.out]; omega)] at h; exact h
      have P2 : Hid (wr.ownsRow (w.heap.size + 2) 5 1 (.slice q2 m2 g2) m2 ((restF K x).2.map B8)) := by have h := hO2.out; rw [List.take_of_length_le (by rw [HLEN.out]; omega)] at h; exact h
      have hl1 : Hid ((restF K x).1.length = m1) := (Sl.of_owns P1.out).len
      have hl2 : Hid ((restF K x).2.length = m2) := (Sl.of_owns P2.out).len
      obtain ⟨y0, y1⟩ := cells2 hL.out
      obtain ⟨f0, f1⟩ := cells2 hZ.out
      have z0 := frozen_of_row _ _ 0 _ _ hZ.out
      have z1 := frozen_of_row _ _ 1 _ _ hZ.out
      clear hjn hO1 hO2 hL
      go_wp2
      refine bodyPost_ret (results_cell_tmp rfl _ _ _ 61 #[.slice q1 m1 g1, .slice q2 m2 g2] (0, 0) _ (.int .i64 0) rfl (hss (hss hZ.out)) rfl Try.underlying61 rfl hinfo) rfl ⟨q1, m1, g1, q2, m2, g2, hl1, hl2, rfl, ?_, ?_, (hB.out.setCell (by simp) _).setCell (by simp) _⟩
      · exact owns_mono (owns_set (owns_set P1.out (by simp)) (by simp)) (by simp)
      · exact owns_mono (owns_set (owns_set P2.out (by simp)) (by simp)) (by simp)
end Go.Proofs.Ytofhdakggapahaa
namespace Go.Proofs.Ytofhdakggapahaa
open Go.RowKit Go.By
set_option maxRecDepth 100000 in
set_option maxHeartbeats 4000000 in
theorem Search_any (f : Nat → Bool) (g : Nat) (lb : Array Value) (eg : Enters Try.prog g) (n : Nat) (w : World) (hn : n ≤ 65536)
    (hf : ∀ (W : World) (i : Nat), Below w.heap.size w W → i < n → Calls Try.prog g (#[.int .i64 i] ++ lb) W fun e w' => e = .returned (.bool (f i)) ∧ Below W.heap.size W w') (hm : ∀ i j, i ≤ j → j < n → f i = true → f j = true) :
    Calls Try.prog 72 #[.int .i64 n, .func (.func g) #[] lb] w fun e w' => ∃ r : Nat, r ≤ n ∧ e = .returned (.int .i64 r) ∧ (∀ i, i < r → f i = false) ∧ (∀ i, r ≤ i → i < n → f i = true) ∧ Below w.heap.size w w' := by
  have HF := Lib.hid hf; have HM := Lib.hid hm
  clear hf hm
  have eg' : ∀ args w, (callFunc g args).run Try.prog w = .ok (.enter g args) w := eg
  clear eg
  go_enter Try.func72, Try.ntmps72
  go_wp2
  go_loopw [5, 6] (fun i j wr => ∃ (a b : Nat), a ≤ b ∧ b ≤ n ∧ i = .int .i64 a ∧ j = .int .i64 b ∧ Hid (∀ x, x < a → f x = false) ∧ Hid (∀ x, b ≤ x → x < n → f x = true) ∧ Hid (Below w.heap.size w wr)) (fun i j _ => (intOf j).toNat - (intOf i).toNat)
  case atStart => exact ⟨0, n, Nat.zero_le _, Nat.le_refl _, rfl, rfl, fun x hx => by omega, fun x h1 h2 => by omega, Below.refl _ _⟩
  case round =>
    obtain ⟨a, b, hab, hbn, rfl, rfl, hlo, hhi, hB⟩ := hrel
    by_cases hlt : a < b
    · have an : (a : Int) < (b : Int) := by omega
      have w1 : IntKind.i64.wrap ((a : Int) + (b : Int)) = ((a + b : Nat) : Int) := by rw [← Int.natCast_add]; exact Go.IntWalk.i64_in _ (by omega)
      go_wp2_with fail
      obtain ⟨m, hmid⟩ : ∃ m, m = (a + b) / 2 := ⟨_, rfl⟩
      have hmz : ((a : Int) + (b : Int)) / 2 = ((m : Nat) : Int) := by omega
      have ham : a ≤ m := by omega
      have hmb : m < b := by omega
      rw [hmz]
      refine (HF.out wr m hB.out (by omega)).mono ?_
      rintro e w2 ⟨rfl, hb⟩
      have B2 := Lib.hid (bl hB.out hb hB.out.size)
      clear hb hmz hmid w1 hB
      cases hfm : f m with
      | false =>
        have HL := Lib.hid hfm
        clear hfm
        have HN : Hid (∀ x, x < m + 1 → f x = false) := fun x hx => by
          cases hfx : f x with
          | false => rfl
          | true => have h := HM.out x m (by omega) (by omega) hfx; rw [HL.out] at h; cases h
        go_wp2
        go_roundw
        case rel => exact ⟨m + 1, b, by omega, hbn, by go_num, rfl, HN.out, hhi.out, B2.out⟩
        case measure => simp [intOf]; omega
      | true =>
        have HL := Lib.hid hfm
        clear hfm
        go_wp2
        go_roundw
        case rel => exact ⟨a, m, ham, by omega, rfl, rfl, hlo.out, fun x h1 h2 => HM.out m x h1 h2 HL.out, B2.out⟩
        case measure => simp [intOf]; omega
    · have hge : (b : Int) ≤ (a : Int) := by omega
      have hba : b = a := by omega
      subst hba
      go_wp2
      go_ret
      exact ⟨b, hbn, rfl, hlo.out, hhi.out, hB.out⟩
end Go.Proofs.Ytofhdakggapahaa
namespace Go.By
open Go.RowKit
/-- the values of rows -/
def RwP (w : World) (u : Value × Value) (k : List UInt8 × List UInt8) : Prop := ∃ q1 m1 c1 q2 m2 c2, u = (.slice q1 m1 c1, .slice q2 m2 c2) ∧ Sl B8 w q1 m1 c1 k.1 ∧ Sl B8 w q2 m2 c2 k.2
theorem RwP.keep {w w' : World} {u : Value × Value} {k : List UInt8 × List UInt8} (h : RwP w u k) (hb : Below w.heap.size w w') : RwP w' u k := by
  obtain ⟨q1, m1, c1, q2, m2, c2, e, h1, h2⟩ := h; exact ⟨q1, m1, c1, q2, m2, c2, e, h1.keep hb, h2.keep hb⟩
/-- a slice of rows as the values of its cells -/
structure RwV (w : World) (p : Option Addr) (n c : Nat) (vs : List (Value × Value)) : Prop where
  len : vs.length = n
  le : n ≤ c
  max : c ≤ maxLen
  nil : p = none → n = 0 ∧ c = 0
  cell : ∀ (j : Nat) (u : Value), (fl2 vs)[j]? = some u → ∃ b o, p = some ⟨b, o, none⟩ ∧ w.cell? ⟨b, o + j, none⟩ = some u
  one : ∀ u, u ∈ fl2 vs → u.oneCell' = true
theorem RwS.vals {w : World} {p : Option Addr} {n c : Nat} {K : List (List UInt8 × List UInt8)} (h : RwS w p n c K) : ∃ vs, RwV w p n c vs ∧ ∀ (j : Nat) (u : Value × Value), vs[j]? = some u → ∃ k, K[j]? = some k ∧ RwP w u k := by
  have each : ∀ j, j < n → ∃ (u : Value × Value), ∃ b o, p = some ⟨b, o, none⟩ ∧ w.cell? ⟨b, o + j * 2, none⟩ = some u.1 ∧ w.cell? ⟨b, o + j * 2 + 1, none⟩ = some u.2 ∧ (∃ k, K[j]? = some k ∧ RwP w u k) ∧ u.1.oneCell' = true ∧ u.2.oneCell' = true := by
    intro j hj
    obtain ⟨k, hk⟩ : ∃ k, K[j]? = some k := ⟨_, List.getElem?_eq_getElem (by rw [h.len]; exact hj)⟩
    obtain ⟨b, o, q1, m1, c1, q2, m2, c2, e, h1, h2, h3, h4⟩ := h.row j k hk
    exact ⟨(.slice q1 m1 c1, .slice q2 m2 c2), b, o, e, h1, h2, ⟨k, hk, q1, m1, c1, q2, m2, c2, rfl, h3, h4⟩, rfl, rfl⟩
  obtain ⟨f, hf⟩ : ∃ f : Nat → Value × Value, ∀ j, j < n → ∃ b o, p = some ⟨b, o, none⟩ ∧ w.cell? ⟨b, o + j * 2, none⟩ = some (f j).1 ∧ w.cell? ⟨b, o + j * 2 + 1, none⟩ = some (f j).2 ∧ (∃ k, K[j]? = some k ∧ RwP w (f j) k) ∧ (f j).1.oneCell' = true ∧ (f j).2.oneCell' = true :=
    ⟨fun j => if hj : j < n then Classical.choose (each j hj) else (undef, undef), fun j hj => by simp only [dif_pos hj]; exact Classical.choose_spec (each j hj)⟩
  have hat : ∀ (j : Nat) (u : Value × Value), ((List.range n).map f)[j]? = some u → j < n ∧ u = f j := by
    intro j u hj
    have hj' := (List.getElem?_eq_some_iff.1 hj).1
    simp at hj'
    rw [List.getElem?_map, List.getElem?_range hj'] at hj
    exact ⟨hj', by simpa using hj.symm⟩
  refine ⟨(List.range n).map f, ⟨by simp, h.le, h.max, h.nil, ?_, ?_⟩, ?_⟩
  · intro i u hi
    have hlen := (List.getElem?_eq_some_iff.1 hi).1
    rw [fl2_length] at hlen
    have hj : i / 2 < n := by simp at hlen; omega
    obtain ⟨b, o, e, h1, h2, _⟩ := hf (i / 2) hj
    have hv : ((List.range n).map f)[i / 2]? = some (f (i / 2)) := by rw [List.getElem?_map, List.getElem?_range hj]; rfl
    obtain ⟨g1, g2⟩ := fl2_at hv
    refine ⟨b, o, e, ?_⟩
    rcases Nat.mod_two_eq_zero_or_one i with hm | hm
    · have : i / 2 * 2 = i := by omega
      rw [this] at g1 h1
      rw [g1] at hi; rw [h1, ← hi]
    · have : i / 2 * 2 + 1 = i := by omega
      rw [this] at g2
      rw [g2] at hi
      rw [show o + i = o + i / 2 * 2 + 1 by omega, h2, ← hi]
  · intro u hu
    obtain ⟨i, hi, rfl⟩ := List.getElem_of_mem hu
    rw [fl2_length] at hi
    have hj : i / 2 < n := by simp at hi; omega
    obtain ⟨b, o, e, _, _, _, o1, o2⟩ := hf (i / 2) hj
    have hv : ((List.range n).map f)[i / 2]? = some (f (i / 2)) := by rw [List.getElem?_map, List.getElem?_range hj]; rfl
    obtain ⟨g1, g2⟩ := fl2_at hv
    rcases Nat.mod_two_eq_zero_or_one i with hm | hm
    · have : i / 2 * 2 = i := by omega
      rw [this] at g1
      have : (fl2 ((List.range n).map f))[i] = (f (i / 2)).1 := by
        rw [List.getElem?_eq_getElem (by rw [fl2_length]; exact hi)] at g1; injection g1
      rw [this]; exact o1
    · have : i / 2 * 2 + 1 = i := by omega
      rw [this] at g2
      have : (fl2 ((List.range n).map f))[i] = (f (i / 2)).2 := by
        rw [List.getElem?_eq_getElem (by rw [fl2_length]; exact hi)] at g2; injection g2
      rw [this]; exact o2
  · intro j u hj
    obtain ⟨hjn, rfl⟩ := hat j u hj
    obtain ⟨b, o, _, _, _, hk, _⟩ := hf j hjn
    exact hk
theorem RwV.keep {w w' : World} {p : Option Addr} {n c : Nat} {vs : List (Value × Value)} (h : RwV w p n c vs) (hb : Below w.heap.size w w') : RwV w' p n c vs :=
  ⟨h.len, h.le, h.max, h.nil, fun j u hj => by
    obtain ⟨b, o, e, h1⟩ := h.cell j u hj
    exact ⟨b, o, e, (hb.cell (p := ⟨b, o + j, none⟩) (lt_of_cell h1)).trans h1⟩, h.one⟩
theorem wpList_append_two {P : Program} (w : World) {ops : Array Oper} {rest : List Oper} {o : Oper} {a : Act} {Q : Exit → Act → World → Prop} (hgd : o.guard = none) (s x : Operand) (t : TypeId)
    (ho : o.op = .call { callee := .builtin .append, args := #[s, x], argTypes := #[t, t] })
    (base : Nat) (e : TypeId) (i : TypeInfo) (z : Value) (bytes : Nat) (ht : P.underlying t = some (.slice e)) (hi : P.info? e = some i) (hz : i.zero = some z)
    (hsize : i.size = 2) (hby : i.bytes = bytes) (hzs : z.cells.size = 2)
    (v : Value) (n : Nat) (ys : List Value) (hs : a.eval s = v) (hown : w.ownsRow base e 2 v n ys)
    (p : Option Addr) (m c : Nat) (us : List (Value × Value)) (hx : a.eval x = .slice p m c) (hrs : RwV w p m c us)
    (h63 : n + m ≤ maxLen) (hbytes : (n + m) * bytes ≤ 140737488355328) (hbase : base ≤ w.heap.size)
    (h : ∀ v' w', w'.ownsRow base e 2 v' (n + m) (ys ++ fl2 us) → w.grownBy w' v.ownBlock → wpList P ops Q rest (a.put o.dst v') w') : wpList P ops Q (o :: rest) a w := by
  cases p with
  | none =>
    obtain ⟨rfl, rfl⟩ := hrs.nil rfl
    have : us = [] := List.eq_nil_of_length_eq_zero hrs.len
    subst this
    refine wpList_append_own_none hgd s x t ho base e i 2 ht hi v n ys hs hown hx (h v w (by simpa [fl2] using hown) (World.grownBy.refl _ _))
  | some ad =>
    refine wpList_append_own w hgd s x t ho base e i z 2 bytes ht hi hz hsize hby hzs (by omega) v n ys hs hown ad m c (fl2 us) hx (by rw [fl2_length, hrs.len]) ?_ hrs.one h63 hbytes hbase (fun v' w' h1 h2 _ => h v' w' h1 h2)
    intro j u hj
    obtain ⟨b, o', e', hc⟩ := hrs.cell j u hj
    cases e'
    rw [Addr.add_lit]; exact hc
end Go.By
namespace Go.By
open Go.RowKit
theorem fl2_take (vs : List (Value × Value)) : ∀ k, fl2 (vs.take k) = (fl2 vs).take (k * 2) := by
  induction vs with
  | nil => intro k; simp [fl2]
  | cons v vs ih =>
    intro k
    cases k with
    | zero => simp [fl2]
    | succ k =>
      rw [List.take_succ_cons, show (k + 1) * 2 = k * 2 + 2 by omega]
      show v.1 :: v.2 :: fl2 (vs.take k) = (v.1 :: v.2 :: fl2 vs).take (k * 2 + 2)
      rw [List.take_succ_cons, List.take_succ_cons, ih k]
theorem fl2_drop (vs : List (Value × Value)) : ∀ k, fl2 (vs.drop k) = (fl2 vs).drop (k * 2) := by
  induction vs with
  | nil => intro k; simp [fl2]
  | cons v vs ih =>
    intro k
    cases k with
    | zero => simp [fl2]
    | succ k =>
      rw [List.drop_succ_cons, show (k + 1) * 2 = k * 2 + 2 by omega]
      show fl2 (vs.drop k) = (v.1 :: v.2 :: fl2 vs).drop (k * 2 + 2)
      rw [List.drop_succ_cons, List.drop_succ_cons, ih k]
section
variable {w : World} {p : Option Addr} {n c j : Nat} {vs : List (Value × Value)}
theorem RwV.take (h : RwV w p n c vs) (hj : j ≤ n) : RwV w p j c (vs.take j) := by
  refine ⟨by rw [List.length_take, h.len]; omega, by have := h.le; omega, h.max, fun e => by have := h.nil e; omega, fun i u hi => ?_, fun u hu => ?_⟩
  · rw [fl2_take, List.getElem?_take] at hi
    split at hi
    · exact h.cell i u hi
    · cases hi
  · rw [fl2_take] at hu; exact h.one u (List.mem_of_mem_take hu)
theorem RwV.drop {b o : Nat} (h : RwV w (some ⟨b, o, none⟩) n c vs) (hj : j ≤ n) : RwV w (some ⟨b, o + j * 2, none⟩) (n - j) (c - j) (vs.drop j) := by
  refine ⟨by rw [List.length_drop, h.len], by have := h.le; omega, by have := h.max; omega, fun e => (by cases e), fun i u hi => ?_, fun u hu => ?_⟩
  · rw [fl2_drop, List.getElem?_drop] at hi
    obtain ⟨b', o', e, hc⟩ := h.cell (j * 2 + i) u hi
    cases e
    exact ⟨b, o + j * 2, rfl, by rw [show o + j * 2 + i = o + (j * 2 + i) by omega]; exact hc⟩
  · rw [fl2_drop] at hu; exact h.one u (List.mem_of_mem_drop hu)
theorem RwV.none (hp : p = none → c = 0) (hm : c ≤ maxLen) : RwV w p 0 c [] := ⟨rfl, Nat.zero_le _, hm, fun e => ⟨rfl, hp e⟩, fun i u h => by simp [fl2] at h, fun u h => by simp [fl2] at h⟩
/-- bytes lie in no block of slices -/
theorem Sl.away {g T : Nat} {fr : Nat × Nat} {p1 p2 q : Option Addr} {n1 c1 n2 c2 m k : Nat} {xs : List UInt8} (h : Sl B8 w q m k xs) (hg : w.heap[g]? = some (.cells #[.slice p1 n1 c1, .slice p2 n2 c2] T fr)) (h0 : 0 < m) : ∀ a, q = some a → a.block ≠ g := by
  intro a ha e
  obtain ⟨b, o, hp, hc⟩ := h.rs 0 (by rw [h.len]; exact h0)
  rw [hp] at ha; cases ha
  have e' : b = g := e
  subst e'
  rw [cell_of_row _ _ _ _ _ _ hg] at hc
  rcases ho : o + 0 with _ | _ | x
  · rw [ho] at hc; simp at hc
  · rw [ho] at hc; simp at hc
  · rw [ho] at hc; simp at hc
theorem two_cells {W : World} {u v : Value} {T g : Nat} (hg : g = W.heap.size) : ∀ (j : Nat) (y : Value), [u, v][j]? = some y → (W.alloc (.cells #[u, v] T)).cell? ((⟨g, 0, none⟩ : Addr).add j) = some y := by
  intro j y hj
  rw [Addr.add_lit, Nat.zero_add, cell_of_row _ _ j _ _ _ (hnew hg)]
  match j with
  | 0 => simpa using hj
  | 1 => simpa using hj
  | j + 2 => simp at hj
theorem two_ones (q1 q2 : Option Addr) (n1 c1 n2 c2 : Nat) : ∀ u, u ∈ [Value.slice q1 n1 c1, Value.slice q2 n2 c2] → u.oneCell' = true := by
  intro u hu; simp at hu; rcases hu with rfl | rfl <;> rfl
/-- what is owned reads so -/
theorem RwS.of_owns {base T n c : Nat} {q : Option Addr} {vs : List (Value × Value)} {K : List (List UInt8 × List UInt8)} (h : w.ownsRow base T 2 (.slice q n c) n (fl2 vs)) (hl : K.length = n) (hv : ∀ (j : Nat) (k : List UInt8 × List UInt8), K[j]? = some k → ∃ u, vs[j]? = some u ∧ RwP w u k) : RwS w q n c K := by
  rcases h.2 with ⟨h1, h2⟩ | ⟨g, cap, cur, h1, _, _, h3, h4, _⟩
  · cases h1
    have : K = [] := List.length_eq_zero_iff.1 (by omega)
    subst this
    exact ⟨hl, Nat.le_of_eq h2, by simp [maxLen], fun _ => ⟨h2, rfl⟩, fun j k hk => by simp at hk⟩
  · cases h1
    refine ⟨hl, h3, h4, fun e => (by cases e), fun j k hk => ?_⟩
    obtain ⟨u, hu, q1, m1, c1, q2, m2, c2, rfl, s1, s2⟩ := hv j k hk
    have hj := (List.getElem?_eq_some_iff.1 hk).1
    obtain ⟨g1, g2⟩ := fl2_at hu
    refine ⟨g, 0, q1, m1, c1, q2, m2, c2, rfl, ?_, ?_, s1, s2⟩
    · rw [Nat.zero_add, h.cellAt _ (by omega), g1]
    · rw [Nat.zero_add, h.cellAt _ (by omega), g2]
end
end Go.By
namespace Go.Proofs.Ytofhdakggapahaa
open Go.RowKit Go.By
/-- rows in memory, as many as they are -/
def RetK (w : World) (K : List Rw) (e : Ending) (w' : World) : Prop := ∃ q n c, n = K.length ∧ e = .returned (.slice q n c) ∧ RwS w' q n c K ∧ Below w.heap.size w w'
theorem info_rrow : (Try.prog.info? 68).map (fun i => (i.zero, i.size, i.bytes)) = some (some (.agg #[.slice none 0 0, .slice none 0 0]), 2, 48) := by kernel_rfl
theorem take_while_at {α : Type} {p : α → Bool} : ∀ {l : List α} {j : Nat}, j ≤ l.length → (∀ i a, i < j → l[i]? = some a → p a = true) → (∀ a, l[j]? = some a → p a = false) → l.takeWhile p = l.take j ∧ l.dropWhile p = l.drop j
  | [], 0, _, _, _ => ⟨rfl, rfl⟩
  | b :: l, 0, _, _, h => by
    have := h b rfl
    simp [List.takeWhile_cons, List.dropWhile_cons, this]
  | b :: l, j + 1, hl, h1, h2 => by
    have hb := h1 0 b (by omega) rfl
    obtain ⟨g1, g2⟩ := take_while_at (l := l) (j := j) (by simpa using hl) (fun i a hi ha => h1 (i + 1) a (by omega) (by simpa using ha)) (fun a ha => h2 a (by simpa using ha))
    simp [List.takeWhile_cons, List.dropWhile_cons, hb, g1, g2]
set_option maxRecDepth 100000 in
set_option maxHeartbeats 4000000 in
theorem Insert_any (wd t : Nat) (pk : Option Addr) (nk ck : Nat) (K : List Rw) (p1 p2 : Option Addr) (n1 c1 n2 c2 : Nat) (x : Rw) (w : World) (hK : RwS w pk nk ck K) (s1 : Sl B8 w p1 n1 c1 x.1) (s2 : Sl B8 w p2 n2 c2 x.2)
    (hfit : ∀ k, k ∈ K → Fit wd t k ∧ Led k) (hx : Fit wd t x) (hr1 : Room wd) (hr2 : Room t) (hnk : nk ≤ 65535) :
    Calls Try.prog 69 #[.slice pk nk ck, .agg #[.slice p1 n1 c1, .slice p2 n2 c2]] w (RetK w (insF K x)) := by
  obtain ⟨r0, hr0, hrz, hr1', hr2'⟩ := info_parts info_rrow
  have HRS := Lib.hid (fun W a b c => Rest_any wd t pk nk ck K p1 p2 n1 c1 n2 c2 x W a b c hfit hx hr1 hr2 (by omega))
  have fitR := hx.rest (fun k hk => (hfit k hk).1)
  obtain ⟨XR, hXR⟩ : ∃ XR, XR = restF K x := ⟨_, rfl⟩
  rw [← hXR] at HRS fitR
  obtain ⟨Y, hY⟩ : ∃ Y, Y = normS XR := ⟨_, rfl⟩
  have HNM : Hid (∀ W q1 m1 g1 q2 m2 g2, Sl B8 W q1 m1 g1 XR.1 → Sl B8 W q2 m2 g2 XR.2 → Calls Try.prog 91 #[.agg #[.slice q1 m1 g1, .slice q2 m2 g2]] W (RetS W Y)) := fun W q1 m1 g1 q2 m2 g2 a b => by
    rw [hY]
    exact RNorm_any q1 q2 m1 g1 m2 g2 XR.1 XR.2 W a b (by rw [← a.len, fitR.1]; exact hr1) (by rw [← b.len, fitR.2]; exact hr2)
  have HINS : Hid (insF K x = if leadS Y.1 < 0 then K else K.takeWhile (fun r => decide (leadS r.1 < leadS Y.1)) ++ Y :: K.dropWhile (fun r => decide (leadS r.1 < leadS Y.1))) := by show _ = _; rw [hY, hXR]; rfl
  have HK := Lib.hid hK; have S1 := Lib.hid s1; have S2 := Lib.hid s2; have HLEN := Lib.hid hK.len
  have HB0 : Hid (∀ o1, Below w.heap.size w (w.alloc o1)) := fun o1 => al (Below.refl _ _) (Nat.le_refl _)
  obtain ⟨LY, hLY⟩ : ∃ LY, LY = leadS Y.1 := ⟨_, rfl⟩
  have HLY := Lib.hid hLY
  rw [← hLY] at HINS
  clear hK s1 s2 hfit hx hr1 hr2 hXR hY fitR hLY
  go_enter Try.func69, Try.ntmps69
  go_wp2_with fail
  refine Calls.mono (HRS.out _ (HK.out.keep (HB0.out _)) (S1.out.keep (HB0.out _)) (S2.out.keep (HB0.out _))) ?_
  rintro e w1 ⟨q1, m1, g1, q2, m2, g2, rfl, sA, sB, hb1⟩
  have X1 : Hid (w1.heap[w.heap.size]? = some (.cells #[.slice p1 n1 c1, .slice p2 n2 c2] 68 (0, 0))) := (hb1.block _ (by simp)).trans (hnew rfl)
  have B1 : Hid (Below w.heap.size w w1) := bl (HB0.out _) hb1 (by simp)
  have SA := Lib.hid sA; have SB := Lib.hid sB
  clear sA sB hb1 HB0 HRS
  go_wp2_with fail
  refine Calls.mono (HNM.out _ _ _ _ _ _ _ SA.out SB.out) ?_
  rintro e w2 ⟨q5, m5, g5, q6, m6, g6, rfl, s5, s6, hb2⟩
  have X2 : Hid (w2.heap[w.heap.size]? = some (.cells #[.slice p1 n1 c1, .slice p2 n2 c2] 68 (0, 0))) := (hb2.block _ (blk_lt X1.out)).trans X1.out
  have B2 : Hid (Below w.heap.size w w2) := bl B1.out hb2 B1.out.size
  have a5 := fun h => s5.away X2.out h
  have a6 := fun h => s6.away X2.out h
  have N3 : Hid (((w2.setCell ⟨w.heap.size, 0, none⟩ (.slice q5 m5 g5)).setCell ⟨w.heap.size, 1, none⟩ (.slice q6 m6 g6)).heap[w.heap.size]? = some (.cells #[.slice q5 m5 g5, .slice q6 m6 g6] 68 (0, 0)) ∧
      Sl B8 ((w2.setCell ⟨w.heap.size, 0, none⟩ (.slice q5 m5 g5)).setCell ⟨w.heap.size, 1, none⟩ (.slice q6 m6 g6)) q5 m5 g5 Y.1 ∧ Sl B8 ((w2.setCell ⟨w.heap.size, 0, none⟩ (.slice q5 m5 g5)).setCell ⟨w.heap.size, 1, none⟩ (.slice q6 m6 g6)) q6 m6 g6 Y.2 ∧
      Below w.heap.size w ((w2.setCell ⟨w.heap.size, 0, none⟩ (.slice q5 m5 g5)).setCell ⟨w.heap.size, 1, none⟩ (.slice q6 m6 g6))) :=
    ⟨hss (hss X2.out), (s5.set2 a5).set2 a5, (s6.set2 a6).set2 a6, (B2.out.setCell (Nat.le_refl _) _).setCell (Nat.le_refl _) _⟩
  obtain ⟨d0, d1⟩ := cells2 X2.out
  have f0 : w2.frozen? ⟨w.heap.size, 0, none⟩ = false := frozen_of_row _ _ 0 _ _ X2.out
  have f1 : w2.frozen? ⟨w.heap.size, 1, none⟩ = false := frozen_of_row _ _ 1 _ _ X2.out
  clear s5 s6 hb2 a5 a6 X1 B1 SA SB HNM B2
  go_wp2_with fail
  generalize (w2.setCell ⟨w.heap.size, 0, none⟩ (.slice q5 m5 g5)).setCell ⟨w.heap.size, 1, none⟩ (.slice q6 m6 g6) = w3 at N3 ⊢
  have HLD : Hid (∀ W, Sl B8 W q5 m5 g5 Y.1 → Calls Try.prog 75 #[.slice q5 m5 g5] W fun e w' => e = .returned (.int .i64 LY) ∧ W = w') := fun W h => by rw [HLY.out]; exact RLead_any _ _ _ _ W h
  refine Calls.mono (HLD.out _ N3.out.2.1) ?_
  rintro e w' ⟨rfl, rfl⟩
  clear d0 d1 f0 f1 X2 w2
  by_cases hneg : LY < 0
  · have HRK : Hid (RetK w (insF K x) (.returned (.slice pk nk ck)) w3) := by
      show RetK _ _ _ _
      rw [HINS.out, if_pos hneg]
      exact ⟨pk, nk, ck, HLEN.out.symm, rfl, HK.out.keep N3.out.2.2.2, N3.out.2.2.2⟩
    go_wp2
    go_ret
    exact HRK.out
  · have hpos : 0 ≤ LY := by omega
    clear hneg
    go_wp2
    go_loopw [5] (fun i wr => ∃ j : Nat, j ≤ nk ∧ i = .int .i64 j ∧ Hid (Below w3.heap.size w3 wr) ∧ Hid (∀ (i : Nat) (k : Rw), i < j → K[i]? = some k → leadS k.1 < LY)) (fun i _ => nk - (intOf i).toNat)
    case atStart => exact ⟨0, Nat.zero_le _, rfl, Below.refl _ _, fun i k hi => by omega⟩
    case round =>
      obtain ⟨j, hj, rfl, HQ, HP⟩ := hrel
      by_cases hjl : j < nk
      · obtain ⟨kk, hkk⟩ : ∃ kk, K[j]? = some kk := ⟨_, List.getElem?_eq_getElem (by rw [HLEN.out]; exact hjl)⟩
        obtain ⟨bk, ok, a1, b1, d1, a2, b2, d2, rfl, e1, e2, t1, t2⟩ := HK.out.row j kk hkk
        have hwr : Below w.heap.size w wr := bl N3.out.2.2.2 HQ.out N3.out.2.2.2.size
        have E1 := (hwr.cell (p := ⟨bk, ok + j * 2, none⟩) (lt_of_cell e1)).trans e1
        have T1 := Lib.hid (t1.keep hwr)
        have YQ := Lib.hid (N3.out.2.1.keep HQ.out)
        obtain ⟨y0, y1⟩ := cells2 ((HQ.out.block _ (blk_lt N3.out.1)).trans N3.out.1)
        obtain ⟨LK, hLK⟩ : ∃ LK, LK = leadS kk.1 := ⟨_, rfl⟩
        have jn : (j : Int) < (nk : Int) := by omega
        have L1 : Hid (∀ W, Sl B8 W a1 b1 d1 kk.1 → Calls Try.prog 75 #[.slice a1 b1 d1] W fun e w' => e = .returned (.int .i64 LK) ∧ W = w') := fun W h => by rw [hLK]; exact RLead_any _ _ _ _ W h
        have size68 := info_rrow
        have HKK := Lib.hid hkk; have HLK := Lib.hid hLK
        clear hkk hLK e1 e2 t1 t2 y1 hwr
        by_cases hcmp : LK < LY
        · have HP2 : Hid (∀ (i : Nat) (k : Rw), i < j + 1 → K[i]? = some k → leadS k.1 < LY) := fun i k hi hk => by
            by_cases h : i < j
            · exact HP.out i k h hk
            · obtain rfl : i = j := by omega
              rw [HKK.out] at hk; cases hk
              rw [← HLK.out]; exact hcmp
          go_wp2_with fail
          refine wp_region_shapes (fun ix => ([.val (.int .i64 (j : Nat)), .val (.slice (some ⟨bk, ok, none⟩) nk ck), .val (.int .i64 (nk : Nat)), .val (.bool true), .val (.bool true), .val (.slice (some ⟨bk, ok, none⟩) nk ck), .val (.int .i64 (j : Nat)), .val (.pointer (some ⟨bk, ok + j * 2, none⟩)), .val (.pointer (some ⟨bk, ok + j * 2, none⟩)), .val (.slice a1 b1 d1), .val (.int .i64 LK), .val (.pointer (some ⟨w.heap.size, 0, none⟩)), .val (.slice q5 m5 g5), .val (.int .i64 LY), .val (.bool true), .val (.bool true)][ix]?).getD (.any)) 48 rfl (by kernel_rfl) (by decide) (by decide) (by decide) ?_ ?_
          · refine ⟨?_, ?_, ?_, ?_, ?_, ?_, ?_, ?_, ?_, ?_, ?_, ?_, ?_, ?_, ?_, ?_, trivial⟩
            · intro a W hb0 hs hp hi; have hb := undrew hb0; clear hb0
              have t5 : sl a 5 = .int .i64 (j : Nat) := hi 5 (by decide)
              exact ite_y rfl (wp_val (sl a 5) rfl ⟨_, rfl, Below.refl _ _, t5⟩)
            · intro a W hb0 hs hp hi; have hb := undrew hb0; clear hb0
              have t0 : sl a 0 = .slice (some ⟨bk, ok, none⟩) nk ck := hi 0 (by decide)
              exact ite_y rfl (wp_val (sl a 0) rfl ⟨_, rfl, Below.refl _ _, t0⟩)
            · intro a W hb0 hs hp hi; have hb := undrew hb0; clear hb0
              have t17 : sl a 17 = .slice (some ⟨bk, ok, none⟩) nk ck := hp 1 (by decide)
              refine ite_y rfl (wp_val (.int .i64 (nk : Nat)) ?_ ?_)
              · simp only [execOp, resolve, List.map_toArray, List.map, eval_tmp, eval_func, eval_const, t17]; simp [go_sem]
              · exact ⟨_, rfl, Below.refl _ _, rfl⟩
            · intro a W hb0 hs hp hi; have hb := undrew hb0; clear hb0
              have t16 : sl a 16 = .int .i64 (j : Nat) := hp 0 (by decide)
              have t18 : sl a 18 = .int .i64 (nk : Nat) := hp 2 (by decide)
              refine ite_y rfl (wp_val (.bool true) ?_ ?_)
              · simp only [execOp, eval_tmp, eval_const, t16, t18]; simp [go_sem, jn, hjl]
              · exact ⟨_, rfl, Below.refl _ _, rfl⟩
            · intro a W hb0 hs hp hi; have hb := undrew hb0; clear hb0
              have t19 : sl a 19 = .bool true := hp 3 (by decide)
              exact ite_y rfl (wp_val (sl a 19) rfl ⟨_, rfl, Below.refl _ _, t19⟩)
            · intro a W hb0 hs hp hi; have hb := undrew hb0; clear hb0
              have tg : sl a 20 = .bool true := hp 4 (by decide)
              have t0 : sl a 0 = .slice (some ⟨bk, ok, none⟩) nk ck := hi 0 (by decide)
              exact ite_y (wanted_yes rfl rfl (by have hz : a.tmps.size = 48 := hs; rw [hz]; decide) tg) (wp_val (sl a 0) rfl ⟨_, rfl, Below.refl _ _, t0⟩)
            · intro a W hb0 hs hp hi; have hb := undrew hb0; clear hb0
              have tg : sl a 20 = .bool true := hp 4 (by decide)
              have t5 : sl a 5 = .int .i64 (j : Nat) := hi 5 (by decide)
              exact ite_y (wanted_yes rfl rfl (by have hz : a.tmps.size = 48 := hs; rw [hz]; decide) tg) (wp_val (sl a 5) rfl ⟨_, rfl, Below.refl _ _, t5⟩)
            · intro a W hb0 hs hp hi; have hb := undrew hb0; clear hb0
              have tg : sl a 20 = .bool true := hp 4 (by decide)
              have ti0 : sl a 21 = .slice (some ⟨bk, ok, none⟩) nk ck := hp 5 (by decide)
              have ti1 : sl a 22 = .int .i64 (j : Nat) := hp 6 (by decide)
              refine ite_y (wanted_yes rfl rfl (by have hz : a.tmps.size = 48 := hs; rw [hz]; decide) tg) (wp_val (.pointer (some ⟨bk, ok + j * 2, none⟩)) ?_ ?_)
              · simp only [execOp, eval_tmp, eval_const, ti0, ti1]; simp [go_sem, jn, hjl, size68]
              · exact ⟨_, rfl, Below.refl _ _, rfl⟩
            · intro a W hb0 hs hp hi; have hb := undrew hb0; clear hb0
              have tg : sl a 20 = .bool true := hp 4 (by decide)
              have t23 : sl a 23 = .pointer (some ⟨bk, ok + j * 2, none⟩) := hp 7 (by decide)
              refine ite_y (wanted_yes rfl rfl (by have hz : a.tmps.size = 48 := hs; rw [hz]; decide) tg) (wp_val (.pointer (some ⟨bk, ok + j * 2, none⟩)) ?_ ?_)
              · simp only [execOp, eval_tmp, eval_const, t23]; simp [go_sem]
              · exact ⟨_, rfl, Below.refl _ _, rfl⟩
            · intro a W hb0 hs hp hi; have hb := undrew hb0; clear hb0
              have tg : sl a 20 = .bool true := hp 4 (by decide)
              have tt : sl a 24 = .pointer (some ⟨bk, ok + j * 2, none⟩) := hp 8 (by decide)
              have dd := (hb.cell (p := ⟨bk, ok + j * 2, none⟩) (lt_of_cell E1)).trans E1
              refine ite_y (wanted_yes rfl rfl (by have hz : a.tmps.size = 48 := hs; rw [hz]; decide) tg) (wp_val (.slice a1 b1 d1) ?_ ?_)
              · simp only [execOp, eval_tmp, tt]; simp [go_sem, dd]
              · exact ⟨_, rfl, Below.refl _ _, rfl⟩
            · intro a W hb0 hs hp hi; have hb := undrew hb0; clear hb0
              have tg : sl a 20 = .bool true := hp 4 (by decide)
              have t25 : sl a 25 = .slice a1 b1 d1 := hp 9 (by decide)
              refine ite_y (wanted_yes rfl rfl (by have hz : a.tmps.size = 48 := hs; rw [hz]; decide) tg) (wp_enter 75 #[.slice a1 b1 d1] ?_ (L1.out _ (T1.out.keep hb)) ?_)
              · simp only [execOp, resolve, List.map_toArray, List.map, eval_tmp, eval_func, eval_const, t25]; simp [go_sem]
              · rintro e W' ⟨rfl, rfl⟩; exact ⟨_, rfl, _, rfl, Below.refl _ _, rfl⟩
            · intro a W hb0 hs hp hi; have hb := undrew hb0; clear hb0
              have tg : sl a 20 = .bool true := hp 4 (by decide)
              have t3 : sl a 3 = .pointer (some ⟨w.heap.size, 0, none⟩) := hi 3 (by decide)
              refine ite_y (wanted_yes rfl rfl (by have hz : a.tmps.size = 48 := hs; rw [hz]; decide) tg) (wp_val (.pointer (some ⟨w.heap.size, 0, none⟩)) ?_ ?_)
              · simp only [execOp, eval_tmp, eval_const, t3]; simp [go_sem]
              · exact ⟨_, rfl, Below.refl _ _, rfl⟩
            · intro a W hb0 hs hp hi; have hb := undrew hb0; clear hb0
              have tg : sl a 20 = .bool true := hp 4 (by decide)
              have tt : sl a 27 = .pointer (some ⟨w.heap.size, 0, none⟩) := hp 11 (by decide)
              have dd := (hb.cell (p := ⟨w.heap.size, 0, none⟩) (lt_of_cell y0)).trans y0
              refine ite_y (wanted_yes rfl rfl (by have hz : a.tmps.size = 48 := hs; rw [hz]; decide) tg) (wp_val (.slice q5 m5 g5) ?_ ?_)
              · simp only [execOp, eval_tmp, tt]; simp [go_sem, dd]
              · exact ⟨_, rfl, Below.refl _ _, rfl⟩
            · intro a W hb0 hs hp hi; have hb := undrew hb0; clear hb0
              have tg : sl a 20 = .bool true := hp 4 (by decide)
              have t28 : sl a 28 = .slice q5 m5 g5 := hp 12 (by decide)
              refine ite_y (wanted_yes rfl rfl (by have hz : a.tmps.size = 48 := hs; rw [hz]; decide) tg) (wp_enter 75 #[.slice q5 m5 g5] ?_ (HLD.out _ (YQ.out.keep hb)) ?_)
              · simp only [execOp, resolve, List.map_toArray, List.map, eval_tmp, eval_func, eval_const, t28]; simp [go_sem]
              · rintro e W' ⟨rfl, rfl⟩; exact ⟨_, rfl, _, rfl, Below.refl _ _, rfl⟩
            · intro a W hb0 hs hp hi; have hb := undrew hb0; clear hb0
              have tg : sl a 20 = .bool true := hp 4 (by decide)
              have t26 : sl a 26 = .int .i64 LK := hp 10 (by decide)
              have t29 : sl a 29 = .int .i64 LY := hp 13 (by decide)
              refine ite_y (wanted_yes rfl rfl (by have hz : a.tmps.size = 48 := hs; rw [hz]; decide) tg) (wp_val (.bool true) ?_ ?_)
              · simp only [execOp, eval_tmp, eval_const, t26, t29]; simp [go_sem, hcmp]
              · exact ⟨_, rfl, Below.refl _ _, rfl⟩
            · intro a W hb0 hs hp hi; have hb := undrew hb0; clear hb0
              have t20 : sl a 20 = .bool true := hp 4 (by decide)
              have t30 : sl a 30 = .bool true := hp 14 (by decide)
              refine ite_y rfl (wp_val (.bool true) ?_ ?_)
              · simp only [execOp, eval_tmp, eval_const, t20, t30]; simp [go_sem]
              · exact ⟨_, rfl, Below.refl _ _, rfl⟩
          · intro a w9 hb hs hd hI ht
            have ha := act_is [16, 17, 18, 19, 20, 21, 22, 23, 24, 25, 26, 27, 28, 29, 30, 31] hs hd ht (by decide)
            have t31 : sl a 31 = .bool true := hI 15 (by decide)
            simp only [List.foldl, t31] at ha
            generalize sl a 16 = u16 at ha
            generalize sl a 17 = u17 at ha
            generalize sl a 18 = u18 at ha
            generalize sl a 19 = u19 at ha
            generalize sl a 20 = u20 at ha
            generalize sl a 21 = u21 at ha
            generalize sl a 22 = u22 at ha
            generalize sl a 23 = u23 at ha
            generalize sl a 24 = u24 at ha
            generalize sl a 25 = u25 at ha
            generalize sl a 26 = u26 at ha
            generalize sl a 27 = u27 at ha
            generalize sl a 28 = u28 at ha
            generalize sl a 29 = u29 at ha
            generalize sl a 30 = u30 at ha
            simp only [Act.put, List.setIfInBounds_toArray, List.set_cons_zero, List.set_cons_succ] at ha
            rw [ha]; clear ha
            have HQ2 : Hid (Below w3.heap.size w3 w9) := bl HQ.out hb HQ.out.size
            clear hb hI E1 y0 T1 L1 YQ jn hcmp HP HQ
            go_wp2
            go_roundw
            case rel => exact ⟨j + 1, by omega, by go_num, HQ2.out, HP2.out⟩
            case measure => simp [intOf]; omega
        · have HSTOP : Hid (∀ a, K[j]? = some a → ¬ leadS a.1 < LY) := fun a ha => by rw [HKK.out] at ha; cases ha; rw [← HLK.out]; omega
          go_wp2_with fail
          refine wp_region_shapes (fun ix => ([.val (.int .i64 (j : Nat)), .val (.slice (some ⟨bk, ok, none⟩) nk ck), .val (.int .i64 (nk : Nat)), .val (.bool true), .val (.bool true), .val (.slice (some ⟨bk, ok, none⟩) nk ck), .val (.int .i64 (j : Nat)), .val (.pointer (some ⟨bk, ok + j * 2, none⟩)), .val (.pointer (some ⟨bk, ok + j * 2, none⟩)), .val (.slice a1 b1 d1), .val (.int .i64 LK), .val (.pointer (some ⟨w.heap.size, 0, none⟩)), .val (.slice q5 m5 g5), .val (.int .i64 LY), .val (.bool false), .val (.bool false)][ix]?).getD (.any)) 48 rfl (by kernel_rfl) (by decide) (by decide) (by decide) ?_ ?_
          · refine ⟨?_, ?_, ?_, ?_, ?_, ?_, ?_, ?_, ?_, ?_, ?_, ?_, ?_, ?_, ?_, ?_, trivial⟩
            · intro a W hb0 hs hp hi; have hb := undrew hb0; clear hb0
              have t5 : sl a 5 = .int .i64 (j : Nat) := hi 5 (by decide)
              exact ite_y rfl (wp_val (sl a 5) rfl ⟨_, rfl, Below.refl _ _, t5⟩)
            · intro a W hb0 hs hp hi; have hb := undrew hb0; clear hb0
              have t0 : sl a 0 = .slice (some ⟨bk, ok, none⟩) nk ck := hi 0 (by decide)
              exact ite_y rfl (wp_val (sl a 0) rfl ⟨_, rfl, Below.refl _ _, t0⟩)
            · intro a W hb0 hs hp hi; have hb := undrew hb0; clear hb0
              have t17 : sl a 17 = .slice (some ⟨bk, ok, none⟩) nk ck := hp 1 (by decide)
              refine ite_y rfl (wp_val (.int .i64 (nk : Nat)) ?_ ?_)
              · simp only [execOp, resolve, List.map_toArray, List.map, eval_tmp, eval_func, eval_const, t17]; simp [go_sem]
              · exact ⟨_, rfl, Below.refl _ _, rfl⟩
            · intro a W hb0 hs hp hi; have hb := undrew hb0; clear hb0
              have t16 : sl a 16 = .int .i64 (j : Nat) := hp 0 (by decide)
              have t18 : sl a 18 = .int .i64 (nk : Nat) := hp 2 (by decide)
              refine ite_y rfl (wp_val (.bool true) ?_ ?_)
              · simp only [execOp, eval_tmp, eval_const, t16, t18]; simp [go_sem, jn, hjl]
              · exact ⟨_, rfl, Below.refl _ _, rfl⟩
            · intro a W hb0 hs hp hi; have hb := undrew hb0; clear hb0
              have t19 : sl a 19 = .bool true := hp 3 (by decide)
              exact ite_y rfl (wp_val (sl a 19) rfl ⟨_, rfl, Below.refl _ _, t19⟩)
            · intro a W hb0 hs hp hi; have hb := undrew hb0; clear hb0
              have tg : sl a 20 = .bool true := hp 4 (by decide)
              have t0 : sl a 0 = .slice (some ⟨bk, ok, none⟩) nk ck := hi 0 (by decide)
              exact ite_y (wanted_yes rfl rfl (by have hz : a.tmps.size = 48 := hs; rw [hz]; decide) tg) (wp_val (sl a 0) rfl ⟨_, rfl, Below.refl _ _, t0⟩)
            · intro a W hb0 hs hp hi; have hb := undrew hb0; clear hb0
              have tg : sl a 20 = .bool true := hp 4 (by decide)
              have t5 : sl a 5 = .int .i64 (j : Nat) := hi 5 (by decide)
              exact ite_y (wanted_yes rfl rfl (by have hz : a.tmps.size = 48 := hs; rw [hz]; decide) tg) (wp_val (sl a 5) rfl ⟨_, rfl, Below.refl _ _, t5⟩)
            · intro a W hb0 hs hp hi; have hb := undrew hb0; clear hb0
              have tg : sl a 20 = .bool true := hp 4 (by decide)
              have ti0 : sl a 21 = .slice (some ⟨bk, ok, none⟩) nk ck := hp 5 (by decide)
              have ti1 : sl a 22 = .int .i64 (j : Nat) := hp 6 (by decide)
              refine ite_y (wanted_yes rfl rfl (by have hz : a.tmps.size = 48 := hs; rw [hz]; decide) tg) (wp_val (.pointer (some ⟨bk, ok + j * 2, none⟩)) ?_ ?_)
              · simp only [execOp, eval_tmp, eval_const, ti0, ti1]; simp [go_sem, jn, hjl, size68]
              · exact ⟨_, rfl, Below.refl _ _, rfl⟩
            · intro a W hb0 hs hp hi; have hb := undrew hb0; clear hb0
              have tg : sl a 20 = .bool true := hp 4 (by decide)
              have t23 : sl a 23 = .pointer (some ⟨bk, ok + j * 2, none⟩) := hp 7 (by decide)
              refine ite_y (wanted_yes rfl rfl (by have hz : a.tmps.size = 48 := hs; rw [hz]; decide) tg) (wp_val (.pointer (some ⟨bk, ok + j * 2, none⟩)) ?_ ?_)
              · simp only [execOp, eval_tmp, eval_const, t23]; simp [go_sem]
              · exact ⟨_, rfl, Below.refl _ _, rfl⟩
            · intro a W hb0 hs hp hi; have hb := undrew hb0; clear hb0
              have tg : sl a 20 = .bool true := hp 4 (by decide)
              have tt : sl a 24 = .pointer (some ⟨bk, ok + j * 2, none⟩) := hp 8 (by decide)
              have dd := (hb.cell (p := ⟨bk, ok + j * 2, none⟩) (lt_of_cell E1)).trans E1
              refine ite_y (wanted_yes rfl rfl (by have hz : a.tmps.size = 48 := hs; rw [hz]; decide) tg) (wp_val (.slice a1 b1 d1) ?_ ?_)
              · simp only [execOp, eval_tmp, tt]; simp [go_sem, dd]
              · exact ⟨_, rfl, Below.refl _ _, rfl⟩
            · intro a W hb0 hs hp hi; have hb := undrew hb0; clear hb0
              have tg : sl a 20 = .bool true := hp 4 (by decide)
              have t25 : sl a 25 = .slice a1 b1 d1 := hp 9 (by decide)
              refine ite_y (wanted_yes rfl rfl (by have hz : a.tmps.size = 48 := hs; rw [hz]; decide) tg) (wp_enter 75 #[.slice a1 b1 d1] ?_ (L1.out _ (T1.out.keep hb)) ?_)
              · simp only [execOp, resolve, List.map_toArray, List.map, eval_tmp, eval_func, eval_const, t25]; simp [go_sem]
              · rintro e W' ⟨rfl, rfl⟩; exact ⟨_, rfl, _, rfl, Below.refl _ _, rfl⟩
            · intro a W hb0 hs hp hi; have hb := undrew hb0; clear hb0
              have tg : sl a 20 = .bool true := hp 4 (by decide)
              have t3 : sl a 3 = .pointer (some ⟨w.heap.size, 0, none⟩) := hi 3 (by decide)
              refine ite_y (wanted_yes rfl rfl (by have hz : a.tmps.size = 48 := hs; rw [hz]; decide) tg) (wp_val (.pointer (some ⟨w.heap.size, 0, none⟩)) ?_ ?_)
              · simp only [execOp, eval_tmp, eval_const, t3]; simp [go_sem]
              · exact ⟨_, rfl, Below.refl _ _, rfl⟩
            · intro a W hb0 hs hp hi; have hb := undrew hb0; clear hb0
              have tg : sl a 20 = .bool true := hp 4 (by decide)
              have tt : sl a 27 = .pointer (some ⟨w.heap.size, 0, none⟩) := hp 11 (by decide)
              have dd := (hb.cell (p := ⟨w.heap.size, 0, none⟩) (lt_of_cell y0)).trans y0
              refine ite_y (wanted_yes rfl rfl (by have hz : a.tmps.size = 48 := hs; rw [hz]; decide) tg) (wp_val (.slice q5 m5 g5) ?_ ?_)
              · simp only [execOp, eval_tmp, tt]; simp [go_sem, dd]
              · exact ⟨_, rfl, Below.refl _ _, rfl⟩
            · intro a W hb0 hs hp hi; have hb := undrew hb0; clear hb0
              have tg : sl a 20 = .bool true := hp 4 (by decide)
              have t28 : sl a 28 = .slice q5 m5 g5 := hp 12 (by decide)
              refine ite_y (wanted_yes rfl rfl (by have hz : a.tmps.size = 48 := hs; rw [hz]; decide) tg) (wp_enter 75 #[.slice q5 m5 g5] ?_ (HLD.out _ (YQ.out.keep hb)) ?_)
              · simp only [execOp, resolve, List.map_toArray, List.map, eval_tmp, eval_func, eval_const, t28]; simp [go_sem]
              · rintro e W' ⟨rfl, rfl⟩; exact ⟨_, rfl, _, rfl, Below.refl _ _, rfl⟩
            · intro a W hb0 hs hp hi; have hb := undrew hb0; clear hb0
              have tg : sl a 20 = .bool true := hp 4 (by decide)
              have t26 : sl a 26 = .int .i64 LK := hp 10 (by decide)
              have t29 : sl a 29 = .int .i64 LY := hp 13 (by decide)
              refine ite_y (wanted_yes rfl rfl (by have hz : a.tmps.size = 48 := hs; rw [hz]; decide) tg) (wp_val (.bool false) ?_ ?_)
              · simp only [execOp, eval_tmp, eval_const, t26, t29]; simp [go_sem, hcmp]
              · exact ⟨_, rfl, Below.refl _ _, rfl⟩
            · intro a W hb0 hs hp hi; have hb := undrew hb0; clear hb0
              have t20 : sl a 20 = .bool true := hp 4 (by decide)
              have t30 : sl a 30 = .bool false := hp 14 (by decide)
              refine ite_y rfl (wp_val (.bool false) ?_ ?_)
              · simp only [execOp, eval_tmp, eval_const, t20, t30]; simp [go_sem]
              · exact ⟨_, rfl, Below.refl _ _, rfl⟩
          · intro a w9 hb hs hd hI ht
            have ha := act_is [16, 17, 18, 19, 20, 21, 22, 23, 24, 25, 26, 27, 28, 29, 30, 31] hs hd ht (by decide)
            have t31 : sl a 31 = .bool false := hI 15 (by decide)
            simp only [List.foldl, t31] at ha
            generalize sl a 16 = u16 at ha
            generalize sl a 17 = u17 at ha
            generalize sl a 18 = u18 at ha
            generalize sl a 19 = u19 at ha
            generalize sl a 20 = u20 at ha
            generalize sl a 21 = u21 at ha
            generalize sl a 22 = u22 at ha
            generalize sl a 23 = u23 at ha
            generalize sl a 24 = u24 at ha
            generalize sl a 25 = u25 at ha
            generalize sl a 26 = u26 at ha
            generalize sl a 27 = u27 at ha
            generalize sl a 28 = u28 at ha
            generalize sl a 29 = u29 at ha
            generalize sl a 30 = u30 at ha
            simp only [Act.put, List.setIfInBounds_toArray, List.set_cons_zero, List.set_cons_succ] at ha
            rw [ha]; clear ha
            obtain ⟨w4, hw4⟩ : ∃ w4, w4 = w9 := ⟨_, rfl⟩
            have h34 : Below w3.heap.size w3 w4 := by rw [hw4]; exact bl HQ.out hb HQ.out.size
            rw [← hw4]
            have X4 : Hid (w4.heap[w.heap.size]? = some (.cells #[.slice q5 m5 g5, .slice q6 m6 g6] 68 (0, 0))) := (h34.block _ (blk_lt N3.out.1)).trans N3.out.1
            have Y5 : Hid (Sl B8 w4 q5 m5 g5 Y.1) := N3.out.2.1.keep h34
            have Y6 : Hid (Sl B8 w4 q6 m6 g6 Y.2) := N3.out.2.2.1.keep h34
            have B4 : Hid (Below w.heap.size w w4) := bl N3.out.2.2.2 h34 N3.out.2.2.2.size
            obtain ⟨vs, hvs, hvk⟩ := (HK.out.keep B4.out).vals
            have VS := Lib.hid hvs; have VK := Lib.hid hvk
            have HRES : Hid (insF K x = K.take j ++ Y :: K.drop j) := by
              show _ = _
              obtain ⟨g1', g2'⟩ := take_while_at (p := fun r => decide (leadS r.1 < LY)) (l := K) (j := j) (by rw [HLEN.out]; exact hj) (fun i a hi ha => decide_eq_true (HP.out i a hi ha)) (fun a ha => decide_eq_false (by have := HSTOP.out a ha; omega))
              rw [HINS.out, if_neg (by omega), g1', g2']
            clear h34 hb hI hvs hvk N3 HP HSTOP HQ
            try clear E1 y0 T1 L1 YQ jn hcmp
            clear hw4
            have HT := Lib.hid (VS.out.take hj)
            have HD := Lib.hid (VS.out.drop hj)
            have hjc : j < ck := by have := HK.out.le; omega
            have hnc : nk ≤ ck := HK.out.le
            have hjj : j * 2 < ck * 2 := by omega
            have HUS : Hid (vs.drop j = vs.drop j) := rfl
            go_wp2_with (at_builtin; refine wpList_append_two w4 rfl (.tmp 34) (.tmp 37) 55 rfl w4.heap.size 68 r0 _ 48 Try.underlying55 hr0 hrz hr1' hr2' rfl (.slice none 0 0) 0 [] rfl (World.ownsRow_nil _ _ _ _) (some ⟨bk, ok, none⟩) j ck (vs.take j) rfl HT.out (by unfold maxLen; omega) (by omega) (Nat.le_refl _) ?_)
            intro v5 w5 ho5 hg5
            obtain ⟨qa, ca, rfl⟩ := owns_shape ho5
            try simp only [Nat.zero_add, List.nil_append] at ho5
            have BA : Hid (Below w4.heap.size w4 w5) := (Below.refl _ _).grown hg5 (Nat.le_refl _) (by simp [Value.ownBlock])
            have OA := Lib.hid ho5
            have X5 : Hid (w5.heap[w.heap.size]? = some (.cells #[.slice q5 m5 g5, .slice q6 m6 g6] 68 (0, 0))) := (BA.out.block _ (blk_lt X4.out)).trans X4.out
            obtain ⟨x0, x1⟩ := cells2 X5.out
            have OA2 : Hid (∀ o, (w5.alloc o).ownsRow w4.heap.size 68 2 (.slice qa j ca) j (fl2 (vs.take j))) := fun o => owns_keep OA.out (al (Below.refl _ _) (Nat.le_refl _))
            have sA := BA.out.size
            clear ho5 hg5
            try rw [Nat.zero_add]
            go_wp2_with (at_builtin; refine wpList_append_own _ rfl (.tmp 39) (.tmp 41) 55 rfl w4.heap.size 68 r0 _ 2 48 Try.underlying55 hr0 hrz hr1' hr2' rfl (by omega) _ j (fl2 (vs.take j)) rfl (OA2.out _) ⟨w5.heap.size, 0, none⟩ 1 1 [.slice q5 m5 g5, .slice q6 m6 g6] rfl rfl ?_ ?_ ?_ ?_ ?_ ?_)
            · intro j' y hj'
              rw [Addr.add_lit, Nat.zero_add, cell_of_row _ _ j' _ _ _ (hnew rfl)]
              match j' with
              | 0 => simpa using hj'
              | 1 => simpa using hj'
              | j' + 2 => simp at hj'
            · intro y hy; simp at hy; rcases hy with rfl | rfl <;> rfl
            · unfold maxLen; omega
            · omega
            · simp; omega
            intro v6 w6 ho6 hg6 _
            obtain ⟨qb, cb, rfl⟩ := owns_shape ho6
            have BB : Hid (Below w4.heap.size w4 w6) := (al BA.out sA).grown hg6 (by simp; omega) (fun kk hk => (OA.out.lt kk hk).1)
            have OB := Lib.hid ho6
            have HD6 := Lib.hid (HD.out.keep BB.out)
            have sB := BB.out.size
            clear ho6 hg6 x0 x1 OA2
            go_wp2_with (at_builtin; refine wpList_append_two w6 rfl (.tmp 43) (.tmp 46) 55 rfl w4.heap.size 68 r0 _ 48 Try.underlying55 hr0 hrz hr1' hr2' rfl (.slice qb (j + 1) cb) (j + 1) _ rfl OB.out (some ⟨bk, ok + j * 2, none⟩) (nk - j) (ck - j) (vs.drop j) rfl HD6.out (by unfold maxLen; omega) (by omega) sB ?_)
            intro v7 w7 ho7 hg7
            obtain ⟨qc, cc, rfl⟩ := owns_shape ho7
            have BC : Hid (Below w4.heap.size w4 w7) := BB.out.grown hg7 sB (fun kk hk => (OB.out.lt kk hk).1)
            have FIN : Hid (RwS w7 qc (j + 1 + (nk - j)) cc (K.take j ++ Y :: K.drop j)) := by
              have ho7' : w7.ownsRow w4.heap.size 68 2 (.slice qc (j + 1 + (nk - j)) cc) (j + 1 + (nk - j)) (fl2 (vs.take j ++ (Value.slice q5 m5 g5, Value.slice q6 m6 g6) :: vs.drop j)) := by
                have e : fl2 (vs.take j ++ (Value.slice q5 m5 g5, Value.slice q6 m6 g6) :: vs.drop j) = fl2 (vs.take j) ++ [Value.slice q5 m5 g5, Value.slice q6 m6 g6] ++ fl2 (vs.drop j) := by
                  rw [fl2_append, List.append_assoc]; rfl
                rw [e]
                try rw [← HUS.out]
                first | exact ho7 | simpa [fl2] using ho7
              have hvl := VS.out.len
              refine RwS.of_owns ho7' (by rw [List.length_append, List.length_cons, List.length_take, List.length_drop, HLEN.out]; omega) ?_
              intro i k' hi
              have hkl := HLEN.out
              by_cases h1 : i < j
              · rw [List.getElem?_append_left (by rw [List.length_take]; omega), List.getElem?_take, if_pos h1] at hi
                obtain ⟨u, hu⟩ : ∃ u, vs[i]? = some u := ⟨_, List.getElem?_eq_getElem (by omega)⟩
                obtain ⟨k2, hk2, hp⟩ := VK.out i u hu
                rw [hi] at hk2; cases hk2
                exact ⟨u, by rw [List.getElem?_append_left (by rw [List.length_take]; omega), List.getElem?_take, if_pos h1]; exact hu, hp.keep BC.out⟩
              · have lt1 : (K.take j).length = j := by rw [List.length_take]; omega
                have lt2 : (vs.take j).length = j := by rw [List.length_take]; omega
                by_cases h2 : i = j
                · subst h2
                  rw [List.getElem?_append_right (by omega), lt1, Nat.sub_self, List.getElem?_cons_zero] at hi
                  cases hi
                  exact ⟨_, by rw [List.getElem?_append_right (by omega), lt2, Nat.sub_self, List.getElem?_cons_zero], q5, m5, g5, q6, m6, g6, rfl, Y5.out.keep BC.out, Y6.out.keep BC.out⟩
                · obtain ⟨d, hd⟩ : ∃ d, i - j = d + 1 := ⟨i - j - 1, by omega⟩
                  rw [List.getElem?_append_right (by omega), lt1, hd, List.getElem?_cons_succ, List.getElem?_drop] at hi
                  obtain ⟨u, hu⟩ : ∃ u, vs[j + d]? = some u := by
                    have := (List.getElem?_eq_some_iff.1 hi).1
                    exact ⟨_, List.getElem?_eq_getElem (by omega)⟩
                  obtain ⟨k2, hk2, hp⟩ := VK.out (j + d) u hu
                  rw [hi] at hk2; cases hk2
                  exact ⟨u, by rw [List.getElem?_append_right (by omega), lt2, hd, List.getElem?_cons_succ, List.getElem?_drop]; exact hu, hp.keep BC.out⟩
            have BF : Hid (Below w.heap.size w w7) := bl B4.out BC.out B4.out.size
            clear ho7 hg7
            go_wp2
            go_ret
            refine ⟨qc, _, cc, ?_, rfl, by rw [HRES.out]; exact FIN.out, BF.out⟩
            rw [HRES.out, List.length_append, List.length_cons, List.length_take, List.length_drop, HLEN.out]; omega
      · have hjn : j = nk := by omega
        subst hjn
        have HSTOP : Hid (∀ a, K[j]? = some a → ¬ leadS a.1 < LY) := fun a ha => by
          have := (List.getElem?_eq_some_iff.1 ha).1
          rw [HLEN.out] at this; omega
        have jn : (j : Int) ≤ (j : Int) := Int.le_refl _
        by_cases hj0 : j = 0
        · subst hj0
          go_wp2_with fail
          refine wp_region_shapes (fun ix => ([.val (.int .i64 0), .val (.slice pk 0 ck), .val (.int .i64 0), .val (.bool false), .val (.bool false), .val (undef), .val (undef), .val (undef), .val (undef), .val (undef), .val (undef), .val (undef), .val (undef), .val (undef), .val (undef), .val (.bool false)][ix]?).getD (.any)) 48 rfl (by kernel_rfl) (by decide) (by decide) (by decide) ?_ ?_
          · refine ⟨?_, ?_, ?_, ?_, ?_, ?_, ?_, ?_, ?_, ?_, ?_, ?_, ?_, ?_, ?_, ?_, trivial⟩
            · intro a W hb0 hs hp hi; have hb := undrew hb0; clear hb0
              have t5 : sl a 5 = .int .i64 0 := hi 5 (by decide)
              exact ite_y rfl (wp_val (sl a 5) rfl ⟨_, rfl, Below.refl _ _, t5⟩)
            · intro a W hb0 hs hp hi; have hb := undrew hb0; clear hb0
              have t0 : sl a 0 = .slice pk 0 ck := hi 0 (by decide)
              exact ite_y rfl (wp_val (sl a 0) rfl ⟨_, rfl, Below.refl _ _, t0⟩)
            · intro a W hb0 hs hp hi; have hb := undrew hb0; clear hb0
              have t17 : sl a 17 = .slice pk 0 ck := hp 1 (by decide)
              refine ite_y rfl (wp_val (.int .i64 0) ?_ ?_)
              · simp only [execOp, resolve, List.map_toArray, List.map, eval_tmp, eval_func, eval_const, t17]; simp [go_sem]
              · exact ⟨_, rfl, Below.refl _ _, rfl⟩
            · intro a W hb0 hs hp hi; have hb := undrew hb0; clear hb0
              have t16 : sl a 16 = .int .i64 0 := hp 0 (by decide)
              have t18 : sl a 18 = .int .i64 0 := hp 2 (by decide)
              refine ite_y rfl (wp_val (.bool false) ?_ ?_)
              · simp only [execOp, eval_tmp, eval_const, t16, t18]; simp [go_sem]
              · exact ⟨_, rfl, Below.refl _ _, rfl⟩
            · intro a W hb0 hs hp hi; have hb := undrew hb0; clear hb0
              have t19 : sl a 19 = .bool false := hp 3 (by decide)
              exact ite_y rfl (wp_val (sl a 19) rfl ⟨_, rfl, Below.refl _ _, t19⟩)
            · intro a W hb0 hs hp hi; have hb := undrew hb0; clear hb0
              have tg : sl a 20 = .bool false := hp 4 (by decide)
              exact ite_n (wanted_no rfl rfl (by have hz : a.tmps.size = 48 := hs; rw [hz]; decide) tg (by decide)) rfl
            · intro a W hb0 hs hp hi; have hb := undrew hb0; clear hb0
              have tg : sl a 20 = .bool false := hp 4 (by decide)
              exact ite_n (wanted_no rfl rfl (by have hz : a.tmps.size = 48 := hs; rw [hz]; decide) tg (by decide)) rfl
            · intro a W hb0 hs hp hi; have hb := undrew hb0; clear hb0
              have tg : sl a 20 = .bool false := hp 4 (by decide)
              exact ite_n (wanted_no rfl rfl (by have hz : a.tmps.size = 48 := hs; rw [hz]; decide) tg (by decide)) rfl
            · intro a W hb0 hs hp hi; have hb := undrew hb0; clear hb0
              have tg : sl a 20 = .bool false := hp 4 (by decide)
              exact ite_n (wanted_no rfl rfl (by have hz : a.tmps.size = 48 := hs; rw [hz]; decide) tg (by decide)) rfl
            · intro a W hb0 hs hp hi; have hb := undrew hb0; clear hb0
              have tg : sl a 20 = .bool false := hp 4 (by decide)
              exact ite_n (wanted_no rfl rfl (by have hz : a.tmps.size = 48 := hs; rw [hz]; decide) tg (by decide)) rfl
            · intro a W hb0 hs hp hi; have hb := undrew hb0; clear hb0
              have tg : sl a 20 = .bool false := hp 4 (by decide)
              exact ite_n (wanted_no rfl rfl (by have hz : a.tmps.size = 48 := hs; rw [hz]; decide) tg (by decide)) rfl
            · intro a W hb0 hs hp hi; have hb := undrew hb0; clear hb0
              have tg : sl a 20 = .bool false := hp 4 (by decide)
              exact ite_n (wanted_no rfl rfl (by have hz : a.tmps.size = 48 := hs; rw [hz]; decide) tg (by decide)) rfl
            · intro a W hb0 hs hp hi; have hb := undrew hb0; clear hb0
              have tg : sl a 20 = .bool false := hp 4 (by decide)
              exact ite_n (wanted_no rfl rfl (by have hz : a.tmps.size = 48 := hs; rw [hz]; decide) tg (by decide)) rfl
            · intro a W hb0 hs hp hi; have hb := undrew hb0; clear hb0
              have tg : sl a 20 = .bool false := hp 4 (by decide)
              exact ite_n (wanted_no rfl rfl (by have hz : a.tmps.size = 48 := hs; rw [hz]; decide) tg (by decide)) rfl
            · intro a W hb0 hs hp hi; have hb := undrew hb0; clear hb0
              have tg : sl a 20 = .bool false := hp 4 (by decide)
              exact ite_n (wanted_no rfl rfl (by have hz : a.tmps.size = 48 := hs; rw [hz]; decide) tg (by decide)) rfl
            · intro a W hb0 hs hp hi; have hb := undrew hb0; clear hb0
              have t20 : sl a 20 = .bool false := hp 4 (by decide)
              have t30 : sl a 30 = undef := hp 14 (by decide)
              refine ite_y rfl (wp_val (.bool false) ?_ ?_)
              · simp only [execOp, eval_tmp, eval_const, t20, t30]; simp [go_sem]
              · exact ⟨_, rfl, Below.refl _ _, rfl⟩
          · intro a w9 hb hs hd hI ht
            have ha := act_is [16, 17, 18, 19, 20, 21, 22, 23, 24, 25, 26, 27, 28, 29, 30, 31] hs hd ht (by decide)
            have t31 : sl a 31 = .bool false := hI 15 (by decide)
            simp only [List.foldl, t31] at ha
            generalize sl a 16 = u16 at ha
            generalize sl a 17 = u17 at ha
            generalize sl a 18 = u18 at ha
            generalize sl a 19 = u19 at ha
            generalize sl a 20 = u20 at ha
            generalize sl a 21 = u21 at ha
            generalize sl a 22 = u22 at ha
            generalize sl a 23 = u23 at ha
            generalize sl a 24 = u24 at ha
            generalize sl a 25 = u25 at ha
            generalize sl a 26 = u26 at ha
            generalize sl a 27 = u27 at ha
            generalize sl a 28 = u28 at ha
            generalize sl a 29 = u29 at ha
            generalize sl a 30 = u30 at ha
            simp only [Act.put, List.setIfInBounds_toArray, List.set_cons_zero, List.set_cons_succ] at ha
            rw [ha]; clear ha
            obtain ⟨w4, hw4⟩ : ∃ w4, w4 = w9 := ⟨_, rfl⟩
            have h34 : Below w3.heap.size w3 w4 := by rw [hw4]; exact bl HQ.out hb HQ.out.size
            rw [← hw4]
            have X4 : Hid (w4.heap[w.heap.size]? = some (.cells #[.slice q5 m5 g5, .slice q6 m6 g6] 68 (0, 0))) := (h34.block _ (blk_lt N3.out.1)).trans N3.out.1
            have Y5 : Hid (Sl B8 w4 q5 m5 g5 Y.1) := N3.out.2.1.keep h34
            have Y6 : Hid (Sl B8 w4 q6 m6 g6 Y.2) := N3.out.2.2.1.keep h34
            have B4 : Hid (Below w.heap.size w w4) := bl N3.out.2.2.2 h34 N3.out.2.2.2.size
            have hK0 : K = [] := List.length_eq_zero_iff.1 HLEN.out
            have HRES : Hid (insF K x = [Y]) := by show _ = _; rw [HINS.out, if_neg (by omega), hK0]; rfl
            clear h34 hb hI N3 HP HSTOP HQ jn hK0 hw4
            cases pk with
            | none =>
              obtain ⟨_, hc0⟩ := HK.out.nil rfl
              subst hc0
              have HT : Hid (RwV w4 none 0 0 []) := RwV.none (fun _ => rfl) (by simp [maxLen])
              have HD : Hid (RwV w4 none 0 0 []) := RwV.none (fun _ => rfl) (by simp [maxLen])
              go_wp2_with (at_builtin; refine wpList_append_two w4 rfl (.tmp 34) (.tmp 37) 55 rfl w4.heap.size 68 r0 _ 48 Try.underlying55 hr0 hrz hr1' hr2' rfl (.slice none 0 0) 0 [] rfl (World.ownsRow_nil _ _ _ _) none 0 0 [] rfl HT.out (by decide) (by decide) (Nat.le_refl _) ?_)
              intro v5 w5 ho5 hg5
              obtain ⟨qa, ca, rfl⟩ := owns_shape ho5
              have BA : Hid (Below w4.heap.size w4 w5) := (Below.refl _ _).grown hg5 (Nat.le_refl _) (by simp [Value.ownBlock])
              have OA : Hid (w5.ownsRow w4.heap.size 68 2 (.slice qa 0 ca) 0 []) := by show World.ownsRow _ _ _ _ _ _ _; simpa [fl2] using ho5
              have X5 : Hid (w5.heap[w.heap.size]? = some (.cells #[.slice q5 m5 g5, .slice q6 m6 g6] 68 (0, 0))) := (BA.out.block _ (blk_lt X4.out)).trans X4.out
              obtain ⟨x0, x1⟩ := cells2 X5.out
              have OA2 : Hid (∀ o, (w5.alloc o).ownsRow w4.heap.size 68 2 (.slice qa 0 ca) 0 []) := fun o => owns_keep OA.out (al (Below.refl _ _) (Nat.le_refl _))
              have sA := BA.out.size
              clear ho5 hg5
              try simp only [Nat.add_zero]
              go_wp2_with (at_builtin; refine wpList_append_own _ rfl (.tmp 39) (.tmp 41) 55 rfl w4.heap.size 68 r0 _ 2 48 Try.underlying55 hr0 hrz hr1' hr2' rfl (by omega) _ 0 [] rfl (OA2.out _) ⟨w5.heap.size, 0, none⟩ 1 1 [.slice q5 m5 g5, .slice q6 m6 g6] rfl rfl (two_cells rfl) (two_ones _ _ _ _ _ _) (by decide) (by decide) (by simp; omega) ?_)
              intro v6 w6 ho6 hg6 _
              obtain ⟨qb, cb, rfl⟩ := owns_shape ho6
              have BB : Hid (Below w4.heap.size w4 w6) := (al BA.out sA).grown hg6 (by simp; omega) (fun kk hk => (OA.out.lt kk hk).1)
              have OB : Hid (w6.ownsRow w4.heap.size 68 2 (.slice qb 1 cb) 1 [.slice q5 m5 g5, .slice q6 m6 g6]) := by show World.ownsRow _ _ _ _ _ _ _; simpa using ho6
              have HD6 := Lib.hid (HD.out.keep BB.out)
              have sB := BB.out.size
              clear ho6 hg6 x0 x1 OA2
              try simp only [Nat.zero_add]
              go_wp2_with (at_builtin; refine wpList_append_two w6 rfl (.tmp 43) (.tmp 46) 55 rfl w4.heap.size 68 r0 _ 48 Try.underlying55 hr0 hrz hr1' hr2' rfl (.slice qb 1 cb) 1 _ rfl OB.out none 0 0 [] rfl HD6.out (by decide) (by decide) sB ?_)
              intro v7 w7 ho7 hg7
              obtain ⟨qc, cc, rfl⟩ := owns_shape ho7
              have BC : Hid (Below w4.heap.size w4 w7) := BB.out.grown hg7 sB (fun kk hk => (OB.out.lt kk hk).1)
              have FIN : Hid (RwS w7 qc 1 cc [Y]) := by
                have h7 : w7.ownsRow w4.heap.size 68 2 (.slice qc 1 cc) 1 (fl2 [(Value.slice q5 m5 g5, Value.slice q6 m6 g6)]) := by simpa [fl2] using ho7
                refine RwS.of_owns h7 rfl (fun i k' hi => ?_)
                match i with
                | 0 =>
                  obtain rfl : Y = k' := by simpa using hi
                  exact ⟨_, rfl, q5, m5, g5, q6, m6, g6, rfl, Y5.out.keep BC.out, Y6.out.keep BC.out⟩
                | i + 1 => simp at hi
              have BF : Hid (Below w.heap.size w w7) := bl B4.out BC.out B4.out.size
              clear ho7 hg7
              try simp only [Nat.add_zero]
              go_wp2
              go_ret
              exact ⟨qc, 1, cc, by rw [HRES.out]; rfl, rfl, by rw [HRES.out]; exact FIN.out, BF.out⟩
            | some ad =>
              obtain ⟨ab, ao, asp⟩ := ad
              have hmax := HK.out.max
              have HT : Hid (RwV w4 (some ⟨ab, ao, asp⟩) 0 ck []) := RwV.none (fun e => (by cases e)) hmax
              by_cases hc0 : ck = 0
              · subst hc0
                have HD : Hid (RwV w4 (some ⟨ab, ao, asp⟩) 0 0 []) := RwV.none (fun e => (by cases e)) (by simp [maxLen])
                go_wp2_with (at_builtin; refine wpList_append_two w4 rfl (.tmp 34) (.tmp 37) 55 rfl w4.heap.size 68 r0 _ 48 Try.underlying55 hr0 hrz hr1' hr2' rfl (.slice none 0 0) 0 [] rfl (World.ownsRow_nil _ _ _ _) (some ⟨ab, ao, asp⟩) 0 0 [] rfl HT.out (by decide) (by decide) (Nat.le_refl _) ?_)
                intro v5 w5 ho5 hg5
                obtain ⟨qa, ca, rfl⟩ := owns_shape ho5
                have BA : Hid (Below w4.heap.size w4 w5) := (Below.refl _ _).grown hg5 (Nat.le_refl _) (by simp [Value.ownBlock])
                have OA : Hid (w5.ownsRow w4.heap.size 68 2 (.slice qa 0 ca) 0 []) := by show World.ownsRow _ _ _ _ _ _ _; simpa [fl2] using ho5
                have X5 : Hid (w5.heap[w.heap.size]? = some (.cells #[.slice q5 m5 g5, .slice q6 m6 g6] 68 (0, 0))) := (BA.out.block _ (blk_lt X4.out)).trans X4.out
                obtain ⟨x0, x1⟩ := cells2 X5.out
                have OA2 : Hid (∀ o, (w5.alloc o).ownsRow w4.heap.size 68 2 (.slice qa 0 ca) 0 []) := fun o => owns_keep OA.out (al (Below.refl _ _) (Nat.le_refl _))
                have sA := BA.out.size
                clear ho5 hg5
                try simp only [Nat.add_zero]
                go_wp2_with (at_builtin; refine wpList_append_own _ rfl (.tmp 39) (.tmp 41) 55 rfl w4.heap.size 68 r0 _ 2 48 Try.underlying55 hr0 hrz hr1' hr2' rfl (by omega) _ 0 [] rfl (OA2.out _) ⟨w5.heap.size, 0, none⟩ 1 1 [.slice q5 m5 g5, .slice q6 m6 g6] rfl rfl (two_cells rfl) (two_ones _ _ _ _ _ _) (by decide) (by decide) (by simp; omega) ?_)
                intro v6 w6 ho6 hg6 _
                obtain ⟨qb, cb, rfl⟩ := owns_shape ho6
                have BB : Hid (Below w4.heap.size w4 w6) := (al BA.out sA).grown hg6 (by simp; omega) (fun kk hk => (OA.out.lt kk hk).1)
                have OB : Hid (w6.ownsRow w4.heap.size 68 2 (.slice qb 1 cb) 1 [.slice q5 m5 g5, .slice q6 m6 g6]) := by show World.ownsRow _ _ _ _ _ _ _; simpa using ho6
                have HD6 := Lib.hid (HD.out.keep BB.out)
                have sB := BB.out.size
                clear ho6 hg6 x0 x1 OA2
                try simp only [Nat.zero_add]
                go_wp2_with (at_builtin; refine wpList_append_two w6 rfl (.tmp 43) (.tmp 46) 55 rfl w4.heap.size 68 r0 _ 48 Try.underlying55 hr0 hrz hr1' hr2' rfl (.slice qb 1 cb) 1 _ rfl OB.out (some ⟨ab, ao, asp⟩) 0 0 [] rfl HD6.out (by decide) (by decide) sB ?_)
                intro v7 w7 ho7 hg7
                obtain ⟨qc, cc, rfl⟩ := owns_shape ho7
                have BC : Hid (Below w4.heap.size w4 w7) := BB.out.grown hg7 sB (fun kk hk => (OB.out.lt kk hk).1)
                have FIN : Hid (RwS w7 qc 1 cc [Y]) := by
                  have h7 : w7.ownsRow w4.heap.size 68 2 (.slice qc 1 cc) 1 (fl2 [(Value.slice q5 m5 g5, Value.slice q6 m6 g6)]) := by simpa [fl2] using ho7
                  refine RwS.of_owns h7 rfl (fun i k' hi => ?_)
                  match i with
                  | 0 =>
                    obtain rfl : Y = k' := by simpa using hi
                    exact ⟨_, rfl, q5, m5, g5, q6, m6, g6, rfl, Y5.out.keep BC.out, Y6.out.keep BC.out⟩
                  | i + 1 => simp at hi
                have BF : Hid (Below w.heap.size w w7) := bl B4.out BC.out B4.out.size
                clear ho7 hg7
                try simp only [Nat.add_zero]
                go_wp2
                go_ret
                exact ⟨qc, 1, cc, by rw [HRES.out]; rfl, rfl, by rw [HRES.out]; exact FIN.out, BF.out⟩
              · have hcp : 0 < ck := by omega
                have HD : Hid (RwV w4 (some ⟨ab, ao, asp⟩) 0 ck []) := RwV.none (fun e => (by cases e)) hmax
                go_wp2_with (at_builtin; refine wpList_append_two w4 rfl (.tmp 34) (.tmp 37) 55 rfl w4.heap.size 68 r0 _ 48 Try.underlying55 hr0 hrz hr1' hr2' rfl (.slice none 0 0) 0 [] rfl (World.ownsRow_nil _ _ _ _) (some ⟨ab, ao, asp⟩) 0 ck [] rfl HT.out (by decide) (by decide) (Nat.le_refl _) ?_)
                intro v5 w5 ho5 hg5
                obtain ⟨qa, ca, rfl⟩ := owns_shape ho5
                have BA : Hid (Below w4.heap.size w4 w5) := (Below.refl _ _).grown hg5 (Nat.le_refl _) (by simp [Value.ownBlock])
                have OA : Hid (w5.ownsRow w4.heap.size 68 2 (.slice qa 0 ca) 0 []) := by show World.ownsRow _ _ _ _ _ _ _; simpa [fl2] using ho5
                have X5 : Hid (w5.heap[w.heap.size]? = some (.cells #[.slice q5 m5 g5, .slice q6 m6 g6] 68 (0, 0))) := (BA.out.block _ (blk_lt X4.out)).trans X4.out
                obtain ⟨x0, x1⟩ := cells2 X5.out
                have OA2 : Hid (∀ o, (w5.alloc o).ownsRow w4.heap.size 68 2 (.slice qa 0 ca) 0 []) := fun o => owns_keep OA.out (al (Below.refl _ _) (Nat.le_refl _))
                have sA := BA.out.size
                clear ho5 hg5
                try simp only [Nat.add_zero]
                go_wp2_with (at_builtin; refine wpList_append_own _ rfl (.tmp 39) (.tmp 41) 55 rfl w4.heap.size 68 r0 _ 2 48 Try.underlying55 hr0 hrz hr1' hr2' rfl (by omega) _ 0 [] rfl (OA2.out _) ⟨w5.heap.size, 0, none⟩ 1 1 [.slice q5 m5 g5, .slice q6 m6 g6] rfl rfl (two_cells rfl) (two_ones _ _ _ _ _ _) (by decide) (by decide) (by simp; omega) ?_)
                intro v6 w6 ho6 hg6 _
                obtain ⟨qb, cb, rfl⟩ := owns_shape ho6
                have BB : Hid (Below w4.heap.size w4 w6) := (al BA.out sA).grown hg6 (by simp; omega) (fun kk hk => (OA.out.lt kk hk).1)
                have OB : Hid (w6.ownsRow w4.heap.size 68 2 (.slice qb 1 cb) 1 [.slice q5 m5 g5, .slice q6 m6 g6]) := by show World.ownsRow _ _ _ _ _ _ _; simpa using ho6
                have HD6 := Lib.hid (HD.out.keep BB.out)
                have sB := BB.out.size
                clear ho6 hg6 x0 x1 OA2
                try simp only [Nat.zero_add]
                go_wp2_with (at_builtin; refine wpList_append_two w6 rfl (.tmp 43) (.tmp 46) 55 rfl w4.heap.size 68 r0 _ 48 Try.underlying55 hr0 hrz hr1' hr2' rfl (.slice qb 1 cb) 1 _ rfl OB.out (some ⟨ab, ao, asp⟩) 0 ck [] rfl HD6.out (by decide) (by decide) sB ?_)
                intro v7 w7 ho7 hg7
                obtain ⟨qc, cc, rfl⟩ := owns_shape ho7
                have BC : Hid (Below w4.heap.size w4 w7) := BB.out.grown hg7 sB (fun kk hk => (OB.out.lt kk hk).1)
                have FIN : Hid (RwS w7 qc 1 cc [Y]) := by
                  have h7 : w7.ownsRow w4.heap.size 68 2 (.slice qc 1 cc) 1 (fl2 [(Value.slice q5 m5 g5, Value.slice q6 m6 g6)]) := by simpa [fl2] using ho7
                  refine RwS.of_owns h7 rfl (fun i k' hi => ?_)
                  match i with
                  | 0 =>
                    obtain rfl : Y = k' := by simpa using hi
                    exact ⟨_, rfl, q5, m5, g5, q6, m6, g6, rfl, Y5.out.keep BC.out, Y6.out.keep BC.out⟩
                  | i + 1 => simp at hi
                have BF : Hid (Below w.heap.size w w7) := bl B4.out BC.out B4.out.size
                clear ho7 hg7
                try simp only [Nat.add_zero]
                go_wp2
                go_ret
                exact ⟨qc, 1, cc, by rw [HRES.out]; rfl, rfl, by rw [HRES.out]; exact FIN.out, BF.out⟩
        · obtain ⟨bk, ok, rfl⟩ : ∃ b o, pk = some ⟨b, o, none⟩ := by
            obtain ⟨k0, hk0⟩ : ∃ k0, K[0]? = some k0 := ⟨_, List.getElem?_eq_getElem (by rw [HLEN.out]; omega)⟩
            obtain ⟨b, o, _, _, _, _, _, _, e, _⟩ := HK.out.row 0 k0 hk0
            exact ⟨b, o, e⟩
          go_wp2_with fail
          refine wp_region_shapes (fun ix => ([.val (.int .i64 (j : Nat)), .val (.slice (some ⟨bk, ok, none⟩) j ck), .val (.int .i64 (j : Nat)), .val (.bool false), .val (.bool false), .val (undef), .val (undef), .val (undef), .val (undef), .val (undef), .val (undef), .val (undef), .val (undef), .val (undef), .val (undef), .val (.bool false)][ix]?).getD (.any)) 48 rfl (by kernel_rfl) (by decide) (by decide) (by decide) ?_ ?_
          · refine ⟨?_, ?_, ?_, ?_, ?_, ?_, ?_, ?_, ?_, ?_, ?_, ?_, ?_, ?_, ?_, ?_, trivial⟩
            · intro a W hb0 hs hp hi; have hb := undrew hb0; clear hb0
              have t5 : sl a 5 = .int .i64 (j : Nat) := hi 5 (by decide)
              exact ite_y rfl (wp_val (sl a 5) rfl ⟨_, rfl, Below.refl _ _, t5⟩)
            · intro a W hb0 hs hp hi; have hb := undrew hb0; clear hb0
              have t0 : sl a 0 = .slice (some ⟨bk, ok, none⟩) j ck := hi 0 (by decide)
              exact ite_y rfl (wp_val (sl a 0) rfl ⟨_, rfl, Below.refl _ _, t0⟩)
            · intro a W hb0 hs hp hi; have hb := undrew hb0; clear hb0
              have t17 : sl a 17 = .slice (some ⟨bk, ok, none⟩) j ck := hp 1 (by decide)
              refine ite_y rfl (wp_val (.int .i64 (j : Nat)) ?_ ?_)
              · simp only [execOp, resolve, List.map_toArray, List.map, eval_tmp, eval_func, eval_const, t17]; simp [go_sem]
              · exact ⟨_, rfl, Below.refl _ _, rfl⟩
            · intro a W hb0 hs hp hi; have hb := undrew hb0; clear hb0
              have t16 : sl a 16 = .int .i64 (j : Nat) := hp 0 (by decide)
              have t18 : sl a 18 = .int .i64 (j : Nat) := hp 2 (by decide)
              refine ite_y rfl (wp_val (.bool false) ?_ ?_)
              · simp only [execOp, eval_tmp, eval_const, t16, t18]; simp [go_sem]
              · exact ⟨_, rfl, Below.refl _ _, rfl⟩
            · intro a W hb0 hs hp hi; have hb := undrew hb0; clear hb0
              have t19 : sl a 19 = .bool false := hp 3 (by decide)
              exact ite_y rfl (wp_val (sl a 19) rfl ⟨_, rfl, Below.refl _ _, t19⟩)
            · intro a W hb0 hs hp hi; have hb := undrew hb0; clear hb0
              have tg : sl a 20 = .bool false := hp 4 (by decide)
              exact ite_n (wanted_no rfl rfl (by have hz : a.tmps.size = 48 := hs; rw [hz]; decide) tg (by decide)) rfl
            · intro a W hb0 hs hp hi; have hb := undrew hb0; clear hb0
              have tg : sl a 20 = .bool false := hp 4 (by decide)
              exact ite_n (wanted_no rfl rfl (by have hz : a.tmps.size = 48 := hs; rw [hz]; decide) tg (by decide)) rfl
            · intro a W hb0 hs hp hi; have hb := undrew hb0; clear hb0
              have tg : sl a 20 = .bool false := hp 4 (by decide)
              exact ite_n (wanted_no rfl rfl (by have hz : a.tmps.size = 48 := hs; rw [hz]; decide) tg (by decide)) rfl
            · intro a W hb0 hs hp hi; have hb := undrew hb0; clear hb0
              have tg : sl a 20 = .bool false := hp 4 (by decide)
              exact ite_n (wanted_no rfl rfl (by have hz : a.tmps.size = 48 := hs; rw [hz]; decide) tg (by decide)) rfl
            · intro a W hb0 hs hp hi; have hb := undrew hb0; clear hb0
              have tg : sl a 20 = .bool false := hp 4 (by decide)
              exact ite_n (wanted_no rfl rfl (by have hz : a.tmps.size = 48 := hs; rw [hz]; decide) tg (by decide)) rfl
            · intro a W hb0 hs hp hi; have hb := undrew hb0; clear hb0
              have tg : sl a 20 = .bool false := hp 4 (by decide)
              exact ite_n (wanted_no rfl rfl (by have hz : a.tmps.size = 48 := hs; rw [hz]; decide) tg (by decide)) rfl
            · intro a W hb0 hs hp hi; have hb := undrew hb0; clear hb0
              have tg : sl a 20 = .bool false := hp 4 (by decide)
              exact ite_n (wanted_no rfl rfl (by have hz : a.tmps.size = 48 := hs; rw [hz]; decide) tg (by decide)) rfl
            · intro a W hb0 hs hp hi; have hb := undrew hb0; clear hb0
              have tg : sl a 20 = .bool false := hp 4 (by decide)
              exact ite_n (wanted_no rfl rfl (by have hz : a.tmps.size = 48 := hs; rw [hz]; decide) tg (by decide)) rfl
            · intro a W hb0 hs hp hi; have hb := undrew hb0; clear hb0
              have tg : sl a 20 = .bool false := hp 4 (by decide)
              exact ite_n (wanted_no rfl rfl (by have hz : a.tmps.size = 48 := hs; rw [hz]; decide) tg (by decide)) rfl
            · intro a W hb0 hs hp hi; have hb := undrew hb0; clear hb0
              have tg : sl a 20 = .bool false := hp 4 (by decide)
              exact ite_n (wanted_no rfl rfl (by have hz : a.tmps.size = 48 := hs; rw [hz]; decide) tg (by decide)) rfl
            · intro a W hb0 hs hp hi; have hb := undrew hb0; clear hb0
              have t20 : sl a 20 = .bool false := hp 4 (by decide)
              have t30 : sl a 30 = undef := hp 14 (by decide)
              refine ite_y rfl (wp_val (.bool false) ?_ ?_)
              · simp only [execOp, eval_tmp, eval_const, t20, t30]; simp [go_sem]
              · exact ⟨_, rfl, Below.refl _ _, rfl⟩
          · intro a w9 hb hs hd hI ht
            have ha := act_is [16, 17, 18, 19, 20, 21, 22, 23, 24, 25, 26, 27, 28, 29, 30, 31] hs hd ht (by decide)
            have t31 : sl a 31 = .bool false := hI 15 (by decide)
            simp only [List.foldl, t31] at ha
            generalize sl a 16 = u16 at ha
            generalize sl a 17 = u17 at ha
            generalize sl a 18 = u18 at ha
            generalize sl a 19 = u19 at ha
            generalize sl a 20 = u20 at ha
            generalize sl a 21 = u21 at ha
            generalize sl a 22 = u22 at ha
            generalize sl a 23 = u23 at ha
            generalize sl a 24 = u24 at ha
            generalize sl a 25 = u25 at ha
            generalize sl a 26 = u26 at ha
            generalize sl a 27 = u27 at ha
            generalize sl a 28 = u28 at ha
            generalize sl a 29 = u29 at ha
            generalize sl a 30 = u30 at ha
            simp only [Act.put, List.setIfInBounds_toArray, List.set_cons_zero, List.set_cons_succ] at ha
            rw [ha]; clear ha
            obtain ⟨w4, hw4⟩ : ∃ w4, w4 = w9 := ⟨_, rfl⟩
            have h34 : Below w3.heap.size w3 w4 := by rw [hw4]; exact bl HQ.out hb HQ.out.size
            rw [← hw4]
            have X4 : Hid (w4.heap[w.heap.size]? = some (.cells #[.slice q5 m5 g5, .slice q6 m6 g6] 68 (0, 0))) := (h34.block _ (blk_lt N3.out.1)).trans N3.out.1
            have Y5 : Hid (Sl B8 w4 q5 m5 g5 Y.1) := N3.out.2.1.keep h34
            have Y6 : Hid (Sl B8 w4 q6 m6 g6 Y.2) := N3.out.2.2.1.keep h34
            have B4 : Hid (Below w.heap.size w w4) := bl N3.out.2.2.2 h34 N3.out.2.2.2.size
            obtain ⟨vs, hvs, hvk⟩ := (HK.out.keep B4.out).vals
            have VS := Lib.hid hvs; have VK := Lib.hid hvk
            have HRES : Hid (insF K x = K.take j ++ Y :: K.drop j) := by
              show _ = _
              obtain ⟨g1', g2'⟩ := take_while_at (p := fun r => decide (leadS r.1 < LY)) (l := K) (j := j) (by rw [HLEN.out]; exact hj) (fun i a hi ha => decide_eq_true (HP.out i a hi ha)) (fun a ha => decide_eq_false (by have := HSTOP.out a ha; omega))
              rw [HINS.out, if_neg (by omega), g1', g2']
            clear h34 hb hI hvs hvk N3 HP HSTOP HQ
            try clear E1 y0 T1 L1 YQ jn hcmp
            clear hw4
            have HT := Lib.hid (VS.out.take hj)
            have HUS : Hid (([] : List (Value × Value)) = vs.drop j) := (List.drop_eq_nil_of_le (by rw [VS.out.len]; exact Nat.le_refl _)).symm
            have hmax := HK.out.max
            by_cases hcj : j = ck
            · have HD : Hid (RwV w4 (some ⟨bk, ok, none⟩) 0 0 []) := RwV.none (fun e => (by cases e)) (by simp [maxLen])
              subst hcj
              go_wp2_with (at_builtin; refine wpList_append_two w4 rfl (.tmp 34) (.tmp 37) 55 rfl w4.heap.size 68 r0 _ 48 Try.underlying55 hr0 hrz hr1' hr2' rfl (.slice none 0 0) 0 [] rfl (World.ownsRow_nil _ _ _ _) (some ⟨bk, ok, none⟩) j j (vs.take j) rfl HT.out (by unfold maxLen; omega) (by omega) (Nat.le_refl _) ?_)
              intro v5 w5 ho5 hg5
              obtain ⟨qa, ca, rfl⟩ := owns_shape ho5
              try simp only [Nat.zero_add, List.nil_append] at ho5
              have BA : Hid (Below w4.heap.size w4 w5) := (Below.refl _ _).grown hg5 (Nat.le_refl _) (by simp [Value.ownBlock])
              have OA := Lib.hid ho5
              have X5 : Hid (w5.heap[w.heap.size]? = some (.cells #[.slice q5 m5 g5, .slice q6 m6 g6] 68 (0, 0))) := (BA.out.block _ (blk_lt X4.out)).trans X4.out
              obtain ⟨x0, x1⟩ := cells2 X5.out
              have OA2 : Hid (∀ o, (w5.alloc o).ownsRow w4.heap.size 68 2 (.slice qa j ca) j (fl2 (vs.take j))) := fun o => owns_keep OA.out (al (Below.refl _ _) (Nat.le_refl _))
              have sA := BA.out.size
              clear ho5 hg5
              try rw [Nat.zero_add]
              go_wp2_with (at_builtin; refine wpList_append_own _ rfl (.tmp 39) (.tmp 41) 55 rfl w4.heap.size 68 r0 _ 2 48 Try.underlying55 hr0 hrz hr1' hr2' rfl (by omega) _ j (fl2 (vs.take j)) rfl (OA2.out _) ⟨w5.heap.size, 0, none⟩ 1 1 [.slice q5 m5 g5, .slice q6 m6 g6] rfl rfl ?_ ?_ ?_ ?_ ?_ ?_)
              · intro j' y hj'
                rw [Addr.add_lit, Nat.zero_add, cell_of_row _ _ j' _ _ _ (hnew rfl)]
                match j' with
                | 0 => simpa using hj'
                | 1 => simpa using hj'
                | j' + 2 => simp at hj'
              · intro y hy; simp at hy; rcases hy with rfl | rfl <;> rfl
              · unfold maxLen; omega
              · omega
              · simp; omega
              intro v6 w6 ho6 hg6 _
              obtain ⟨qb, cb, rfl⟩ := owns_shape ho6
              have BB : Hid (Below w4.heap.size w4 w6) := (al BA.out sA).grown hg6 (by simp; omega) (fun kk hk => (OA.out.lt kk hk).1)
              have OB := Lib.hid ho6
              have HD6 := Lib.hid (HD.out.keep BB.out)
              have sB := BB.out.size
              clear ho6 hg6 x0 x1 OA2
              go_wp2_with (at_builtin; refine wpList_append_two w6 rfl (.tmp 43) (.tmp 46) 55 rfl w4.heap.size 68 r0 _ 48 Try.underlying55 hr0 hrz hr1' hr2' rfl (.slice qb (j + 1) cb) (j + 1) _ rfl OB.out (some ⟨bk, ok, none⟩) 0 0 [] rfl HD6.out (by unfold maxLen; omega) (by omega) sB ?_)
              intro v7 w7 ho7 hg7
              obtain ⟨qc, cc, rfl⟩ := owns_shape ho7
              have BC : Hid (Below w4.heap.size w4 w7) := BB.out.grown hg7 sB (fun kk hk => (OB.out.lt kk hk).1)
              have FIN : Hid (RwS w7 qc (j + 1) cc (K.take j ++ Y :: K.drop j)) := by
                have ho7' : w7.ownsRow w4.heap.size 68 2 (.slice qc (j + 1) cc) (j + 1) (fl2 (vs.take j ++ (Value.slice q5 m5 g5, Value.slice q6 m6 g6) :: vs.drop j)) := by
                  have e : fl2 (vs.take j ++ (Value.slice q5 m5 g5, Value.slice q6 m6 g6) :: vs.drop j) = fl2 (vs.take j) ++ [Value.slice q5 m5 g5, Value.slice q6 m6 g6] ++ fl2 (vs.drop j) := by
                    rw [fl2_append, List.append_assoc]; rfl
                  rw [e]
                  try rw [← HUS.out]
                  first | exact ho7 | simpa [fl2] using ho7
                have hvl := VS.out.len
                refine RwS.of_owns ho7' (by rw [List.length_append, List.length_cons, List.length_take, List.length_drop, HLEN.out]; omega) ?_
                intro i k' hi
                have hkl := HLEN.out
                by_cases h1 : i < j
                · rw [List.getElem?_append_left (by rw [List.length_take]; omega), List.getElem?_take, if_pos h1] at hi
                  obtain ⟨u, hu⟩ : ∃ u, vs[i]? = some u := ⟨_, List.getElem?_eq_getElem (by omega)⟩
                  obtain ⟨k2, hk2, hp⟩ := VK.out i u hu
                  rw [hi] at hk2; cases hk2
                  exact ⟨u, by rw [List.getElem?_append_left (by rw [List.length_take]; omega), List.getElem?_take, if_pos h1]; exact hu, hp.keep BC.out⟩
                · have lt1 : (K.take j).length = j := by rw [List.length_take]; omega
                  have lt2 : (vs.take j).length = j := by rw [List.length_take]; omega
                  by_cases h2 : i = j
                  · subst h2
                    rw [List.getElem?_append_right (by omega), lt1, Nat.sub_self, List.getElem?_cons_zero] at hi
                    cases hi
                    exact ⟨_, by rw [List.getElem?_append_right (by omega), lt2, Nat.sub_self, List.getElem?_cons_zero], q5, m5, g5, q6, m6, g6, rfl, Y5.out.keep BC.out, Y6.out.keep BC.out⟩
                  · obtain ⟨d, hd⟩ : ∃ d, i - j = d + 1 := ⟨i - j - 1, by omega⟩
                    rw [List.getElem?_append_right (by omega), lt1, hd, List.getElem?_cons_succ, List.getElem?_drop] at hi
                    obtain ⟨u, hu⟩ : ∃ u, vs[j + d]? = some u := by
                      have := (List.getElem?_eq_some_iff.1 hi).1
                      exact ⟨_, List.getElem?_eq_getElem (by omega)⟩
                    obtain ⟨k2, hk2, hp⟩ := VK.out (j + d) u hu
                    rw [hi] at hk2; cases hk2
                    exact ⟨u, by rw [List.getElem?_append_right (by omega), lt2, hd, List.getElem?_cons_succ, List.getElem?_drop]; exact hu, hp.keep BC.out⟩
              have BF : Hid (Below w.heap.size w w7) := bl B4.out BC.out B4.out.size
              clear ho7 hg7
              go_wp2
              go_ret
              refine ⟨qc, _, cc, ?_, rfl, by rw [HRES.out]; exact FIN.out, BF.out⟩
              rw [HRES.out, List.length_append, List.length_cons, List.length_take, List.length_drop, HLEN.out]; omega
            · have HD : Hid (RwV w4 (some ⟨bk, ok + j * 2, none⟩) 0 (ck - j) []) := RwV.none (fun e => (by cases e)) (by omega)
              have hjc : j < ck := by have := HK.out.le; omega
              go_wp2_with (at_builtin; refine wpList_append_two w4 rfl (.tmp 34) (.tmp 37) 55 rfl w4.heap.size 68 r0 _ 48 Try.underlying55 hr0 hrz hr1' hr2' rfl (.slice none 0 0) 0 [] rfl (World.ownsRow_nil _ _ _ _) (some ⟨bk, ok, none⟩) j ck (vs.take j) rfl HT.out (by unfold maxLen; omega) (by omega) (Nat.le_refl _) ?_)
              intro v5 w5 ho5 hg5
              obtain ⟨qa, ca, rfl⟩ := owns_shape ho5
              try simp only [Nat.zero_add, List.nil_append] at ho5
              have BA : Hid (Below w4.heap.size w4 w5) := (Below.refl _ _).grown hg5 (Nat.le_refl _) (by simp [Value.ownBlock])
              have OA := Lib.hid ho5
              have X5 : Hid (w5.heap[w.heap.size]? = some (.cells #[.slice q5 m5 g5, .slice q6 m6 g6] 68 (0, 0))) := (BA.out.block _ (blk_lt X4.out)).trans X4.out
              obtain ⟨x0, x1⟩ := cells2 X5.out
              have OA2 : Hid (∀ o, (w5.alloc o).ownsRow w4.heap.size 68 2 (.slice qa j ca) j (fl2 (vs.take j))) := fun o => owns_keep OA.out (al (Below.refl _ _) (Nat.le_refl _))
              have sA := BA.out.size
              clear ho5 hg5
              try rw [Nat.zero_add]
              go_wp2_with (at_builtin; refine wpList_append_own _ rfl (.tmp 39) (.tmp 41) 55 rfl w4.heap.size 68 r0 _ 2 48 Try.underlying55 hr0 hrz hr1' hr2' rfl (by omega) _ j (fl2 (vs.take j)) rfl (OA2.out _) ⟨w5.heap.size, 0, none⟩ 1 1 [.slice q5 m5 g5, .slice q6 m6 g6] rfl rfl ?_ ?_ ?_ ?_ ?_ ?_)
              · intro j' y hj'
                rw [Addr.add_lit, Nat.zero_add, cell_of_row _ _ j' _ _ _ (hnew rfl)]
                match j' with
                | 0 => simpa using hj'
                | 1 => simpa using hj'
                | j' + 2 => simp at hj'
              · intro y hy; simp at hy; rcases hy with rfl | rfl <;> rfl
              · unfold maxLen; omega
              · omega
              · simp; omega
              intro v6 w6 ho6 hg6 _
              obtain ⟨qb, cb, rfl⟩ := owns_shape ho6
              have BB : Hid (Below w4.heap.size w4 w6) := (al BA.out sA).grown hg6 (by simp; omega) (fun kk hk => (OA.out.lt kk hk).1)
              have OB := Lib.hid ho6
              have HD6 := Lib.hid (HD.out.keep BB.out)
              have sB := BB.out.size
              clear ho6 hg6 x0 x1 OA2
              go_wp2_with (at_builtin; refine wpList_append_two w6 rfl (.tmp 43) (.tmp 46) 55 rfl w4.heap.size 68 r0 _ 48 Try.underlying55 hr0 hrz hr1' hr2' rfl (.slice qb (j + 1) cb) (j + 1) _ rfl OB.out (some ⟨bk, ok + j * 2, none⟩) 0 (ck - j) [] rfl HD6.out (by unfold maxLen; omega) (by omega) sB ?_)
              intro v7 w7 ho7 hg7
              obtain ⟨qc, cc, rfl⟩ := owns_shape ho7
              have BC : Hid (Below w4.heap.size w4 w7) := BB.out.grown hg7 sB (fun kk hk => (OB.out.lt kk hk).1)
              have FIN : Hid (RwS w7 qc (j + 1) cc (K.take j ++ Y :: K.drop j)) := by
                have ho7' : w7.ownsRow w4.heap.size 68 2 (.slice qc (j + 1) cc) (j + 1) (fl2 (vs.take j ++ (Value.slice q5 m5 g5, Value.slice q6 m6 g6) :: vs.drop j)) := by
                  have e : fl2 (vs.take j ++ (Value.slice q5 m5 g5, Value.slice q6 m6 g6) :: vs.drop j) = fl2 (vs.take j) ++ [Value.slice q5 m5 g5, Value.slice q6 m6 g6] ++ fl2 (vs.drop j) := by
                    rw [fl2_append, List.append_assoc]; rfl
                  rw [e]
                  try rw [← HUS.out]
                  first | exact ho7 | simpa [fl2] using ho7
                have hvl := VS.out.len
                refine RwS.of_owns ho7' (by rw [List.length_append, List.length_cons, List.length_take, List.length_drop, HLEN.out]; omega) ?_
                intro i k' hi
                have hkl := HLEN.out
                by_cases h1 : i < j
                · rw [List.getElem?_append_left (by rw [List.length_take]; omega), List.getElem?_take, if_pos h1] at hi
                  obtain ⟨u, hu⟩ : ∃ u, vs[i]? = some u := ⟨_, List.getElem?_eq_getElem (by omega)⟩
                  obtain ⟨k2, hk2, hp⟩ := VK.out i u hu
                  rw [hi] at hk2; cases hk2
                  exact ⟨u, by rw [List.getElem?_append_left (by rw [List.length_take]; omega), List.getElem?_take, if_pos h1]; exact hu, hp.keep BC.out⟩
                · have lt1 : (K.take j).length = j := by rw [List.length_take]; omega
                  have lt2 : (vs.take j).length = j := by rw [List.length_take]; omega
                  by_cases h2 : i = j
                  · subst h2
                    rw [List.getElem?_append_right (by omega), lt1, Nat.sub_self, List.getElem?_cons_zero] at hi
                    cases hi
                    exact ⟨_, by rw [List.getElem?_append_right (by omega), lt2, Nat.sub_self, List.getElem?_cons_zero], q5, m5, g5, q6, m6, g6, rfl, Y5.out.keep BC.out, Y6.out.keep BC.out⟩
                  · obtain ⟨d, hd⟩ : ∃ d, i - j = d + 1 := ⟨i - j - 1, by omega⟩
                    rw [List.getElem?_append_right (by omega), lt1, hd, List.getElem?_cons_succ, List.getElem?_drop] at hi
                    obtain ⟨u, hu⟩ : ∃ u, vs[j + d]? = some u := by
                      have := (List.getElem?_eq_some_iff.1 hi).1
                      exact ⟨_, List.getElem?_eq_getElem (by omega)⟩
                    obtain ⟨k2, hk2, hp⟩ := VK.out (j + d) u hu
                    rw [hi] at hk2; cases hk2
                    exact ⟨u, by rw [List.getElem?_append_right (by omega), lt2, hd, List.getElem?_cons_succ, List.getElem?_drop]; exact hu, hp.keep BC.out⟩
              have BF : Hid (Below w.heap.size w w7) := bl B4.out BC.out B4.out.size
              clear ho7 hg7
              go_wp2
              go_ret
              refine ⟨qc, _, cc, ?_, rfl, by rw [HRES.out]; exact FIN.out, BF.out⟩
              rw [HRES.out, List.length_append, List.length_cons, List.length_take, List.length_drop, HLEN.out]; omega
end Go.Proofs.Ytofhdakggapahaa
namespace Go.By
open Go.RowKit
theorem heap_setCells {g T : Nat} : ∀ (vs : List Value) (o : Nat) (w : World) (cur : List Value), w.heap[g]? = some (.cells cur.toArray T (0, 0)) → o + vs.length ≤ cur.length →
    (w.setCells g o vs).heap[g]? = some (.cells (cur.take o ++ vs ++ cur.drop (o + vs.length)).toArray T (0, 0))
  | [], o, w, cur, h, _ => by simpa [World.setCells] using h
  | v :: r, o, w, cur, h, hl => by
    have hl' : o + (r.length + 1) ≤ cur.length := hl
    have h1 : (w.setCell ⟨g, o, none⟩ v).heap[g]? = some (.cells (cur.set o v).toArray T (0, 0)) := by
      rw [hss h]; simp
    rw [World.setCells, heap_setCells r (o + 1) _ _ h1 (by rw [List.length_set]; omega)]
    congr 3
    apply List.ext_getElem?
    intro j
    simp only [List.getElem?_append, List.length_append, List.length_take, List.length_set, List.length_cons, List.getElem?_take, List.getElem?_drop, List.getElem?_set, List.getElem?_cons, show min (o + 1) cur.length = o + 1 by omega, show min o cur.length = o by omega]
    by_cases c1 : j < o
    · simp [c1, show j < o + 1 by omega, show j < o + 1 + r.length by omega, show j < o + (r.length + 1) by omega, show ¬ o = j by omega]
    · by_cases c2 : j = o
      · subst c2; simp [show j < j + 1 + r.length by omega, show j < cur.length by omega]
      · by_cases c3 : j < o + 1 + r.length
        · simp [c1, c3, show ¬ j < o + 1 by omega, show j < o + (r.length + 1) by omega, show ¬ j - o = 0 by omega, show j - o - 1 = j - (o + 1) by omega]
        · simp [c1, c3, show ¬ j < o + (r.length + 1) by omega, show ¬ o = o + 1 + r.length + (j - (o + 1 + r.length)) by omega, show o + (r.length + 1) + (j - (o + (r.length + 1))) = o + 1 + r.length + (j - (o + 1 + r.length)) by omega]
theorem grownBy_setCell (w : World) (g o : Nat) (v : Value) : w.grownBy (w.setCell ⟨g, o, none⟩ v) (some g) :=
  ⟨rfl, rfl, rfl, by simp, fun i hi hne => by
    have e : i ≠ g := fun e => hne (by rw [e])
    have := hsc (w := w) (a := ⟨g, o, none⟩) (v := v) (x := w.heap[i]) (i := i) (Array.getElem?_eq_getElem hi) e
    rw [this, Array.getElem?_eq_getElem hi]⟩
theorem grownBy_setCells (g : Nat) : ∀ (vs : List Value) (o : Nat) (w : World), w.grownBy (w.setCells g o vs) (some g)
  | [], _, w => World.grownBy.refl _ _
  | v :: r, o, w => grown_trans (grownBy_setCell w g o v) (grownBy_setCells g r (o + 1) _)
theorem grownBy_drew (w : World) (row : Option Nat) : w.grownBy w.drew row := ⟨rfl, rfl, rfl, Nat.le_refl _, fun _ _ _ => rfl⟩
/-- the cells of a list of parcels -/
def pcs (us : List (Value × Int)) : List Value := us.flatMap fun u => [u.1, .int .i64 u.2]
theorem pcs_nil : pcs [] = [] := rfl
theorem pcs_cons (u : Value × Int) (us : List (Value × Int)) : pcs (u :: us) = u.1 :: .int .i64 u.2 :: pcs us := rfl
theorem pcs_append (us vs : List (Value × Int)) : pcs (us ++ vs) = pcs us ++ pcs vs := by simp [pcs]
theorem pcs_length (us : List (Value × Int)) : (pcs us).length = us.length * 2 := by
  induction us with
  | nil => rfl
  | cons u us ih => rw [pcs_cons, List.length_cons, List.length_cons, ih, List.length_cons]; omega
theorem pcs_take (us : List (Value × Int)) : ∀ k, pcs (us.take k) = (pcs us).take (k * 2) := by
  induction us with
  | nil => intro k; simp [pcs]
  | cons u us ih =>
    intro k
    cases k with
    | zero => rfl
    | succ k => rw [List.take_succ_cons, pcs_cons, pcs_cons, ih, show (k + 1) * 2 = k * 2 + 1 + 1 by omega, List.take_succ_cons, List.take_succ_cons]
theorem pcs_drop (us : List (Value × Int)) : ∀ k, pcs (us.drop k) = (pcs us).drop (k * 2) := by
  induction us with
  | nil => intro k; simp [pcs]
  | cons u us ih =>
    intro k
    cases k with
    | zero => rfl
    | succ k => rw [List.drop_succ_cons, pcs_cons, ih, show (k + 1) * 2 = k * 2 + 1 + 1 by omega, List.drop_succ_cons, List.drop_succ_cons]
theorem pcs_at {us : List (Value × Int)} {i : Nat} {u : Value × Int} (h : us[i]? = some u) : (pcs us)[i * 2]? = some u.1 ∧ (pcs us)[i * 2 + 1]? = some (.int .i64 u.2) := by
  have h1 : (pcs (us.drop i))[0]? = some u.1 ∧ (pcs (us.drop i))[1]? = some (.int .i64 u.2) := by
    obtain ⟨hi, h⟩ := List.getElem?_eq_some_iff.1 h
    rw [List.drop_eq_getElem_cons hi, h, pcs_cons]; exact ⟨rfl, rfl⟩
  rw [pcs_drop, List.getElem?_drop, List.getElem?_drop] at h1
  exact h1
theorem pcs_one {us : List (Value × Int)} (h : ∀ u, u ∈ us → u.1.oneCell' = true) : ∀ v, v ∈ pcs us → v.oneCell' = true := by
  intro v hv
  obtain ⟨u, hu, hv⟩ := List.mem_flatMap.1 hv
  simp at hv
  rcases hv with rfl | rfl
  · exact h u hu
  · rfl
theorem pcs_set (us : List (Value × Int)) : ∀ (i : Nat) (u : Value × Int), i < us.length → pcs (us.set i u) = ((pcs us).set (i * 2) u.1).set (i * 2 + 1) (.int .i64 u.2) := by
  induction us with
  | nil => intro i u h; simp at h
  | cons x us ih =>
    intro i u h
    cases i with
    | zero => rfl
    | succ i => rw [List.set_cons_succ, pcs_cons, pcs_cons, ih i u (by simpa using h), show (i + 1) * 2 = i * 2 + 1 + 1 by omega, List.set_cons_succ, List.set_cons_succ, List.set_cons_succ, List.set_cons_succ]
/-- an owned array of two-celled elements, opened -/
theorem owns2_open {w : World} {base T n c : Nat} {q : Option Addr} {L : List Value} (h : w.ownsRow base T 2 (.slice q n c) n L) (h0 : 0 < n) :
    ∃ g cur, q = some ⟨g, 0, none⟩ ∧ base ≤ g ∧ w.heap[g]? = some (.cells (List.toArray cur) T (0, 0)) ∧ n ≤ c ∧ c ≤ maxLen ∧ cur.length = c * 2 ∧ cur.take (n * 2) = L := by
  rcases h.2 with ⟨h1, rfl⟩ | ⟨g, cap, cur, hv, hg, hh, h1, h2, h3, h4⟩
  · omega
  · obtain ⟨rfl, rfl⟩ : q = some ⟨g, 0, none⟩ ∧ c = cap := by simpa using hv
    exact ⟨g, cur.toList, rfl, hg, by simpa using hh, h1, h2, by simpa using h3, by simpa using h4⟩
theorem owns2_shut {w : World} {base T n c g : Nat} {cur L : List Value} (hg : base ≤ g) (hh : w.heap[g]? = some (.cells (List.toArray cur) T (0, 0))) (h1 : n ≤ c) (h2 : c ≤ maxLen) (h3 : cur.length = c * 2) (h4 : cur.take (n * 2) = L) :
    w.ownsRow base T 2 (.slice (some ⟨g, 0, none⟩) n c) n L :=
  ⟨by rw [← h4, List.length_take]; omega, .inr ⟨g, c, cur.toArray, rfl, hg, hh, h1, h2, by simpa using h3, by simpa using h4⟩⟩
theorem cell_arr {w : World} {g T : Nat} {cur : List Value} (h : w.heap[g]? = some (.cells (List.toArray cur) T (0, 0))) (j : Nat) : w.cell? ⟨g, j, none⟩ = cur[j]? := by
  rw [cell_of_row _ _ j _ T (0, 0) h]; simp
theorem frozen_arr {w : World} {g T : Nat} {cur : List Value} (h : w.heap[g]? = some (.cells (List.toArray cur) T (0, 0))) (j : Nat) : w.frozen? ⟨g, j, none⟩ = false := frozen_of_row _ _ j _ _ h
/-- clear, of one element of two cells -/
theorem run_clear_two {P : Program} (w : World) (t e ty : TypeId) (z x y : Value) (ht : P.underlying t = some (.slice e)) (hv : ∀ w, (zeroValue e).run P w = .ok z w) (hz : z.cells = #[x, y]) (hx : x.oneCell' = true) (hy : y.oneCell' = true) (b o c : Nat)
    (hc : ∀ j, j < 2 → (w.cell? ⟨b, o + j, none⟩).isSome = true) (hf : ∀ j, j < 2 → w.frozen? ⟨b, o + j, none⟩ = false) :
    (Builtin.clear_ #[t] ty #[.slice (some ⟨b, o, none⟩) 1 c]).run P w = .ok (.tuple #[]) (w.setCells b o [x, y]) := by
  have hzc : (Builtin.zeroCells z.cells 1).toList = [x, y] := by
    rw [hz]
    apply List.ext_getElem?
    intro i
    match i with
    | 0 => simp [Builtin.zeroCells]
    | 1 => simp [Builtin.zeroCells]
    | i + 2 => simp [Builtin.zeroCells]
  have hst := run_storeCells_cells (P := P) b o [x, y] 0 w (by simpa using hc) (by simpa using hf) (by intro v hv'; simp at hv'; rcases hv' with rfl | rfl <;> assumption)
  simp only [Nat.add_zero] at hst
  simp [Builtin.clear_, run_underlying ht, hv, hzc, hst]
/-- copy, of elements of two cells -/
theorem run_copy_two {P : Program} (w : World) (dT sT ty elem : TypeId) (b o dLen dCap : Nat) (a : Addr) (sLen sCap : Nat) (cs : List Value)
    (hu : P.underlying dT = some (.slice elem)) (hs : (P.info? elem).map (·.size) = some 2) (hn : cs.length = Nat.min sLen dLen * 2)
    (hsrc : ∀ j v, cs[j]? = some v → w.cell? (a.add j) = some v) (hc : ∀ j, j < cs.length → (w.cell? ⟨b, o + j, none⟩).isSome = true) (hf : ∀ j, j < cs.length → w.frozen? ⟨b, o + j, none⟩ = false) (h1 : ∀ v ∈ cs, v.oneCell' = true) :
    (Builtin.copy_ #[dT, sT] ty #[.slice (some ⟨b, o, none⟩) dLen dCap, .slice (some a) sLen sCap]).run P w = .ok (goInt (Nat.min sLen dLen)) (w.setCells b o cs) := by
  have hl := run_loadCells_list (P := P) w a cs hsrc
  have hst := run_storeCells_cells (P := P) b o cs 0 w (by simpa using hc) (by simpa using hf) h1
  cases hq : P.info? elem with
  | none => simp [hq] at hs
  | some i =>
    have hi : i.size = 2 := by simpa [hq] using hs
    simp only [Nat.add_zero] at hst
    simp [Builtin.copy_, run_underlying hu, Builtin.lenOf, Builtin.firstCells, sizeOf, typeInfo, hq, hi, ← hn, hl, hst]
end Go.By
namespace Go.By
open Go.RowKit
theorem fl2_cons (u : Value × Value) (us : List (Value × Value)) : fl2 (u :: us) = u.1 :: u.2 :: fl2 us := rfl
theorem fl2_one {us : List (Value × Value)} (h : ∀ u, u ∈ us → u.1.oneCell' = true ∧ u.2.oneCell' = true) : ∀ v, v ∈ fl2 us → v.oneCell' = true := by
  intro v hv
  obtain ⟨u, hu, hv⟩ := List.mem_flatMap.1 hv
  simp at hv
  rcases hv with rfl | rfl
  · exact (h u hu).1
  · exact (h u hu).2
end Go.By
namespace Go.Proofs.Ytofhdakggapahaa
open Go.RowKit Go.By
theorem owns2_some {w : World} {base T n c g : Nat} {L : List Value} (h : w.ownsRow base T 2 (.slice (some ⟨g, 0, none⟩) n c) n L) :
    ∃ cur, base ≤ g ∧ w.heap[g]? = some (.cells (List.toArray cur) T (0, 0)) ∧ n ≤ c ∧ c ≤ maxLen ∧ cur.length = c * 2 ∧ cur.take (n * 2) = L := by
  rcases h.2 with ⟨h1, _⟩ | ⟨g', cap, cur, hv, hg, hh, h1, h2, h3, h4⟩
  · simp at h1
  · obtain ⟨rfl, rfl⟩ : g = g' ∧ c = cap := by simpa using hv
    exact ⟨cur.toList, hg, by simpa using hh, h1, h2, by simpa using h3, by simpa using h4⟩
set_option maxRecDepth 100000 in
set_option maxHeartbeats 2000000 in
theorem InsRoom_any (base g n c vb : Nat) (us : List (Value × Value)) (u : Value × Value) (w : World) (h : w.ownsRow base 61 2 (.slice (some ⟨g, 0, none⟩) n c) n (fl2 us)) (hroom : n + 1 ≤ c) (hu : u.1.oneCell' = true ∧ u.2.oneCell' = true)
    (hv : w.heap[vb]? = some (.cells #[u.1, u.2] 61 (0, 0))) :
    Calls Try.prog 73 #[.slice (some ⟨g, 0, none⟩) n c, .int .i64 n, .slice (some ⟨vb, 0, none⟩) 1 1] w fun e w' =>
      e = .returned (.slice (some ⟨g, 0, none⟩) (n + 1) c) ∧ w'.ownsRow base 61 2 (.slice (some ⟨g, 0, none⟩) (n + 1) c) (n + 1) (fl2 (us ++ [u])) ∧ w.grownBy w' (some g) := by
  obtain ⟨i0, hi0, hz0, hz1, hz2⟩ := info_parts info_vrow
  obtain ⟨cur, hg, hh, hnc, hcm, hcl, hct⟩ := owns2_some h
  have hr := fun ty => run_append_room_cells (P := Try.prog) (w := w) 79 ty 61 i0 Try.underlying79 hi0 g 0 n c ⟨vb, 0, none⟩ 1 1 [u.1, u.2] (by rw [hz1]; rfl)
    (fun j x hj => by
      rw [Addr.add_lit, Nat.zero_add, cell_of_row _ _ j _ _ _ hv]
      match j with
      | 0 => simpa using hj
      | 1 => simpa using hj
      | j + 2 => simp at hj)
    (by intro x hx; simp at hx; rcases hx with rfl | rfl; exact hu.1; exact hu.2) hroom
    (fun j hj => by rw [hz1, cell_arr hh, List.getElem?_eq_getElem (by simp at hj; omega)]; rfl) (fun j hj => frozen_arr hh _)
  rw [hz1, Nat.zero_add] at hr
  have HR := Lib.hid hr
  have FIN : Hid ((w.setCells g (n * 2) [u.1, u.2]).ownsRow base 61 2 (.slice (some ⟨g, 0, none⟩) (n + 1) c) (n + 1) (fl2 (us ++ [u])) ∧ w.grownBy (w.setCells g (n * 2) [u.1, u.2]) (some g)) := by
    refine ⟨owns2_shut hg (heap_setCells _ _ _ _ hh (by simp; omega)) hroom hcm ?_ ?_, grownBy_setCells g _ _ _⟩
    · simp only [List.length_append, List.length_take, List.length_drop, hcl, List.length_cons, List.length_nil]; omega
    · rw [fl2_append, ← hct, List.take_append_of_le_length (by simp only [List.length_append, List.length_take, List.length_cons, List.length_nil]; omega), List.take_of_length_le (by simp only [List.length_append, List.length_take, List.length_cons, List.length_nil]; omega)]
      rfl
  unfold maxLen at hcm
  clear h hh hct hr hv hcl hu
  go_enter Try.func73, Try.ntmps73
  go_wp2_with (at_builtin; refine Lib.wpList_append_run _ rfl _ _ _ _ rfl _ _ rfl rfl _ _ (HR.out _) ?_)
  go_ret
  exact ⟨rfl, FIN.out.1, FIN.out.2⟩
set_option maxRecDepth 100000 in
set_option maxHeartbeats 4000000 in
theorem InsLast_any (base n c vb : Nat) (q : Option Addr) (us : List (Value × Value)) (u : Value × Value) (w : World) (h : w.ownsRow base 61 2 (.slice q n c) n (fl2 us)) (hroom : c < n + 1) (hb : base ≤ w.heap.size) (hu : u.1.oneCell' = true ∧ u.2.oneCell' = true) (hn : n ≤ 65536)
    (hv : w.heap[vb]? = some (.cells #[u.1, u.2] 61 (0, 0))) :
    Calls Try.prog 73 #[.slice q n c, .int .i64 n, .slice (some ⟨vb, 0, none⟩) 1 1] w fun e w' =>
      ∃ c', e = .returned (.slice (some ⟨w.heap.size, 0, none⟩) (n + 1) c') ∧ w'.ownsRow base 61 2 (.slice (some ⟨w.heap.size, 0, none⟩) (n + 1) c') (n + 1) (fl2 (us ++ [u])) ∧ w.grownBy w' none := by
  obtain ⟨i0, hi0, hz0, hzs, hzb⟩ := info_parts info_vrow
  have hul : us.length = n := by have := h.1; rw [fl2_length] at this; omega
  have hnc : n ≤ c ∧ (q = none → n = 0 ∧ c = 0) ∧ ∀ a, q = some a → ∀ j v, (fl2 us)[j]? = some v → w.cell? (a.add j) = some v := by
    rcases h.2 with ⟨h1, h2⟩ | ⟨g, cap, cur, h1, _, hh, h3, _, h5, h6⟩
    · have e1 : q = none ∧ n = 0 ∧ c = 0 := by simp at h1; exact ⟨h1.1, h1.2.1, h1.2.2⟩
      refine ⟨by omega, fun _ => ⟨e1.2.1, e1.2.2⟩, fun a ha => ?_⟩
      rw [e1.1] at ha; cases ha
    · obtain ⟨rfl, rfl⟩ : q = some ⟨g, 0, none⟩ ∧ c = cap := by simpa using h1
      refine ⟨h3, fun e => by (cases e), fun a ha j v hj => ?_⟩
      cases ha
      rw [Addr.add_lit, Nat.zero_add, cell_of_row _ _ j _ _ _ hh]
      rw [← h6, List.getElem?_take] at hj
      split at hj
      · simpa using hj
      · cases hj
  obtain ⟨hnc, hnil, hcs⟩ := hnc
  have hva : ∀ j x, [u.1, u.2][j]? = some x → w.cell? ((⟨vb, 0, none⟩ : Addr).add j) = some x := fun j x hj => by
    rw [Addr.add_lit, Nat.zero_add, cell_of_row _ _ j _ _ _ hv]
    match j with
    | 0 => simpa using hj
    | 1 => simpa using hj
    | j + 2 => simp at hj
  have h1v : ∀ v ∈ [u.1, u.2], v.oneCell' = true := by intro x hx; simp at hx; rcases hx with rfl | rfl; exact hu.1; exact hu.2
  have hsrc : Src Try.prog i0.size 79 (.slice (some ⟨vb, 0, none⟩) 1 1) 1 [u.1, u.2] w := by
    rw [hzs]
    exact Src.ofSlice w Try.underlying79 ⟨vb, 0, none⟩ 1 1 [u.1, u.2] rfl hva h1v
  have hold : (Builtin.firstCells i0.size n (.slice q n c)).run Try.prog w.drew = .ok (fl2 us).toArray w.drew := by
    rw [hzs]
    cases q with
    | none =>
      obtain ⟨rfl, -⟩ := hnil rfl
      have : us = [] := List.length_eq_zero_iff.1 hul
      rw [this]
      exact run_firstCells_none w.drew 2 0 0 c
    | some a => exact run_firstCells_some w.drew 2 n a n c (fl2 us) (by rw [fl2_length, hul]) (fun j v hj => hcs a rfl j v hj)
  have hrun : ∀ ty, (Builtin.append_ #[79, 79] ty #[.slice q n c, .slice (some ⟨vb, 0, none⟩) 1 1]).run Try.prog w = _ := fun ty =>
    run_append_grow_src w 79 79 ty 61 i0 _ Try.underlying79 hi0 hz0 q n c (fl2 us) hold _ 1 [u.1, u.2] hsrc hroom (by omega) (by rw [hzb]; exact growslice_fits hroom (by omega))
  obtain ⟨G, hG⟩ : ∃ G, G = grownCap w (n + 1) c 61 := ⟨_, rfl⟩
  rw [← hG] at hrun
  obtain ⟨ROW, hROW⟩ : ∃ ROW : Array Value, ROW = (fl2 us ++ [u.1, u.2]).toArray ++ Builtin.zeroCells (Value.agg #[.slice none 0 0, .slice none 0 0]).cells (G - (n + 1)) := ⟨_, rfl⟩
  rw [← hROW] at hrun
  have hGn : n + 1 ≤ G := by rw [hG]; exact grownCap_ge w _ _ _
  have hGm : G ≤ maxLen := by rw [hG]; exact grownCap_le_maxLen w (n + 1) c 61 (by unfold maxLen; omega)
  have hz2 : (Value.agg #[.slice none 0 0, .slice none 0 0]).cells = #[.slice none 0 0, .slice none 0 0] := rfl
  have zl : ∀ (a b : Value) (k : Nat), (Builtin.zeroCells #[a, b] k).size = k * 2 := fun a b k => by simp [Builtin.zeroCells]
  have hRl : ROW.size = G * 2 := by
    rw [hROW, hz2, Array.size_append, zl, List.size_toArray, List.length_append, fl2_length, hul]; simp; omega
  have FIN : Hid ((w.drew.alloc (.cells ROW 61)).ownsRow base 61 2 (.slice (some ⟨w.heap.size, 0, none⟩) (n + 1) G) (n + 1) (fl2 (us ++ [u])) ∧ w.grownBy (w.drew.alloc (.cells ROW 61)) none) := by
    refine ⟨owns2_shut (cur := ROW.toList) hb (hnew rfl) hGn hGm (by rw [Array.length_toList, hRl]) ?_, ⟨rfl, rfl, rfl, by simp, fun b hb _ => by show (w.heap.push _)[b]? = _; rw [Array.getElem?_push_lt hb, Array.getElem?_eq_getElem hb]⟩⟩
    rw [hROW, Array.toList_append, List.toList_toArray, fl2_append]
    exact List.take_left' (by rw [List.length_append, fl2_length, hul]; simp [fl2]; omega)
  have HR := Lib.hid hrun
  clear h hu hv hva h1v hsrc hold hrun hROW hRl hG hcs hul hGn hGm hb
  go_enter Try.func73, Try.ntmps73
  cases q with
  | none =>
    obtain ⟨rfl, rfl⟩ := hnil rfl
    go_wp2_with (at_builtin; refine Lib.wpList_append_run _ rfl _ _ _ _ rfl _ _ rfl rfl _ _ (HR.out _) ?_)
    go_ret
    exact ⟨_, rfl, FIN.out.1, FIN.out.2⟩
  | some a =>
    obtain ⟨ab, ao, asp⟩ := a
    go_wp2_with (at_builtin; refine Lib.wpList_append_run _ rfl _ _ _ _ rfl _ _ rfl rfl _ _ (HR.out _) ?_)
    all_goals (go_ret; exact ⟨_, rfl, FIN.out.1, FIN.out.2⟩)
theorem InsEnd_any (base n vb : Nat) (v : Value) (us : List (Value × Value)) (u : Value × Value) (w : World) (h : w.ownsRow base 61 2 v n (fl2 us)) (hb : base ≤ w.heap.size) (hu : u.1.oneCell' = true ∧ u.2.oneCell' = true) (hn : n ≤ 65536)
    (hv : w.heap[vb]? = some (.cells #[u.1, u.2] 61 (0, 0))) :
    Calls Try.prog 73 #[v, .int .i64 n, .slice (some ⟨vb, 0, none⟩) 1 1] w fun e w' =>
      ∃ v', e = .returned v' ∧ w'.ownsRow base 61 2 v' (n + 1) (fl2 (us ++ [u])) ∧ w.grownBy w' v.ownBlock ∧ (v'.ownBlock = v.ownBlock ∨ v'.ownBlock = some w.heap.size) := by
  obtain ⟨q, c, rfl⟩ := owns_shape h
  by_cases hroom : n + 1 ≤ c
  · obtain ⟨g, rfl⟩ : ∃ g, q = some ⟨g, 0, none⟩ := by
      rcases h.2 with ⟨h1, h2⟩ | ⟨g, cap, cur, h1, _⟩
      · simp at h1; omega
      · simp at h1; exact ⟨g, h1.1⟩
    refine (InsRoom_any base g n c vb us u w h hroom hu hv).mono ?_
    rintro e w' ⟨rfl, ho, hg⟩
    exact ⟨_, rfl, ho, by simpa [Value.ownBlock] using hg, .inl (by simp [Value.ownBlock])⟩
  · refine (InsLast_any base n c vb q us u w h (by omega) hb hu hn hv).mono ?_
    rintro e w' ⟨c', rfl, ho, g1, g2, g3, g4, g5⟩
    exact ⟨_, rfl, ho, ⟨g1, g2, g3, g4, fun b hb _ => g5 b hb (by simp)⟩, .inr (by simp [Value.ownBlock])⟩
set_option maxRecDepth 100000 in
set_option maxHeartbeats 4000000 in
theorem InsMid_any (base g n c i vb : Nat) (us : List (Value × Value)) (u : Value × Value) (w : World) (h : w.ownsRow base 61 2 (.slice (some ⟨g, 0, none⟩) n c) n (fl2 us)) (hi : i < n) (hroom : n + 1 ≤ c) (h1 : ∀ x, x ∈ us → x.1.oneCell' = true ∧ x.2.oneCell' = true) (hu : u.1.oneCell' = true ∧ u.2.oneCell' = true)
    (hv : w.heap[vb]? = some (.cells #[u.1, u.2] 61 (0, 0))) (hvb : vb ≠ g) :
    Calls Try.prog 73 #[.slice (some ⟨g, 0, none⟩) n c, .int .i64 i, .slice (some ⟨vb, 0, none⟩) 1 1] w fun e w' =>
      e = .returned (.slice (some ⟨g, 0, none⟩) (n + 1) c) ∧ w'.ownsRow base 61 2 (.slice (some ⟨g, 0, none⟩) (n + 1) c) (n + 1) (fl2 (us.take i ++ u :: us.drop i)) ∧ w.grownBy w' (some g) := by
  obtain ⟨i0, hi0, hz0, hz1, hz2⟩ := info_parts info_vrow
  have hul : us.length = n := by have := h.1; rw [fl2_length] at this; omega
  obtain ⟨cur, hg, hh, hnc, hcm, hcl, hct⟩ := owns2_some h
  have hsz : (Try.prog.info? 61).map (·.size) = some 2 := by rw [hi0]; simp [hz1]
  have hov : ∀ lb cb, (callFunc 93 #[.slice (some ⟨vb, 0, none⟩) 1 1, .slice (some ⟨g, (i + 1) * 2, none⟩) lb cb]).run Try.prog w = .ok (.value (.bool false)) w := fun lb cb => by
    rw [run_callFunc_extern Try.func93 (by kernel_rfl) (by kernel_rfl) (by kernel_rfl) (e := Extern.SlicesOverlaps.overlaps #[79, 79] #[4]) (by kernel_rfl),
      Lib.run_overlaps_apart w 79 4 61 Try.underlying79 2 (fun w => by simp [Go.sizeOf, typeInfo, hi0, hz1]) ⟨vb, 0, none⟩ ⟨g, (i + 1) * 2, none⟩ 1 1 lb cb hvb 61 61 2 (c * 2)
        (by simp [World.shape?, hv]) (by simp [World.shape?, hh, hcl]) (by omega) (frozen_of_row _ _ 0 _ _ hv) (frozen_of_row _ _ 2 _ _ hv)]
    rfl
  have hw1 : IntKind.i64.wrap ((i : Int) + 1) = (i : Int) + 1 := by rw [IntKind.wrap_i64]; unfold maxLen at hcm; omega
  have hb1 : (0 : Int) ≤ (i : Int) + 1 := by omega
  have htn : ((i : Int) + 1).toNat = i + 1 := by omega
  have hb2 : ¬ (c = i + 1) := by omega
  have hb4 : ¬ (c = i) := by omega
  have hb5 : (i : Int) + 1 ≤ (n : Int) + 1 := by omega
  have hb6 : (i : Int) ≤ (n : Int) + 1 := by omega
  have hb7 : i + 1 ≤ n + 1 := by omega
  have hb8 : i ≤ n + 1 := by omega
  have hz2' : ((i : Int) == (n : Int)) = false := by simp; omega
  obtain ⟨mv, hmv⟩ : ∃ mv, mv = fl2 (us.drop i) := ⟨_, rfl⟩
  have hml : mv.length = (n - i) * 2 := by rw [hmv, fl2_length, List.length_drop, hul]
  have hmc : ∀ j v, mv[j]? = some v → cur[i * 2 + j]? = some v := by
    intro j v hj
    rw [hmv, fl2_drop, ← hct, List.getElem?_drop, List.getElem?_take] at hj
    split at hj
    · exact hj
    · cases hj
  have hcp1 : ∀ ty dc sc, (Builtin.copy_ #[79, 79] ty #[.slice (some ⟨g, (i + 1) * 2, none⟩) (n - i) dc, .slice (some ⟨g, i * 2, none⟩) (n + 1 - i) sc]).run Try.prog w.drew = .ok (goInt ((n - i : Nat) : Int)) (w.drew.setCells g ((i + 1) * 2) mv) := fun ty dc sc => by
    have hmin : Nat.min (n + 1 - i) (n - i) = n - i := by simp only [Nat.min_def]; split <;> omega
    have := run_copy_two (P := Try.prog) w.drew 79 79 ty 61 g ((i + 1) * 2) (n - i) dc ⟨g, i * 2, none⟩ (n + 1 - i) sc mv Try.underlying79 hsz (by rw [hmin]; exact hml)
      (fun j v hj => by rw [Addr.add_lit]; show w.cell? _ = _; rw [cell_arr hh]; exact hmc j v hj)
      (fun j hj => by show (w.cell? _).isSome = true; rw [cell_arr hh, List.getElem?_eq_getElem (by omega)]; rfl) (fun j hj => frozen_arr (w := w) hh _)
      (by rw [hmv]; exact fl2_one (fun x hx => h1 x (List.mem_of_mem_drop hx)))
    rw [hmin] at this
    exact this
  obtain ⟨W1, hW1⟩ : ∃ W1, W1 = w.drew.setCells g ((i + 1) * 2) mv := ⟨_, rfl⟩
  have hh1 : W1.heap[g]? = some (.cells (cur.take ((i + 1) * 2) ++ mv ++ cur.drop ((i + 1) * 2 + mv.length)).toArray 61 (0, 0)) := by
    rw [hW1]; exact heap_setCells mv ((i + 1) * 2) w.drew cur hh (by omega)
  have hgr1 : w.grownBy W1 (some g) := by rw [hW1]; exact grown_trans (grownBy_drew w _) (grownBy_setCells g _ _ _)
  have hvw : W1.heap[vb]? = some (.cells #[u.1, u.2] 61 (0, 0)) := by
    rw [hgr1.block vb (lt_of_cell (cell_of_row _ _ 0 _ _ _ hv)) (by simpa using hvb)]; exact hv
  have hlen1 : (cur.take ((i + 1) * 2) ++ mv ++ cur.drop ((i + 1) * 2 + mv.length)).length = c * 2 := by
    simp only [List.length_append, List.length_take, List.length_drop]; omega
  obtain ⟨cur1, hcur1⟩ : ∃ cur1, cur1 = cur.take ((i + 1) * 2) ++ mv ++ cur.drop ((i + 1) * 2 + mv.length) := ⟨_, rfl⟩
  rw [← hcur1] at hh1 hlen1
  have hcp2 : ∀ ty dc, (Builtin.copy_ #[79, 79] ty #[.slice (some ⟨g, i * 2, none⟩) (n + 1 - i) dc, .slice (some ⟨vb, 0, none⟩) 1 1]).run Try.prog W1 = .ok (goInt 1) (W1.setCells g (i * 2) [u.1, u.2]) := fun ty dc => by
    have hmin : Nat.min 1 (n + 1 - i) = 1 := by simp only [Nat.min_def]; split <;> omega
    have := run_copy_two (P := Try.prog) W1 79 79 ty 61 g (i * 2) (n + 1 - i) dc ⟨vb, 0, none⟩ 1 1 [u.1, u.2] Try.underlying79 hsz (by rw [hmin]; rfl)
      (fun j x hj => by
        rw [Addr.add_lit, Nat.zero_add, cell_of_row _ _ j _ _ _ hvw]
        match j with
        | 0 => simpa using hj
        | 1 => simpa using hj
        | j + 2 => simp at hj)
      (fun j hj => by rw [cell_arr hh1, List.getElem?_eq_getElem (by simp at hj; omega)]; rfl) (fun j hj => frozen_arr hh1 _)
      (by intro x hx; simp at hx; rcases hx with rfl | rfl; exact hu.1; exact hu.2)
    rw [hmin] at this
    exact this
  rw [← hW1] at hcp1
  have FIN : Hid ((W1.setCells g (i * 2) [u.1, u.2]).ownsRow base 61 2 (.slice (some ⟨g, 0, none⟩) (n + 1) c) (n + 1) (fl2 (us.take i ++ u :: us.drop i)) ∧ w.grownBy (W1.setCells g (i * 2) [u.1, u.2]) (some g)) := by
    refine ⟨owns2_shut hg (heap_setCells _ _ _ _ hh1 (by rw [hlen1]; simp; omega)) hroom hcm ?_ ?_, grown_trans hgr1 (grownBy_setCells g _ _ _)⟩
    · simp only [List.length_append, List.length_take, List.length_drop, hlen1, List.length_cons, List.length_nil]; omega
    · have e1 : cur1.take (i * 2) = cur.take (i * 2) := by
        rw [hcur1, List.append_assoc, List.take_append_of_le_length (by rw [List.length_take]; omega), List.take_take, show min (i * 2) ((i + 1) * 2) = i * 2 by omega]
      have e2 : cur1.drop (i * 2 + [u.1, u.2].length) = mv ++ cur.drop ((i + 1) * 2 + mv.length) := by
        rw [hcur1, List.append_assoc]
        exact List.drop_left' (by rw [List.length_take, List.length_cons, List.length_cons, List.length_nil]; omega)
      rw [e1, e2, ← List.append_assoc, List.take_left' (by simp only [List.length_append, List.length_take, List.length_cons, List.length_nil, hml]; omega), fl2_append, fl2_cons, fl2_take, ← hmv, ← hct, List.take_take, show min (i * 2) (n * 2) = i * 2 by omega]
      simp
  unfold maxLen at hcm
  have HC1 := Lib.hid hcp1; have HC2 := Lib.hid hcp2
  clear h hh hct hv hcl hu hcp1 hcp2 hh1 hgr1 hvw hcur1 hlen1 hW1 hmv hml hmc h1 hul hg
  go_enter Try.func73, Try.ntmps73
  go_wp2_with (simp only [hov])
  go_region_law (refine step_copy_runI rfl _ _ 79 79 rfl _ _ (by simp [Act.eval, Act.put]) (by simp [Act.eval, Act.put]) (HC1.out _ (c - (i + 1)) (c - i)) ?_)
  have hc2 := HC2.out 3 (c - i)
  go_wp2
  go_ret
  exact ⟨rfl, FIN.out.1, FIN.out.2⟩
end Go.Proofs.Ytofhdakggapahaa
