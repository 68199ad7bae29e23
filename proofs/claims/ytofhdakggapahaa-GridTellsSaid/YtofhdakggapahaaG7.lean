/- The contract of the grid's Rank. -/
import Derived.Test.YtofhdakggapahaaG5
import Derived.Test.YtofhdakggapahaaG6
import Derived.Test.YtofhdakggapahaaK4
import Derived.Test.YtofhdakggapahaaR7
namespace Go.Proofs.Ytofhdakggapahaa
open Go.RowKit Go.By
theorem info_vrow : (Try.prog.info? 61).map (fun i => (i.zero, i.size, i.bytes)) = some (some (.agg #[.slice none 0 0, .slice none 0 0]), 2, 48) := by kernel_rfl
/-- the rows kept of the first k -/
def kF (wd : Nat) (cells : List UInt8) (k : Nat) : List Rw := ((List.range k).map (rowF wd cells)).foldl (fun K r => keepF K (r, [])) []
theorem kF_succ (wd : Nat) (cells : List UInt8) (k : Nat) : kF wd cells (k + 1) = keepF (kF wd cells k) (rowF wd cells k, []) := by
  unfold kF; rw [List.range_succ, List.map_append, List.foldl_append]; rfl
theorem keepF_len (K : List Rw) (x : Rw) : (keepF K x).length ≤ K.length + 1 := by unfold keepF; split <;> simp
theorem kF_len (wd : Nat) (cells : List UInt8) : ∀ k, (kF wd cells k).length ≤ k
  | 0 => by simp [kF]
  | k + 1 => by rw [kF_succ]; exact Nat.le_trans (keepF_len _ _) (Nat.succ_le_succ (kF_len wd cells k))
theorem rowF_len {h wd i : Nat} {cells : List UInt8} (hl : cells.length = h * wd) (hi : i < h) : (rowF wd cells i).length = wd := by
  have : (i + 1) * wd ≤ h * wd := Nat.mul_le_mul_right _ hi
  rw [Nat.add_mul, Nat.one_mul] at this
  unfold rowF; rw [List.length_take, List.length_drop]; omega
theorem kF_kept {h wd : Nat} {cells : List UInt8} (hl : cells.length = h * wd) : ∀ k, k ≤ h → Kept wd 0 (kF wd cells k)
  | 0, _ => Kept.nil wd 0
  | k + 1, hk => by rw [kF_succ]; exact (kF_kept hl k (by omega)).step ⟨rowF_len hl (by omega), rfl⟩
theorem restF_snoc (K : List Rw) (k x : Rw) : restF (K ++ [k]) x = lessF (restF K x) (atS (restF K x).1 (leadS k.1)) k := by unfold restF; rw [List.foldl_append]; rfl
theorem restF_take {K : List Rw} {j : Nat} {k x : Rw} (h : K[j]? = some k) : restF (K.take (j + 1)) x = lessF (restF (K.take j) x) (atS (restF (K.take j) x).1 (leadS k.1)) k := by
  have e : K.take (j + 1) = K.take j ++ [k] := by
    rw [List.take_add_one, h]; rfl
  rw [e, restF_snoc]
theorem lessS_fit {n t : Nat} {x k : Rw} {c : UInt8} (hx : Fit n t x) (hk : Fit n t k) : lessS x c k = (lessF x c k, 0) := by
  unfold lessS lessF
  rw [if_pos ⟨by rw [hx.1, hk.1], by rw [hx.2, hk.2]⟩]
set_option maxRecDepth 100000 in
set_option maxHeartbeats 4000000 in
theorem Rank_any (h wd : Nat) (p : Option Addr) (n c : Nat) (cells : List UInt8) (w : World) (hs : Sl B8 w p n c cells) (hn : n = h * wd) (hr : Room wd) (hh : h ≤ 65536) :
    Calls Try.prog 20 #[.agg #[.int .i64 h, .int .i64 wd, .slice p n c]] w fun e w' => e = .returned (.int .i64 (kF wd cells h).length) ∧ Below w.heap.size w w' := by
  obtain ⟨r0, hr0, hrz, hr1, hr2⟩ := info_parts info_vrow
  have HKK : Hid (∀ k, k ≤ h → Kept wd 0 (kF wd cells k)) := kF_kept (by rw [hs.len, hn])
  have HRL : Hid (∀ i, i < h → (rowF wd cells i).length = wd) := fun i hi => rowF_len (by rw [hs.len, hn]) hi
  have HS := Lib.hid hs; have HN := Lib.hid hn
  have HR := Lib.hid hr
  have HB : Hid (∀ o, Below w.heap.size w (w.alloc o)) := fun o => al (Below.refl _ _) (Nat.le_refl _)
  clear hs hn hr
  go_enter Try.func20, Try.ntmps20
  go_wp2
  go_loopw [3, 10] (fun kept i wr => ∃ (k nk : Nat) (qk : Option Addr) (ck : Nat), k ≤ h ∧ nk ≤ k ∧ i = .int .i64 k ∧ kept = .slice qk nk ck ∧ Hid (RwL 61 5 wr w.heap.size (.slice qk nk ck) nk (kF wd cells k)) ∧ Hid (Below w.heap.size w wr) ∧
    Hid (wr.heap[w.heap.size]? = some (.cells #[.int .i64 h, .int .i64 wd, .slice p n c] 27 (0, 0)))) (fun _ i _ => h - (intOf i).toNat)
  case atStart => exact ⟨0, 0, none, 0, Nat.zero_le _, Nat.zero_le _, rfl, rfl, RwL.nil _ _ _ _, HB.out _, hnew rfl⟩
  case round =>
    obtain ⟨k, nk, qk, ck, hk, hnk, rfl, rfl, hK, hBw, hX⟩ := hrel
    by_cases hlt : k < h
    · obtain ⟨x0, x1, x2⟩ := cells3 hX.out
      go_wp2_with fail
      refine Calls.mono (row_any h wd k p n c cells wr (HS.out.keep hBw.out) HN.out hlt (by omega)) ?_
      rintro e w2 ⟨q', c', rfl, hs', -, hb'⟩
      have HS' := Lib.hid hs'
      have HB2 := Lib.hid hb'
      clear x0 x1 x2 hs' hb'
      go_wp2_with fail
      refine Calls.mono (Of_any q' none wd c' 0 0 (rowF wd cells k) [] w2 HS'.out (Sl.nil0 _ _) HR.out (show Room 0 by unfold Room; omega)) ?_
      rintro e w3 ⟨q1, m1, g1, q2, m2, g2, l1, l2, rfl, o1, o2, hb3⟩
      have HB3 : Hid (Below wr.heap.size wr w3) := bl HB2.out hb3 HB2.out.size
      have S1 := Lib.hid (Sl.of_owns o1); have S2 := Lib.hid (Sl.of_owns o2)
      have K3 : Hid (RwL 61 5 w3 w.heap.size (.slice qk nk ck) nk (kF wd cells k)) := hK.out.keep HB3.out
      have BW3 : Hid (Below w.heap.size w w3) := bl hBw.out HB3.out hBw.out.size
      have X3 : Hid (w3.heap[w.heap.size]? = some (.cells #[.int .i64 h, .int .i64 wd, .slice p n c] 27 (0, 0))) := (HB3.out.block _ (blk_lt hX.out)).trans hX.out
      have hkb : nk ≤ 65536 := by omega
      have HKB : Hid (∀ kk, (Value.slice qk nk ck).ownBlock = some kk → kk < w3.heap.size) := fun kk hk => (K3.out.lt kk hk).2
      clear hK hBw hX o1 o2 hb3 HB2 HB3 HS'
      go_wp2
      go_loopw [19] (fun i wq => ∃ (j : Nat) (q1 : Option Addr) (m1 g1 : Nat) (q2 : Option Addr) (m2 g2 : Nat), j ≤ nk ∧ i = .int .i64 j ∧ Hid (wq.heap[w3.heap.size]? = some (.cells #[.slice q1 m1 g1, .slice q2 m2 g2] 61 (0, 0))) ∧
        Hid (Sl B8 wq q1 m1 g1 (restF ((kF wd cells k).take j) (rowF wd cells k, [])).1) ∧ Hid (Sl B8 wq q2 m2 g2 (restF ((kF wd cells k).take j) (rowF wd cells k, [])).2) ∧
        Hid (RwL 61 5 wq w.heap.size (.slice qk nk ck) nk (kF wd cells k)) ∧ Hid (Below w.heap.size w wq) ∧ Hid (wq.heap[w.heap.size]? = some (.cells #[.int .i64 h, .int .i64 wd, .slice p n c] 27 (0, 0)))) (fun i _ => nk - (intOf i).toNat)
      case atStart => exact ⟨0, q1, m1, g1, q2, m2, g2, Nat.zero_le _, rfl, hnew rfl, S1.out.keep (al (Below.refl _ _) (Nat.le_refl _)), S2.out.keep (al (Below.refl _ _) (Nat.le_refl _)), K3.out.keep (al (Below.refl _ _) (Nat.le_refl _)), al BW3.out BW3.out.size, hal X3.out⟩
      case round =>
        clear S1 S2 K3 X3 l1 l2
        obtain ⟨j, q1, m1, g1, q2, m2, g2, hj, rfl, hL, hS1, hS2, hK, hBw, hX⟩ := hrel
        by_cases hjl : j < nk
        · obtain ⟨gk, kk, a1, b1, d1, a2, b2, d2, rfl, e1, e2, hkk, t1, t2⟩ := hK.out.at hjl
          have T1 := Lib.hid t1; have T2 := Lib.hid t2
          have jn : (j : Int) < (nk : Int) := by omega
          obtain ⟨y0, y1⟩ := cells2 hL.out
          have E1 := Lib.hid e1; have E2 := Lib.hid e2
          have hx : Fit wd 0 (rowF wd cells k, []) := ⟨HRL.out k hlt, rfl⟩
          have hkept := HKK.out k (by omega)
          have fitK : Fit wd 0 kk := (hkept.rows kk (List.mem_of_getElem? hkk.out)).1
          obtain ⟨XJ, hXJ⟩ : ∃ XJ, XJ = restF ((kF wd cells k).take j) (rowF wd cells k, []) := ⟨_, rfl⟩
          have fitX : Fit wd 0 XJ := by rw [hXJ]; exact hx.rest (fun a ha => (hkept.rows a (List.mem_of_mem_take ha)).1)
          rw [← hXJ] at hS1 hS2
          obtain ⟨LJ, hLJ⟩ : ∃ LJ, LJ = leadS kk.1 := ⟨_, rfl⟩
          obtain ⟨CJ, hCJ⟩ : ∃ CJ, CJ = atS XJ.1 LJ := ⟨_, rfl⟩
          obtain ⟨YJ, hYJ⟩ : ∃ YJ, YJ = lessF XJ CJ kk := ⟨_, rfl⟩
          have hnext : Hid (restF ((kF wd cells k).take (j + 1)) (rowF wd cells k, []) = YJ) := by show _ = _; rw [restF_take hkk.out, ← hXJ, hYJ, hCJ, hLJ]
          have lm1 : m1 = wd := by have := hS1.out.len; rw [fitX.1] at this; exact this.symm
          have lm2 : m2 = 0 := by have := hS2.out.len; rw [fitX.2] at this; exact this.symm
          have HLD : Hid (∀ W, Sl B8 W a1 b1 d1 kk.1 → Calls Try.prog 62 #[.slice a1 b1 d1] W fun e w' => e = .returned (.int .i64 LJ) ∧ W = w') := fun W h => by rw [hLJ]; exact Lead_any _ _ _ _ W h
          have HAT : Hid (∀ W, Sl B8 W q1 m1 g1 XJ.1 → Calls Try.prog 61 #[.slice q1 m1 g1, .int .i64 LJ] W fun e w' => e = .returned (B8 CJ) ∧ W = w') := fun W h => by rw [hCJ]; exact At_any _ _ _ _ LJ W h
          have HLS : Hid (∀ W, Sl B8 W q1 m1 g1 XJ.1 → Sl B8 W q2 m2 g2 XJ.2 → Sl B8 W a1 b1 d1 kk.1 → Sl B8 W a2 b2 d2 kk.2 → Calls Try.prog 60 #[.agg #[.slice q1 m1 g1, .slice q2 m2 g2], B8 CJ, .agg #[.slice a1 b1 d1, .slice a2 b2 d2]] W (RetR2 5 W YJ 0)) := fun W h1 h2 h3 h4 => by
            have := Less_any q1 q2 a1 a2 m1 g1 m2 g2 b1 d1 b2 d2 XJ.1 XJ.2 kk.1 kk.2 CJ W h1 h2 h3 h4 (by rw [lm1]; exact HR.out) (by rw [lm2]; unfold Room; omega)
            rw [lessS_fit (n := wd) (t := 0) (x := XJ) (k := kk) fitX fitK, ← hYJ] at this
            exact this
          have AL : Hid (Below wr.heap.size wr (wr.alloc (.cells #[.slice a1 b1 d1, .slice a2 b2 d2] 61))) := al (Below.refl _ _) (Nat.le_refl _)
          have hsz3 : Hid (w.heap.size ≤ w3.heap.size) := BW3.out.size
          have hne3 : Hid (w.heap.size ≠ w3.heap.size) := fun e => by have h1 := hX.out; have h2 := hL.out; rw [e] at h1; rw [h1] at h2; injection h2 with h2; injection h2 with h2 h3; exact absurd (congrArg Array.size h2) (by simp)
          have hNX : Hid (∀ (w9 : World) (q5 : Option Addr) (m5 g5 : Nat) (q6 : Option Addr) (m6 g6 : Nat), Below wr.heap.size wr w9 → Sl B8 w9 q5 m5 g5 YJ.1 → Sl B8 w9 q6 m6 g6 YJ.2 → (∀ a, q5 = some a → wr.heap.size ≤ a.block) → (∀ a, q6 = some a → wr.heap.size ≤ a.block) →
              ((w9.setCell ⟨w3.heap.size, 0, none⟩ (.slice q5 m5 g5)).setCell ⟨w3.heap.size, 1, none⟩ (.slice q6 m6 g6)).heap[w3.heap.size]? = some (.cells #[.slice q5 m5 g5, .slice q6 m6 g6] 61 (0, 0)) ∧
              Sl B8 ((w9.setCell ⟨w3.heap.size, 0, none⟩ (.slice q5 m5 g5)).setCell ⟨w3.heap.size, 1, none⟩ (.slice q6 m6 g6)) q5 m5 g5 (restF ((kF wd cells k).take (j + 1)) (rowF wd cells k, [])).1 ∧
              Sl B8 ((w9.setCell ⟨w3.heap.size, 0, none⟩ (.slice q5 m5 g5)).setCell ⟨w3.heap.size, 1, none⟩ (.slice q6 m6 g6)) q6 m6 g6 (restF ((kF wd cells k).take (j + 1)) (rowF wd cells k, [])).2 ∧
              RwL 61 5 ((w9.setCell ⟨w3.heap.size, 0, none⟩ (.slice q5 m5 g5)).setCell ⟨w3.heap.size, 1, none⟩ (.slice q6 m6 g6)) w.heap.size (.slice (some ⟨gk, 0, none⟩) nk ck) nk (kF wd cells k) ∧
              Below w.heap.size w ((w9.setCell ⟨w3.heap.size, 0, none⟩ (.slice q5 m5 g5)).setCell ⟨w3.heap.size, 1, none⟩ (.slice q6 m6 g6)) ∧
              ((w9.setCell ⟨w3.heap.size, 0, none⟩ (.slice q5 m5 g5)).setCell ⟨w3.heap.size, 1, none⟩ (.slice q6 m6 g6)).heap[w.heap.size]? = some (.cells #[.int .i64 h, .int .i64 wd, .slice p n c] 27 (0, 0))) := by
            intro w9 q5 m5 g5 q6 m6 g6 b9 s5 s6 s7 s8
            have L9 : w9.heap[w3.heap.size]? = some (.cells #[.slice q1 m1 g1, .slice q2 m2 g2] 61 (0, 0)) := (b9.block _ (blk_lt hL.out)).trans hL.out
            have X9 : w9.heap[w.heap.size]? = some (.cells #[.int .i64 h, .int .i64 wd, .slice p n c] 27 (0, 0)) := (b9.block _ (blk_lt hX.out)).trans hX.out
            have K9 := hK.out.keep b9
            rw [hnext.out]
            have hl3 := blk_lt hL.out
            have ne5 : ∀ a, q5 = some a → a.block ≠ w3.heap.size := fun a ha => by have := s7 a ha; omega
            have ne6 : ∀ a, q6 = some a → a.block ≠ w3.heap.size := fun a ha => by have := s8 a ha; omega
            have gb := grown_trans (grownBy_setCell' w9 w3.heap.size 0 (.slice q5 m5 g5)) (grownBy_setCell' (w9.setCell ⟨w3.heap.size, 0, none⟩ (.slice q5 m5 g5)) w3.heap.size 1 (.slice q6 m6 g6))
            have hgk : (Value.slice (some ⟨gk, 0, none⟩) nk ck).ownBlock ≠ some w3.heap.size := fun e => Nat.lt_irrefl _ (HKB.out _ e)
            exact ⟨hss (hss L9), (s5.set ne5).set ne5, (s6.set ne6).set ne6, K9.set L9 (by decide) hgk gb, ((bl hBw.out b9 hBw.out.size).setCell hsz3.out _).setCell hsz3.out _, hsc (hsc X9 hne3.out) hne3.out⟩
          have z0 : (wr.alloc (.cells #[.slice a1 b1 d1, .slice a2 b2 d2] 61)).cell? ⟨wr.heap.size, 0, none⟩ = some (.slice a1 b1 d1) := cell_of_row _ _ 0 _ _ _ (hnew rfl)
          have z1 : (wr.alloc (.cells #[.slice a1 b1 d1, .slice a2 b2 d2] 61)).cell? ⟨wr.heap.size, 1, none⟩ = some (.slice a2 b2 d2) := cell_of_row _ _ 1 _ _ _ (hnew rfl)
          clear hXJ hLJ hCJ hYJ hx hkept fitK fitX lm1 lm2 t1 t2
          clear z0 z1 y0 y1
          go_wp2
          have z0 : (wr.alloc (.cells #[.slice a1 b1 d1, .slice a2 b2 d2] 61)).cell? ⟨wr.heap.size, 0, none⟩ = some (.slice a1 b1 d1) := cell_of_row _ _ 0 _ _ _ (hnew rfl)
          have z1 : (wr.alloc (.cells #[.slice a1 b1 d1, .slice a2 b2 d2] 61)).cell? ⟨wr.heap.size, 1, none⟩ = some (.slice a2 b2 d2) := cell_of_row _ _ 1 _ _ _ (hnew rfl)
          obtain ⟨y0, y1⟩ := cells2 (hal (o := .cells #[.slice a1 b1 d1, .slice a2 b2 d2] 61) hL.out)
          refine wp_region_late (fun ix => ([.val (.agg #[.slice q1 m1 g1, .slice q2 m2 g2]), .val (.pointer (some ⟨w3.heap.size, 0, none⟩)), .val (.slice q1 m1 g1), .val (.pointer (some ⟨wr.heap.size, 0, none⟩)), .val (.slice a1 b1 d1), .val (.int .i64 LJ), .val (B8 CJ), .val (.agg #[.slice a1 b1 d1, .slice a2 b2 d2]), .rowTN (wr.heap.size) (YJ) (0), .rowTN (wr.heap.size) (YJ) (0), .rowN (wr.heap.size) (YJ), .val (.int .i64 0), .any][ix]?).getD (.any)) 48 12 11 23 34 rfl (by kernel_rfl) (by decide) (by decide) (by decide) _ rfl rfl rfl (by decide) (fun a u x w h => run_extract1 _ rfl h) (by decide) ?_ ?_
          · refine ⟨?_, ?_, ?_, ?_, ?_, ?_, ?_, ?_, ?_, ?_, ?_, ?_, trivial⟩
            · intro a W hb0 hs hp hi; have hb := undrew hb0; clear hb0
              have tt : sl a 5 = .pointer (some ⟨w3.heap.size, 0, none⟩) := hi 5 (by decide)
              have dd0 := (hb.cell (p := ⟨w3.heap.size, 0, none⟩) (lt_of_cell y0)).trans y0
              have dd1 := (hb.cell (p := ⟨w3.heap.size, 1, none⟩) (lt_of_cell y1)).trans y1
              refine ite_y rfl (wp_val (.agg #[.slice q1 m1 g1, .slice q2 m2 g2]) ?_ ?_)
              · simp only [execOp, eval_tmp, tt]; simp [go_sem, dd0, dd1]
              · exact ⟨_, rfl, Below.refl _ _, rfl⟩
            · intro a W hb0 hs hp hi; have hb := undrew hb0; clear hb0
              have t5 : sl a 5 = .pointer (some ⟨w3.heap.size, 0, none⟩) := hi 5 (by decide)
              refine ite_y rfl (wp_val (.pointer (some ⟨w3.heap.size, 0, none⟩)) ?_ ?_)
              · simp only [execOp, eval_tmp, eval_const, t5]; simp [go_sem]
              · exact ⟨_, rfl, Below.refl _ _, rfl⟩
            · intro a W hb0 hs hp hi; have hb := undrew hb0; clear hb0
              have tt : sl a 25 = .pointer (some ⟨w3.heap.size, 0, none⟩) := hp 1 (by decide)
              have dd0 := (hb.cell (p := ⟨w3.heap.size, 0, none⟩) (lt_of_cell y0)).trans y0
              refine ite_y rfl (wp_val (.slice q1 m1 g1) ?_ ?_)
              · simp only [execOp, eval_tmp, tt]; simp [go_sem, dd0]
              · exact ⟨_, rfl, Below.refl _ _, rfl⟩
            · intro a W hb0 hs hp hi; have hb := undrew hb0; clear hb0
              have t7 : sl a 7 = .pointer (some ⟨wr.heap.size, 0, none⟩) := hi 7 (by decide)
              refine ite_y rfl (wp_val (.pointer (some ⟨wr.heap.size, 0, none⟩)) ?_ ?_)
              · simp only [execOp, eval_tmp, eval_const, t7]; simp [go_sem]
              · exact ⟨_, rfl, Below.refl _ _, rfl⟩
            · intro a W hb0 hs hp hi; have hb := undrew hb0; clear hb0
              have tt : sl a 27 = .pointer (some ⟨wr.heap.size, 0, none⟩) := hp 3 (by decide)
              have dd0 := (hb.cell (p := ⟨wr.heap.size, 0, none⟩) (lt_of_cell z0)).trans z0
              refine ite_y rfl (wp_val (.slice a1 b1 d1) ?_ ?_)
              · simp only [execOp, eval_tmp, tt]; simp [go_sem, dd0]
              · exact ⟨_, rfl, Below.refl _ _, rfl⟩
            · intro a W hb0 hs hp hi; have hb := undrew hb0; clear hb0
              have t28 : sl a 28 = .slice a1 b1 d1 := hp 4 (by decide)
              refine ite_y rfl (wp_enter 62 #[.slice a1 b1 d1] ?_ (HLD.out _ (T1.out.keep (AL.out.trans (hb.mono AL.out.size)))) ?_)
              · simp only [execOp, resolve, List.map_toArray, List.map, eval_tmp, eval_func, eval_const, t28]; simp [go_sem]
              · rintro e W' ⟨rfl, rfl⟩; exact ⟨_, rfl, _, rfl, Below.refl _ _, rfl⟩
            · intro a W hb0 hs hp hi; have hb := undrew hb0; clear hb0
              have t26 : sl a 26 = .slice q1 m1 g1 := hp 2 (by decide)
              have t29 : sl a 29 = .int .i64 LJ := hp 5 (by decide)
              refine ite_y rfl (wp_enter 61 #[.slice q1 m1 g1, .int .i64 LJ] ?_ (HAT.out _ (hS1.out.keep (AL.out.trans (hb.mono AL.out.size)))) ?_)
              · simp only [execOp, resolve, List.map_toArray, List.map, eval_tmp, eval_func, eval_const, t26, t29]; simp [go_sem]
              · rintro e W' ⟨rfl, rfl⟩; exact ⟨_, rfl, _, rfl, Below.refl _ _, rfl⟩
            · intro a W hb0 hs hp hi; have hb := undrew hb0; clear hb0
              have tt : sl a 7 = .pointer (some ⟨wr.heap.size, 0, none⟩) := hi 7 (by decide)
              have dd0 := (hb.cell (p := ⟨wr.heap.size, 0, none⟩) (lt_of_cell z0)).trans z0
              have dd1 := (hb.cell (p := ⟨wr.heap.size, 1, none⟩) (lt_of_cell z1)).trans z1
              refine ite_y rfl (wp_val (.agg #[.slice a1 b1 d1, .slice a2 b2 d2]) ?_ ?_)
              · simp only [execOp, eval_tmp, tt]; simp [go_sem, dd0, dd1]
              · exact ⟨_, rfl, Below.refl _ _, rfl⟩
            · intro a W hb0 hs hp hi; have hb := undrew hb0; clear hb0
              have t24 : sl a 24 = .agg #[.slice q1 m1 g1, .slice q2 m2 g2] := hp 0 (by decide)
              have t30 : sl a 30 = B8 CJ := hp 6 (by decide)
              have t31 : sl a 31 = .agg #[.slice a1 b1 d1, .slice a2 b2 d2] := hp 7 (by decide)
              refine ite_y rfl (wp_enter 60 #[.agg #[.slice q1 m1 g1, .slice q2 m2 g2], B8 CJ, .agg #[.slice a1 b1 d1, .slice a2 b2 d2]] ?_ (HLS.out _ (hS1.out.keep (AL.out.trans (hb.mono AL.out.size))) (hS2.out.keep (AL.out.trans (hb.mono AL.out.size))) (T1.out.keep (AL.out.trans (hb.mono AL.out.size))) (T2.out.keep (AL.out.trans (hb.mono AL.out.size)))) ?_)
              · simp only [execOp, resolve, List.map_toArray, List.map, eval_tmp, eval_func, eval_const, t24, t30, t31]; simp [go_sem]
              · rintro e W' ⟨q5, m5, g5, q6, m6, g6, e5, e6, rfl, o5, o6, hw⟩; have hbs := hb.size; simp at hbs; exact ⟨_, rfl, _, rfl, hw, _, rfl, q5, m5, g5, q6, m6, g6, rfl, Sl.of_owns o5, Sl.of_owns o6, fun a ha => Nat.le_trans (by omega) (owns_new o5 a ha).1, fun a ha => Nat.le_trans (by omega) (owns_new o6 a ha).1⟩
            · intro a W hb0 hs hp hi; have hb := undrew hb0; clear hb0
              have tt : RowTN (wr.heap.size) (YJ) (0) (sl a 32) W := hp 8 (by decide)
              exact ite_y rfl (wp_val (sl a 32) rfl ⟨_, rfl, Below.refl _ _, tt⟩)
            · intro a W hb0 hs hp hi; have hb := undrew hb0; clear hb0
              have tt : RowTN (wr.heap.size) (YJ) (0) (sl a 23) W := hp 9 (by decide)
              obtain ⟨u, tt, hr⟩ := tt
              exact ite_y rfl (wp_val u (by simp only [execOp, eval_tmp, tt]; rfl) ⟨_, rfl, Below.refl _ _, hr⟩)
            · intro a W hb0 hs hp hi; have hb := undrew hb0; clear hb0
              have tt : RowTN (wr.heap.size) (YJ) (0) (sl a 23) W := hp 9 (by decide)
              obtain ⟨u, tt, hr⟩ := tt
              exact ite_y rfl (wp_val (.int .i64 0) (by simp only [execOp, eval_tmp, tt]; rfl) ⟨_, rfl, Below.refl _ _, rfl⟩)
          · intro a w9 o ho hb hs hd hI ht
            simp at ho; subst ho
            have t5 : sl a 5 = .pointer (some ⟨w3.heap.size, 0, none⟩) := ht 5 (by decide)
            have t23 : RowTN (wr.heap.size) (YJ) (0) (sl a 23) w9 := hI 9 (by decide) (by decide)
            have t33 : RowN (wr.heap.size) (YJ) (sl a 33) w9 := hI 10 (by decide) (by decide)
            obtain ⟨uu, t23, -⟩ := t23
            obtain ⟨q5, m5, g5, q6, m6, g6, t33, s5, s6, s7, s8⟩ := t33
            have b9 : Below wr.heap.size wr w9 := AL.out.trans (hb.mono AL.out.size)
            have L9 : w9.heap[w3.heap.size]? = some (.cells #[.slice q1 m1 g1, .slice q2 m2 g2] 61 (0, 0)) := (b9.block _ (blk_lt hL.out)).trans hL.out
            obtain ⟨d0, d1⟩ := cells2 L9
            have f0 : w9.frozen? ⟨w3.heap.size, 0, none⟩ = false := frozen_of_row _ _ 0 _ _ L9
            have f1 : w9.frozen? ⟨w3.heap.size, 1, none⟩ = false := frozen_of_row _ _ 1 _ _ L9
            refine ⟨⟨_, _, t23⟩, wp_skipX (w' := (w9.setCell ⟨w3.heap.size, 0, none⟩ (.slice q5 m5 g5)).setCell ⟨w3.heap.size, 1, none⟩ (.slice q6 m6 g6)) ?_ ⟨rfl, fun b hbs hbd hbt => ?_⟩⟩
            · simp only [execOp, eval_tmp, t33, t5]; simp [go_sem, d0, d1, f0, f1]
            have ha := act_is [24, 25, 26, 27, 28, 29, 30, 31, 32, 23, 33, 34] hbs hbd (fun t h => (hbt t (fun e => by subst e; revert h; decide)).trans (ht t h)) (by decide)
            simp only [List.foldl] at ha
            generalize sl b 24 = u24 at ha
            generalize sl b 25 = u25 at ha
            generalize sl b 26 = u26 at ha
            generalize sl b 27 = u27 at ha
            generalize sl b 28 = u28 at ha
            generalize sl b 29 = u29 at ha
            generalize sl b 30 = u30 at ha
            generalize sl b 31 = u31 at ha
            generalize sl b 32 = u32 at ha
            generalize sl b 23 = u23 at ha
            generalize sl b 33 = u33 at ha
            generalize sl b 34 = u34 at ha
            simp only [Act.put, List.setIfInBounds_toArray, List.set_cons_zero, List.set_cons_succ] at ha
            rw [ha]; clear ha
            have NX := hNX.out w9 q5 m5 g5 q6 m6 g6 b9 s5 s6 s7 s8
            generalize (w9.setCell ⟨w3.heap.size, 0, none⟩ (.slice q5 m5 g5)).setCell ⟨w3.heap.size, 1, none⟩ (.slice q6 m6 g6) = wn at NX ⊢
            have NXH := Lib.hid NX
            clear NX s5 s6 s7 s8 hI ht hbt L9 d0 d1 f0 f1 b9 hb
            go_wp2
            go_roundw
            case rel => exact ⟨j + 1, q5, m5, g5, q6, m6, g6, by omega, by go_num, NXH.out.1, NXH.out.2.1, NXH.out.2.2.1, NXH.out.2.2.2.1, NXH.out.2.2.2.2.1, NXH.out.2.2.2.2.2⟩
            case measure => simp [intOf]; omega
        · have hjn : j = nk := by omega
          have hge : (nk : Int) ≤ (j : Int) := by omega
          obtain ⟨LF, hLF⟩ : ∃ LF, LF = restF (kF wd cells k) (rowF wd cells k, []) := ⟨_, rfl⟩
          have htk : (kF wd cells k).take j = kF wd cells k := List.take_of_length_le (by rw [hK.out.len]; omega)
          rw [htk, ← hLF] at hS1 hS2
          have hsucc : Hid (kF wd cells (k + 1) = if leadS LF.1 < 0 then kF wd cells k else kF wd cells k ++ [normS LF]) := by show _ = _; rw [kF_succ, hLF]; rfl
          have hx : Fit wd 0 (rowF wd cells k, []) := ⟨HRL.out k hlt, rfl⟩
          have hkept := HKK.out k (by omega)
          have fitX : Fit wd 0 LF := by rw [hLF]; exact hx.rest (fun a ha => (hkept.rows a ha).1)
          have lm1 : m1 = wd := by have := hS1.out.len; rw [fitX.1] at this; exact this.symm
          have lm2 : m2 = 0 := by have := hS2.out.len; rw [fitX.2] at this; exact this.symm
          have hzero : zeroS LF.1 = decide (leadS LF.1 < 0) := by
            rcases leadS_cases LF.1 with ⟨h1, _, h3⟩ | ⟨l, x, e, h1, h2, _⟩
            · rw [h1]; unfold zeroS; rw [List.all_eq_true.2 (fun x hx => decide_eq_true (h3 x hx))]; rfl
            · rw [e]
              have : zeroS LF.1 = false := by unfold zeroS; rw [List.all_eq_false]; exact ⟨x, List.mem_of_getElem? h1, by simpa using h2⟩
              rw [this]; exact (decide_eq_false (by omega)).symm
          have r1 : Hid (Room m1) := by rw [lm1]; exact HR
          have r2 : Hid (Room m2) := by show Room m2; rw [lm2]; unfold Room; omega
          have hsz3 : Hid (w.heap.size ≤ w3.heap.size) := BW3.out.size
          obtain ⟨y0, y1⟩ := cells2 hL.out
          have HJ := Lib.hid hjn
          clear hjn htk hLF hx hkept fitX lm1 lm2
          by_cases hneg : leadS LF.1 < 0
          · rw [decide_eq_true hneg] at hzero
            have HZ : Hid (∀ W, Sl B8 W q1 m1 g1 LF.1 → Calls Try.prog 63 #[.slice q1 m1 g1] W fun e w' => e = .returned (.bool true) ∧ W = w') := fun W h => by have := VZero_any _ _ _ LF.1 W h; rwa [hzero] at this
            have hs2 : Hid (kF wd cells (k + 1) = kF wd cells k) := by show _ = _; rw [hsucc.out, if_pos hneg]
            clear hzero hneg hsucc
            go_wp2_with fail
            refine Calls.mono (HZ.out _ hS1.out) ?_
            rintro e w' ⟨rfl, rfl⟩
            go_wp2
            go_roundw
            case rel => exact ⟨k + 1, nk, qk, ck, by omega, by omega, by go_num, rfl, by rw [hs2.out]; exact hK.out, hBw.out, hX.out⟩
            case measure => simp [intOf]; omega
          · rw [decide_eq_false hneg] at hzero
            have HZ : Hid (∀ W, Sl B8 W q1 m1 g1 LF.1 → Calls Try.prog 63 #[.slice q1 m1 g1] W fun e w' => e = .returned (.bool false) ∧ W = w') := fun W h => by have := VZero_any _ _ _ LF.1 W h; rwa [hzero] at this
            have hs2 : Hid (kF wd cells (k + 1) = kF wd cells k ++ [normS LF]) := by show _ = _; rw [hsucc.out, if_neg hneg]
            clear hzero hneg hsucc
            go_wp2_with fail
            refine Calls.mono (HZ.out _ hS1.out) ?_
            rintro e w' ⟨rfl, rfl⟩
            go_wp2_with fail
            refine Calls.mono (Norm_any q1 q2 m1 g1 m2 g2 LF.1 LF.2 _ hS1.out hS2.out r1.out r2.out) ?_
            rintro e w5 ⟨q5, m5, g5, q6, m6, g6, l5, l6, rfl, o5, o6, hb5⟩
            have s5 := hb5.size
            have K5 := hK.out.keep hb5
            have hB3 : ∀ o, Below w5.heap.size w5 (w5.alloc o) := fun o => al (Below.refl _ _) (Nat.le_refl _)
            have HB3 := Lib.hid hB3
            obtain ⟨vs, va, vb, vo, vr⟩ := K5
            have VO := Lib.hid vo; have VR := Lib.hid vr; have VA := Lib.hid va; have VB := Lib.hid vb
            have U1 : Hid (Bw 5 w5 w.heap.size (.slice q5 m5 g5) (normS LF).1) := ⟨q5, m5, g5, rfl, l5.out, owns_mono o5 hBw.out.size⟩
            have U2 : Hid (Bw 5 w5 w.heap.size (.slice q6 m6 g6) (normS LF).2) := ⟨q6, m6, g6, rfl, l6.out, owns_mono o6 hBw.out.size⟩
            have BW5 : Hid (Below w.heap.size w w5) := bl hBw.out hb5 hBw.out.size
            have X5 : Hid (w5.heap[w.heap.size]? = some (.cells #[.int .i64 h, .int .i64 wd, .slice p n c] 27 (0, 0))) := (hb5.block _ (blk_lt hX.out)).trans hX.out
            have nX : Hid (∀ kk, (Value.slice qk nk ck).ownBlock = some kk → kk ≠ w.heap.size) := fun kk hk e => by
              rcases vo.2 with ⟨hv, _⟩ | ⟨g', cap, cur, hv, _, hh, _⟩
              · simp at hv; rw [hv.1] at hk; simp [Value.ownBlock] at hk
              · simp at hv; rw [hv.1] at hk; simp [Value.ownBlock] at hk
                rw [hk, e, X5.out] at hh; injection hh with hh; injection hh with _ hh _; exact absurd hh (by decide)
            clear hK hBw hX hL hS1 hS2 o5 o6 hb5 vo vr va vb hB3 y0 y1 l5 l6 HZ r1 r2
            go_wp2_with (at_builtin; refine wpList_append_own _ rfl _ _ 79 rfl w.heap.size 61 r0 _ 2 48 Try.underlying79 hr0 hrz hr1 hr2 rfl (by omega) _ nk (fl2 vs) rfl (owns_keepv VO.out (HB3.out _)) ⟨w5.heap.size, 0, none⟩ 1 1 [.slice q5 m5 g5, .slice q6 m6 g6] rfl rfl ?c1 ?c2 ?c3 ?c4 ?c5 ?_)
            case c1 =>
              intro j x hj
              rw [Addr.add_lit, Nat.zero_add, cell_of_row _ _ j _ _ _ (hnew rfl)]
              match j with
              | 0 => simpa using hj
              | 1 => simpa using hj
              | j + 2 => simp at hj
            case c2 => intro x hx; simp at hx; rcases hx with rfl | rfl <;> rfl
            case c3 => unfold maxLen; omega
            case c4 => omega
            case c5 => have := BW5.out.size; simp; omega
            intro v' w6 ho6 hg6 _
            obtain ⟨qn, cn, rfl⟩ := owns_shape ho6
            have FIN : Hid (RwL 61 5 w6 w.heap.size (.slice qn (nk + 1) cn) (nk + 1) (kF wd cells (k + 1)) ∧ Below w.heap.size w w6 ∧ w6.heap[w.heap.size]? = some (.cells #[.int .i64 h, .int .i64 wd, .slice p n c] 27 (0, 0))) := by
              have hal := HB3.out (.cells #[.slice q5 m5 g5, .slice q6 m6 g6] 61)
              refine ⟨?_, ?_, ?_⟩
              · rw [hs2.out]
                exact RwL.push VA.out VB.out (owns_keepv VO.out hal) (fun j u hj => by obtain ⟨k', hk', g1, g2⟩ := VR.out j u hj; exact ⟨k', hk', g1.keep hal, g2.keep hal⟩) (by decide) (U1.out.keep hal) (U2.out.keep hal) ho6 hg6
              · exact (bl BW5.out hal BW5.out.size).grown hg6 (by have := BW5.out.size; simp; omega) (fun kk hk => (VO.out.lt kk hk).1)
              · rw [hg6.block _ (by have := BW5.out.size; simp; omega) (fun e => nX.out _ e.symm rfl), hal.block _ (blk_lt X5.out)]; exact X5.out
            clear ho6 hg6
            go_wp2
            go_roundw
            case rel => exact ⟨k + 1, nk + 1, qn, cn, by omega, by omega, by go_num, rfl, FIN.out.1, FIN.out.2.1, FIN.out.2.2⟩
            case measure => simp [intOf]; omega
    · have hkh : k = h := by omega
      have hge : (h : Int) ≤ (k : Int) := by omega
      have HL : Hid ((kF wd cells h).length = nk) := by show _ = _; rw [← hkh]; exact hK.out.len
      have HBF := Lib.hid hBw.out
      clear hkh hK hX hBw
      go_wp2
      go_ret
      exact ⟨by rw [HL.out]; rfl, HBF.out⟩
end Go.Proofs.Ytofhdakggapahaa
