/- The contract of the grid's Rank. Slices of rows that read so; the contract of the reference's Rest. The contract of a grid's Turned. The contracts of grid.Of where rows fit, or are uneven. The contract of the reference's Turned. The contract of the law's Made. The contract of a grid's Mul. A region that draws its order, with two stores (an exchange): each value that comes up is told ahead; the world is one of two till the last store. A system of equations in memory; New, Size, Rank. -/
import Derived.Test.YtofhdakggapahaaZn3
import Derived.Deep.RegionWith
import Derived.Deep.AppendLies
import Derived.Laws.CopyOwn
import Derived.BigRegion
namespace Go.Proofs.Ytofhdakggapahaa
open Go.RowKit Go.By
theorem info_vrow : (Try.prog.info? 61).map (fun i => (i.zero, i.size, i.bytes)) = some (some (.agg #[.slice none 0 0, .slice none 0 0]), 2, 48) := by kernel_rfl
/-- the rows kept of the first k -/
def kF (wd : Nat) (cells : List UInt8) (k : Nat) : List Rw := ((List.range k).map (rowF wd cells)).foldl (fun K r => keepF K (r, [])) []
theorem kF_succ (wd : Nat) (cells : List UInt8) (k : Nat) : kF wd cells (k + 1) = keepF (kF wd cells k) (rowF wd cells k, []) := by
  unfold kF; rw [List.range_succ, List.map_append, List.foldl_append]; rfl
theorem keepF_len (K : List Rw) (x : Rw) : (keepF K x).length ≤ K.length + 1 := by unfold keepF; split <;> simp
theorem kF_len (wd : Nat) (cells : List UInt8) : ∀ k, (kF wd cells k).length ≤ k
  | 0 => by simp [kF]
  | k + 1 => by rw [kF_succ]; exact Nat.le_trans (keepF_len _ _) (Nat.succ_le_succ (kF_len wd cells k))
theorem rowF_len {h wd i : Nat} {cells : List UInt8} (hl : cells.length = h * wd) (hi : i < h) : (rowF wd cells i).length = wd := by
  have : (i + 1) * wd ≤ h * wd := Nat.mul_le_mul_right _ hi
  rw [Nat.add_mul, Nat.one_mul] at this
  unfold rowF; rw [List.length_take, List.length_drop]; omega
theorem kF_kept {h wd : Nat} {cells : List UInt8} (hl : cells.length = h * wd) : ∀ k, k ≤ h → Kept wd 0 (kF wd cells k)
  | 0, _ => Kept.nil wd 0
  | k + 1, hk => by rw [kF_succ]; exact (kF_kept hl k (by omega)).step ⟨rowF_len hl (by omega), rfl⟩
theorem restF_snoc (K : List Rw) (k x : Rw) : restF (K ++ [k]) x = lessF (restF K x) (atS (restF K x).1 (leadS k.1)) k := by unfold restF; rw [List.foldl_append]; rfl
theorem restF_take {K : List Rw} {j : Nat} {k x : Rw} (h : K[j]? = some k) : restF (K.take (j + 1)) x = lessF (restF (K.take j) x) (atS (restF (K.take j) x).1 (leadS k.1)) k := by
  have e : K.take (j + 1) = K.take j ++ [k] := by
    rw [List.take_add_one, h]; rfl
  rw [e, restF_snoc]
theorem lessS_fit {n t : Nat} {x k : Rw} {c : UInt8} (hx : Fit n t x) (hk : Fit n t k) : lessS x c k = (lessF x c k, 0) := by
  unfold lessS lessF
  rw [if_pos ⟨by rw [hx.1, hk.1], by rw [hx.2, hk.2]⟩]
set_option maxRecDepth 100000 in
set_option maxHeartbeats 4000000 in
theorem Rank_any (h wd : Nat) (p : Option Addr) (n c : Nat) (cells : List UInt8) (w : World) (hs : Sl B8 w p n c cells) (hn : n = h * wd) (hr : Room wd) (hh : h ≤ 65536) :
    Calls Try.prog 20 #[.agg #[.int .i64 h, .int .i64 wd, .slice p n c]] w fun e w' => e = .returned (.int .i64 (kF wd cells h).length) ∧ Below w.heap.size w w' := by
  obtain ⟨r0, hr0, hrz, hr1, hr2⟩ := info_parts info_vrow
  have HKK : Hid (∀ k, k ≤ h → Kept wd 0 (kF wd cells k)) := kF_kept (by rw [hs.len, hn])
  have HRL : Hid (∀ i, i < h → (rowF wd cells i).length = wd) := fun i hi => rowF_len (by rw [hs.len, hn]) hi
  have HS := Lib.hid hs; have HN := Lib.hid hn
  have HR := Lib.hid hr
  have HB : Hid (∀ o, Below w.heap.size w (w.alloc o)) := fun o => al (Below.refl _ _) (Nat.le_refl _)
  clear hs hn hr
  go_enter Try.func20, Try.ntmps20
  go_wp2
  go_loopw [3, 10] (fun kept i wr => ∃ (k nk : Nat) (qk : Option Addr) (ck : Nat), k ≤ h ∧ nk ≤ k ∧ i = .int .i64 k ∧ kept = .slice qk nk ck ∧ Hid (RwL 61 5 wr w.heap.size (.slice qk nk ck) nk (kF wd cells k)) ∧ Hid (Below w.heap.size w wr) ∧
    Hid (wr.heap[w.heap.size]? = some (.cells #[.int .i64 h, .int .i64 wd, .slice p n c] 27 (0, 0)))) (fun _ i _ => h - (intOf i).toNat)
  case atStart => exact ⟨0, 0, none, 0, Nat.zero_le _, Nat.zero_le _, rfl, rfl, RwL.nil _ _ _ _, HB.out _, hnew rfl⟩
  case round =>
    obtain ⟨k, nk, qk, ck, hk, hnk, rfl, rfl, hK, hBw, hX⟩ := hrel
    by_cases hlt : k < h
    · obtain ⟨x0, x1, x2⟩ := cells3 hX.out
      go_wp2_with fail
      refine Calls.mono (row_any h wd k p n c cells wr (HS.out.keep hBw.out) HN.out hlt (by omega)) ?_
      rintro e w2 ⟨q', c', rfl, hs', -, hb'⟩
      have HS' := Lib.hid hs'
      have HB2 := Lib.hid hb'
      clear x0 x1 x2 hs' hb'
      go_wp2_with fail
      refine Calls.mono (Of_any q' none wd c' 0 0 (rowF wd cells k) [] w2 HS'.out (Sl.nil0 _ _) HR.out (show Room 0 by unfold Room; omega)) ?_
      rintro e w3 ⟨q1, m1, g1, q2, m2, g2, l1, l2, rfl, o1, o2, hb3⟩
      have HB3 : Hid (Below wr.heap.size wr w3) := bl HB2.out hb3 HB2.out.size
      have S1 := Lib.hid (Sl.of_owns o1); have S2 := Lib.hid (Sl.of_owns o2)
      have K3 : Hid (RwL 61 5 w3 w.heap.size (.slice qk nk ck) nk (kF wd cells k)) := hK.out.keep HB3.out
      have BW3 : Hid (Below w.heap.size w w3) := bl hBw.out HB3.out hBw.out.size
      have X3 : Hid (w3.heap[w.heap.size]? = some (.cells #[.int .i64 h, .int .i64 wd, .slice p n c] 27 (0, 0))) := (HB3.out.block _ (blk_lt hX.out)).trans hX.out
      have hkb : nk ≤ 65536 := by omega
      have HKB : Hid (∀ kk, (Value.slice qk nk ck).ownBlock = some kk → kk < w3.heap.size) := fun kk hk => (K3.out.lt kk hk).2
      clear hK hBw hX o1 o2 hb3 HB2 HB3 HS'
      go_wp2
      go_loopw [19] (fun i wq => ∃ (j : Nat) (q1 : Option Addr) (m1 g1 : Nat) (q2 : Option Addr) (m2 g2 : Nat), j ≤ nk ∧ i = .int .i64 j ∧ Hid (wq.heap[w3.heap.size]? = some (.cells #[.slice q1 m1 g1, .slice q2 m2 g2] 61 (0, 0))) ∧
        Hid (Sl B8 wq q1 m1 g1 (restF ((kF wd cells k).take j) (rowF wd cells k, [])).1) ∧ Hid (Sl B8 wq q2 m2 g2 (restF ((kF wd cells k).take j) (rowF wd cells k, [])).2) ∧
        Hid (RwL 61 5 wq w.heap.size (.slice qk nk ck) nk (kF wd cells k)) ∧ Hid (Below w.heap.size w wq) ∧ Hid (wq.heap[w.heap.size]? = some (.cells #[.int .i64 h, .int .i64 wd, .slice p n c] 27 (0, 0)))) (fun i _ => nk - (intOf i).toNat)
      case atStart => exact ⟨0, q1, m1, g1, q2, m2, g2, Nat.zero_le _, rfl, hnew rfl, S1.out.keep (al (Below.refl _ _) (Nat.le_refl _)), S2.out.keep (al (Below.refl _ _) (Nat.le_refl _)), K3.out.keep (al (Below.refl _ _) (Nat.le_refl _)), al BW3.out BW3.out.size, hal X3.out⟩
      case round =>
        clear S1 S2 K3 X3 l1 l2
        obtain ⟨j, q1, m1, g1, q2, m2, g2, hj, rfl, hL, hS1, hS2, hK, hBw, hX⟩ := hrel
        by_cases hjl : j < nk
        · obtain ⟨gk, kk, a1, b1, d1, a2, b2, d2, rfl, e1, e2, hkk, t1, t2⟩ := hK.out.at hjl
          have T1 := Lib.hid t1; have T2 := Lib.hid t2
          have jn : (j : Int) < (nk : Int) := by omega
          obtain ⟨y0, y1⟩ := cells2 hL.out
          have E1 := Lib.hid e1; have E2 := Lib.hid e2
          have hx : Fit wd 0 (rowF wd cells k, []) := ⟨HRL.out k hlt, rfl⟩
          have hkept := HKK.out k (by omega)
          have fitK : Fit wd 0 kk := (hkept.rows kk (List.mem_of_getElem? hkk.out)).1
          obtain ⟨XJ, hXJ⟩ : ∃ XJ, XJ = restF ((kF wd cells k).take j) (rowF wd cells k, []) := ⟨_, rfl⟩
          have fitX : Fit wd 0 XJ := by rw [hXJ]; exact hx.rest (fun a ha => (hkept.rows a (List.mem_of_mem_take ha)).1)
          rw [← hXJ] at hS1 hS2
          obtain ⟨LJ, hLJ⟩ : ∃ LJ, LJ = leadS kk.1 := ⟨_, rfl⟩
          obtain ⟨CJ, hCJ⟩ : ∃ CJ, CJ = atS XJ.1 LJ := ⟨_, rfl⟩
          obtain ⟨YJ, hYJ⟩ : ∃ YJ, YJ = lessF XJ CJ kk := ⟨_, rfl⟩
          have hnext : Hid (restF ((kF wd cells k).take (j + 1)) (rowF wd cells k, []) = YJ) := by show _ = _; rw [restF_take hkk.out, ← hXJ, hYJ, hCJ, hLJ]
          have lm1 : m1 = wd := by have := hS1.out.len; rw [fitX.1] at this; exact this.symm
          have lm2 : m2 = 0 := by have := hS2.out.len; rw [fitX.2] at this; exact this.symm
          have HLD : Hid (∀ W, Sl B8 W a1 b1 d1 kk.1 → Calls Try.prog 62 #[.slice a1 b1 d1] W fun e w' => e = .returned (.int .i64 LJ) ∧ W = w') := fun W h => by rw [hLJ]; exact Lead_any _ _ _ _ W h
          have HAT : Hid (∀ W, Sl B8 W q1 m1 g1 XJ.1 → Calls Try.prog 61 #[.slice q1 m1 g1, .int .i64 LJ] W fun e w' => e = .returned (B8 CJ) ∧ W = w') := fun W h => by rw [hCJ]; exact At_any _ _ _ _ LJ W h
          have HLS : Hid (∀ W, Sl B8 W q1 m1 g1 XJ.1 → Sl B8 W q2 m2 g2 XJ.2 → Sl B8 W a1 b1 d1 kk.1 → Sl B8 W a2 b2 d2 kk.2 → Calls Try.prog 60 #[.agg #[.slice q1 m1 g1, .slice q2 m2 g2], B8 CJ, .agg #[.slice a1 b1 d1, .slice a2 b2 d2]] W (RetR2 5 W YJ 0)) := fun W h1 h2 h3 h4 => by
            have := Less_any q1 q2 a1 a2 m1 g1 m2 g2 b1 d1 b2 d2 XJ.1 XJ.2 kk.1 kk.2 CJ W h1 h2 h3 h4 (by rw [lm1]; exact HR.out) (by rw [lm2]; unfold Room; omega)
            rw [lessS_fit (n := wd) (t := 0) (x := XJ) (k := kk) fitX fitK, ← hYJ] at this
            exact this
          have AL : Hid (Below wr.heap.size wr (wr.alloc (.cells #[.slice a1 b1 d1, .slice a2 b2 d2] 61))) := al (Below.refl _ _) (Nat.le_refl _)
          have hsz3 : Hid (w.heap.size ≤ w3.heap.size) := BW3.out.size
          have hne3 : Hid (w.heap.size ≠ w3.heap.size) := fun e => by have h1 := hX.out; have h2 := hL.out; rw [e] at h1; rw [h1] at h2; injection h2 with h2; injection h2 with h2 h3; exact absurd (congrArg Array.size h2) (by simp)
          have hNX : Hid (∀ (w9 : World) (q5 : Option Addr) (m5 g5 : Nat) (q6 : Option Addr) (m6 g6 : Nat), Below wr.heap.size wr w9 → Sl B8 w9 q5 m5 g5 YJ.1 → Sl B8 w9 q6 m6 g6 YJ.2 → (∀ a, q5 = some a → wr.heap.size ≤ a.block) → (∀ a, q6 = some a → wr.heap.size ≤ a.block) →
              ((w9.setCell ⟨w3.heap.size, 0, none⟩ (.slice q5 m5 g5)).setCell ⟨w3.heap.size, 1, none⟩ (.slice q6 m6 g6)).heap[w3.heap.size]? = some (.cells #[.slice q5 m5 g5, .slice q6 m6 g6] 61 (0, 0)) ∧
              Sl B8 ((w9.setCell ⟨w3.heap.size, 0, none⟩ (.slice q5 m5 g5)).setCell ⟨w3.heap.size, 1, none⟩ (.slice q6 m6 g6)) q5 m5 g5 (restF ((kF wd cells k).take (j + 1)) (rowF wd cells k, [])).1 ∧
              Sl B8 ((w9.setCell ⟨w3.heap.size, 0, none⟩ (.slice q5 m5 g5)).setCell ⟨w3.heap.size, 1, none⟩ (.slice q6 m6 g6)) q6 m6 g6 (restF ((kF wd cells k).take (j + 1)) (rowF wd cells k, [])).2 ∧
              RwL 61 5 ((w9.setCell ⟨w3.heap.size, 0, none⟩ (.slice q5 m5 g5)).setCell ⟨w3.heap.size, 1, none⟩ (.slice q6 m6 g6)) w.heap.size (.slice (some ⟨gk, 0, none⟩) nk ck) nk (kF wd cells k) ∧
              Below w.heap.size w ((w9.setCell ⟨w3.heap.size, 0, none⟩ (.slice q5 m5 g5)).setCell ⟨w3.heap.size, 1, none⟩ (.slice q6 m6 g6)) ∧
              ((w9.setCell ⟨w3.heap.size, 0, none⟩ (.slice q5 m5 g5)).setCell ⟨w3.heap.size, 1, none⟩ (.slice q6 m6 g6)).heap[w.heap.size]? = some (.cells #[.int .i64 h, .int .i64 wd, .slice p n c] 27 (0, 0))) := by
            intro w9 q5 m5 g5 q6 m6 g6 b9 s5 s6 s7 s8
            have L9 : w9.heap[w3.heap.size]? = some (.cells #[.slice q1 m1 g1, .slice q2 m2 g2] 61 (0, 0)) := (b9.block _ (blk_lt hL.out)).trans hL.out
            have X9 : w9.heap[w.heap.size]? = some (.cells #[.int .i64 h, .int .i64 wd, .slice p n c] 27 (0, 0)) := (b9.block _ (blk_lt hX.out)).trans hX.out
            have K9 := hK.out.keep b9
            rw [hnext.out]
            have hl3 := blk_lt hL.out
            have ne5 : ∀ a, q5 = some a → a.block ≠ w3.heap.size := fun a ha => by have := s7 a ha; omega
            have ne6 : ∀ a, q6 = some a → a.block ≠ w3.heap.size := fun a ha => by have := s8 a ha; omega
            have gb := grown_trans (grownBy_setCell' w9 w3.heap.size 0 (.slice q5 m5 g5)) (grownBy_setCell' (w9.setCell ⟨w3.heap.size, 0, none⟩ (.slice q5 m5 g5)) w3.heap.size 1 (.slice q6 m6 g6))
            have hgk : (Value.slice (some ⟨gk, 0, none⟩) nk ck).ownBlock ≠ some w3.heap.size := fun e => Nat.lt_irrefl _ (HKB.out _ e)
            exact ⟨hss (hss L9), (s5.set ne5).set ne5, (s6.set ne6).set ne6, K9.set L9 (by decide) hgk gb, ((bl hBw.out b9 hBw.out.size).setCell hsz3.out _).setCell hsz3.out _, hsc (hsc X9 hne3.out) hne3.out⟩
          have z0 : (wr.alloc (.cells #[.slice a1 b1 d1, .slice a2 b2 d2] 61)).cell? ⟨wr.heap.size, 0, none⟩ = some (.slice a1 b1 d1) := cell_of_row _ _ 0 _ _ _ (hnew rfl)
          have z1 : (wr.alloc (.cells #[.slice a1 b1 d1, .slice a2 b2 d2] 61)).cell? ⟨wr.heap.size, 1, none⟩ = some (.slice a2 b2 d2) := cell_of_row _ _ 1 _ _ _ (hnew rfl)
          clear hXJ hLJ hCJ hYJ hx hkept fitK fitX lm1 lm2 t1 t2
          clear z0 z1 y0 y1
          go_wp2
          have z0 : (wr.alloc (.cells #[.slice a1 b1 d1, .slice a2 b2 d2] 61)).cell? ⟨wr.heap.size, 0, none⟩ = some (.slice a1 b1 d1) := cell_of_row _ _ 0 _ _ _ (hnew rfl)
          have z1 : (wr.alloc (.cells #[.slice a1 b1 d1, .slice a2 b2 d2] 61)).cell? ⟨wr.heap.size, 1, none⟩ = some (.slice a2 b2 d2) := cell_of_row _ _ 1 _ _ _ (hnew rfl)
          obtain ⟨y0, y1⟩ := cells2 (hal (o := .cells #[.slice a1 b1 d1, .slice a2 b2 d2] 61) hL.out)
          refine wp_region_late (fun ix => ([.val (.agg #[.slice q1 m1 g1, .slice q2 m2 g2]), .val (.pointer (some ⟨w3.heap.size, 0, none⟩)), .val (.slice q1 m1 g1), .val (.pointer (some ⟨wr.heap.size, 0, none⟩)), .val (.slice a1 b1 d1), .val (.int .i64 LJ), .val (B8 CJ), .val (.agg #[.slice a1 b1 d1, .slice a2 b2 d2]), .rowTN (wr.heap.size) (YJ) (0), .rowTN (wr.heap.size) (YJ) (0), .rowN (wr.heap.size) (YJ), .val (.int .i64 0), .any][ix]?).getD (.any)) 48 12 11 23 34 rfl (by kernel_rfl) (by decide) (by decide) (by decide) _ rfl rfl rfl (by decide) (fun a u x w h => run_extract1 _ rfl h) (by decide) ?_ ?_
          · refine ⟨?_, ?_, ?_, ?_, ?_, ?_, ?_, ?_, ?_, ?_, ?_, ?_, trivial⟩
            · intro a W hb0 hs hp hi; have hb := undrew hb0; clear hb0
              have tt : sl a 5 = .pointer (some ⟨w3.heap.size, 0, none⟩) := hi 5 (by decide)
              have dd0 := (hb.cell (p := ⟨w3.heap.size, 0, none⟩) (lt_of_cell y0)).trans y0
              have dd1 := (hb.cell (p := ⟨w3.heap.size, 1, none⟩) (lt_of_cell y1)).trans y1
              refine ite_y rfl (wp_val (.agg #[.slice q1 m1 g1, .slice q2 m2 g2]) ?_ ?_)
              · simp only [execOp, eval_tmp, tt]; simp [go_sem, dd0, dd1]
              · exact ⟨_, rfl, Below.refl _ _, rfl⟩
            · intro a W hb0 hs hp hi; have hb := undrew hb0; clear hb0
              have t5 : sl a 5 = .pointer (some ⟨w3.heap.size, 0, none⟩) := hi 5 (by decide)
              refine ite_y rfl (wp_val (.pointer (some ⟨w3.heap.size, 0, none⟩)) ?_ ?_)
              · simp only [execOp, eval_tmp, eval_const, t5]; simp [go_sem]
              · exact ⟨_, rfl, Below.refl _ _, rfl⟩
            · intro a W hb0 hs hp hi; have hb := undrew hb0; clear hb0
              have tt : sl a 25 = .pointer (some ⟨w3.heap.size, 0, none⟩) := hp 1 (by decide)
              have dd0 := (hb.cell (p := ⟨w3.heap.size, 0, none⟩) (lt_of_cell y0)).trans y0
              refine ite_y rfl (wp_val (.slice q1 m1 g1) ?_ ?_)
              · simp only [execOp, eval_tmp, tt]; simp [go_sem, dd0]
              · exact ⟨_, rfl, Below.refl _ _, rfl⟩
            · intro a W hb0 hs hp hi; have hb := undrew hb0; clear hb0
              have t7 : sl a 7 = .pointer (some ⟨wr.heap.size, 0, none⟩) := hi 7 (by decide)
              refine ite_y rfl (wp_val (.pointer (some ⟨wr.heap.size, 0, none⟩)) ?_ ?_)
              · simp only [execOp, eval_tmp, eval_const, t7]; simp [go_sem]
              · exact ⟨_, rfl, Below.refl _ _, rfl⟩
            · intro a W hb0 hs hp hi; have hb := undrew hb0; clear hb0
              have tt : sl a 27 = .pointer (some ⟨wr.heap.size, 0, none⟩) := hp 3 (by decide)
              have dd0 := (hb.cell (p := ⟨wr.heap.size, 0, none⟩) (lt_of_cell z0)).trans z0
              refine ite_y rfl (wp_val (.slice a1 b1 d1) ?_ ?_)
              · simp only [execOp, eval_tmp, tt]; simp [go_sem, dd0]
              · exact ⟨_, rfl, Below.refl _ _, rfl⟩
            · intro a W hb0 hs hp hi; have hb := undrew hb0; clear hb0
              have t28 : sl a 28 = .slice a1 b1 d1 := hp 4 (by decide)
              refine ite_y rfl (wp_enter 62 #[.slice a1 b1 d1] ?_ (HLD.out _ (T1.out.keep (AL.out.trans (hb.mono AL.out.size)))) ?_)
              · simp only [execOp, resolve, List.map_toArray, List.map, eval_tmp, eval_func, eval_const, t28]; simp [go_sem]
              · rintro e W' ⟨rfl, rfl⟩; exact ⟨_, rfl, _, rfl, Below.refl _ _, rfl⟩
            · intro a W hb0 hs hp hi; have hb := undrew hb0; clear hb0
              have t26 : sl a 26 = .slice q1 m1 g1 := hp 2 (by decide)
              have t29 : sl a 29 = .int .i64 LJ := hp 5 (by decide)
              refine ite_y rfl (wp_enter 61 #[.slice q1 m1 g1, .int .i64 LJ] ?_ (HAT.out _ (hS1.out.keep (AL.out.trans (hb.mono AL.out.size)))) ?_)
              · simp only [execOp, resolve, List.map_toArray, List.map, eval_tmp, eval_func, eval_const, t26, t29]; simp [go_sem]
              · rintro e W' ⟨rfl, rfl⟩; exact ⟨_, rfl, _, rfl, Below.refl _ _, rfl⟩
            · intro a W hb0 hs hp hi; have hb := undrew hb0; clear hb0
              have tt : sl a 7 = .pointer (some ⟨wr.heap.size, 0, none⟩) := hi 7 (by decide)
              have dd0 := (hb.cell (p := ⟨wr.heap.size, 0, none⟩) (lt_of_cell z0)).trans z0
              have dd1 := (hb.cell (p := ⟨wr.heap.size, 1, none⟩) (lt_of_cell z1)).trans z1
              refine ite_y rfl (wp_val (.agg #[.slice a1 b1 d1, .slice a2 b2 d2]) ?_ ?_)
              · simp only [execOp, eval_tmp, tt]; simp [go_sem, dd0, dd1]
              · exact ⟨_, rfl, Below.refl _ _, rfl⟩
            · intro a W hb0 hs hp hi; have hb := undrew hb0; clear hb0
              have t24 : sl a 24 = .agg #[.slice q1 m1 g1, .slice q2 m2 g2] := hp 0 (by decide)
              have t30 : sl a 30 = B8 CJ := hp 6 (by decide)
              have t31 : sl a 31 = .agg #[.slice a1 b1 d1, .slice a2 b2 d2] := hp 7 (by decide)
              refine ite_y rfl (wp_enter 60 #[.agg #[.slice q1 m1 g1, .slice q2 m2 g2], B8 CJ, .agg #[.slice a1 b1 d1, .slice a2 b2 d2]] ?_ (HLS.out _ (hS1.out.keep (AL.out.trans (hb.mono AL.out.size))) (hS2.out.keep (AL.out.trans (hb.mono AL.out.size))) (T1.out.keep (AL.out.trans (hb.mono AL.out.size))) (T2.out.keep (AL.out.trans (hb.mono AL.out.size)))) ?_)
              · simp only [execOp, resolve, List.map_toArray, List.map, eval_tmp, eval_func, eval_const, t24, t30, t31]; simp [go_sem]
              · rintro e W' ⟨q5, m5, g5, q6, m6, g6, e5, e6, rfl, o5, o6, hw⟩; have hbs := hb.size; simp at hbs; exact ⟨_, rfl, _, rfl, hw, _, rfl, q5, m5, g5, q6, m6, g6, rfl, Sl.of_owns o5, Sl.of_owns o6, fun a ha => Nat.le_trans (by omega) (owns_new o5 a ha).1, fun a ha => Nat.le_trans (by omega) (owns_new o6 a ha).1⟩
            · intro a W hb0 hs hp hi; have hb := undrew hb0; clear hb0
              have tt : RowTN (wr.heap.size) (YJ) (0) (sl a 32) W := hp 8 (by decide)
              exact ite_y rfl (wp_val (sl a 32) rfl ⟨_, rfl, Below.refl _ _, tt⟩)
            · intro a W hb0 hs hp hi; have hb := undrew hb0; clear hb0
              have tt : RowTN (wr.heap.size) (YJ) (0) (sl a 23) W := hp 9 (by decide)
              obtain ⟨u, tt, hr⟩ := tt
              exact ite_y rfl (wp_val u (by simp only [execOp, eval_tmp, tt]; rfl) ⟨_, rfl, Below.refl _ _, hr⟩)
            · intro a W hb0 hs hp hi; have hb := undrew hb0; clear hb0
              have tt : RowTN (wr.heap.size) (YJ) (0) (sl a 23) W := hp 9 (by decide)
              obtain ⟨u, tt, hr⟩ := tt
              exact ite_y rfl (wp_val (.int .i64 0) (by simp only [execOp, eval_tmp, tt]; rfl) ⟨_, rfl, Below.refl _ _, rfl⟩)
          · intro a w9 o ho hb hs hd hI ht
            simp at ho; subst ho
            have t5 : sl a 5 = .pointer (some ⟨w3.heap.size, 0, none⟩) := ht 5 (by decide)
            have t23 : RowTN (wr.heap.size) (YJ) (0) (sl a 23) w9 := hI 9 (by decide) (by decide)
            have t33 : RowN (wr.heap.size) (YJ) (sl a 33) w9 := hI 10 (by decide) (by decide)
            obtain ⟨uu, t23, -⟩ := t23
            obtain ⟨q5, m5, g5, q6, m6, g6, t33, s5, s6, s7, s8⟩ := t33
            have b9 : Below wr.heap.size wr w9 := AL.out.trans (hb.mono AL.out.size)
            have L9 : w9.heap[w3.heap.size]? = some (.cells #[.slice q1 m1 g1, .slice q2 m2 g2] 61 (0, 0)) := (b9.block _ (blk_lt hL.out)).trans hL.out
            obtain ⟨d0, d1⟩ := cells2 L9
            have f0 : w9.frozen? ⟨w3.heap.size, 0, none⟩ = false := frozen_of_row _ _ 0 _ _ L9
            have f1 : w9.frozen? ⟨w3.heap.size, 1, none⟩ = false := frozen_of_row _ _ 1 _ _ L9
            refine ⟨⟨_, _, t23⟩, wp_skipX (w' := (w9.setCell ⟨w3.heap.size, 0, none⟩ (.slice q5 m5 g5)).setCell ⟨w3.heap.size, 1, none⟩ (.slice q6 m6 g6)) ?_ ⟨rfl, fun b hbs hbd hbt => ?_⟩⟩
            · simp only [execOp, eval_tmp, t33, t5]; simp [go_sem, d0, d1, f0, f1]
            have ha := act_is [24, 25, 26, 27, 28, 29, 30, 31, 32, 23, 33, 34] hbs hbd (fun t h => (hbt t (fun e => by subst e; revert h; decide)).trans (ht t h)) (by decide)
            simp only [List.foldl] at ha
            generalize sl b 24 = u24 at ha
            generalize sl b 25 = u25 at ha
            generalize sl b 26 = u26 at ha
            generalize sl b 27 = u27 at ha
            generalize sl b 28 = u28 at ha
            generalize sl b 29 = u29 at ha
            generalize sl b 30 = u30 at ha
            generalize sl b 31 = u31 at ha
            generalize sl b 32 = u32 at ha
            generalize sl b 23 = u23 at ha
            generalize sl b 33 = u33 at ha
            generalize sl b 34 = u34 at ha
            simp only [Act.put, List.setIfInBounds_toArray, List.set_cons_zero, List.set_cons_succ] at ha
            rw [ha]; clear ha
            have NX := hNX.out w9 q5 m5 g5 q6 m6 g6 b9 s5 s6 s7 s8
            generalize (w9.setCell ⟨w3.heap.size, 0, none⟩ (.slice q5 m5 g5)).setCell ⟨w3.heap.size, 1, none⟩ (.slice q6 m6 g6) = wn at NX ⊢
            have NXH := Lib.hid NX
            clear NX s5 s6 s7 s8 hI ht hbt L9 d0 d1 f0 f1 b9 hb
            go_wp2
            go_roundw
            case rel => exact ⟨j + 1, q5, m5, g5, q6, m6, g6, by omega, by go_num, NXH.out.1, NXH.out.2.1, NXH.out.2.2.1, NXH.out.2.2.2.1, NXH.out.2.2.2.2.1, NXH.out.2.2.2.2.2⟩
            case measure => simp [intOf]; omega
        · have hjn : j = nk := by omega
          have hge : (nk : Int) ≤ (j : Int) := by omega
          obtain ⟨LF, hLF⟩ : ∃ LF, LF = restF (kF wd cells k) (rowF wd cells k, []) := ⟨_, rfl⟩
          have htk : (kF wd cells k).take j = kF wd cells k := List.take_of_length_le (by rw [hK.out.len]; omega)
          rw [htk, ← hLF] at hS1 hS2
          have hsucc : Hid (kF wd cells (k + 1) = if leadS LF.1 < 0 then kF wd cells k else kF wd cells k ++ [normS LF]) := by show _ = _; rw [kF_succ, hLF]; rfl
          have hx : Fit wd 0 (rowF wd cells k, []) := ⟨HRL.out k hlt, rfl⟩
          have hkept := HKK.out k (by omega)
          have fitX : Fit wd 0 LF := by rw [hLF]; exact hx.rest (fun a ha => (hkept.rows a ha).1)
          have lm1 : m1 = wd := by have := hS1.out.len; rw [fitX.1] at this; exact this.symm
          have lm2 : m2 = 0 := by have := hS2.out.len; rw [fitX.2] at this; exact this.symm
          have hzero : zeroS LF.1 = decide (leadS LF.1 < 0) := by
            rcases leadS_cases LF.1 with ⟨h1, _, h3⟩ | ⟨l, x, e, h1, h2, _⟩
            · rw [h1]; unfold zeroS; rw [List.all_eq_true.2 (fun x hx => decide_eq_true (h3 x hx))]; rfl
            · rw [e]
              have : zeroS LF.1 = false := by unfold zeroS; rw [List.all_eq_false]; exact ⟨x, List.mem_of_getElem? h1, by simpa using h2⟩
              rw [this]; exact (decide_eq_false (by omega)).symm
          have r1 : Hid (Room m1) := by rw [lm1]; exact HR
          have r2 : Hid (Room m2) := by show Room m2; rw [lm2]; unfold Room; omega
          have hsz3 : Hid (w.heap.size ≤ w3.heap.size) := BW3.out.size
          obtain ⟨y0, y1⟩ := cells2 hL.out
          have HJ := Lib.hid hjn
          clear hjn htk hLF hx hkept fitX lm1 lm2
          by_cases hneg : leadS LF.1 < 0
          · rw [decide_eq_true hneg] at hzero
            have HZ : Hid (∀ W, Sl B8 W q1 m1 g1 LF.1 → Calls Try.prog 63 #[.slice q1 m1 g1] W fun e w' => e = .returned (.bool true) ∧ W = w') := fun W h => by have := VZero_any _ _ _ LF.1 W h; rwa [hzero] at this
            have hs2 : Hid (kF wd cells (k + 1) = kF wd cells k) := by show _ = _; rw [hsucc.out, if_pos hneg]
            clear hzero hneg hsucc
            go_wp2_with fail
            refine Calls.mono (HZ.out _ hS1.out) ?_
            rintro e w' ⟨rfl, rfl⟩
            go_wp2
            go_roundw
            case rel => exact ⟨k + 1, nk, qk, ck, by omega, by omega, by go_num, rfl, by rw [hs2.out]; exact hK.out, hBw.out, hX.out⟩
            case measure => simp [intOf]; omega
          · rw [decide_eq_false hneg] at hzero
            have HZ : Hid (∀ W, Sl B8 W q1 m1 g1 LF.1 → Calls Try.prog 63 #[.slice q1 m1 g1] W fun e w' => e = .returned (.bool false) ∧ W = w') := fun W h => by have := VZero_any _ _ _ LF.1 W h; rwa [hzero] at this
            have hs2 : Hid (kF wd cells (k + 1) = kF wd cells k ++ [normS LF]) := by show _ = _; rw [hsucc.out, if_neg hneg]
            clear hzero hneg hsucc
            go_wp2_with fail
            refine Calls.mono (HZ.out _ hS1.out) ?_
            rintro e w' ⟨rfl, rfl⟩
            go_wp2_with fail
            refine Calls.mono (Norm_any q1 q2 m1 g1 m2 g2 LF.1 LF.2 _ hS1.out hS2.out r1.out r2.out) ?_
            rintro e w5 ⟨q5, m5, g5, q6, m6, g6, l5, l6, rfl, o5, o6, hb5⟩
            have s5 := hb5.size
            have K5 := hK.out.keep hb5
            have hB3 : ∀ o, Below w5.heap.size w5 (w5.alloc o) := fun o => al (Below.refl _ _) (Nat.le_refl _)
            have HB3 := Lib.hid hB3
            obtain ⟨vs, va, vb, vo, vr⟩ := K5
            have VO := Lib.hid vo; have VR := Lib.hid vr; have VA := Lib.hid va; have VB := Lib.hid vb
            have U1 : Hid (Bw 5 w5 w.heap.size (.slice q5 m5 g5) (normS LF).1) := ⟨q5, m5, g5, rfl, l5.out, owns_mono o5 hBw.out.size⟩
            have U2 : Hid (Bw 5 w5 w.heap.size (.slice q6 m6 g6) (normS LF).2) := ⟨q6, m6, g6, rfl, l6.out, owns_mono o6 hBw.out.size⟩
            have BW5 : Hid (Below w.heap.size w w5) := bl hBw.out hb5 hBw.out.size
            have X5 : Hid (w5.heap[w.heap.size]? = some (.cells #[.int .i64 h, .int .i64 wd, .slice p n c] 27 (0, 0))) := (hb5.block _ (blk_lt hX.out)).trans hX.out
            have nX : Hid (∀ kk, (Value.slice qk nk ck).ownBlock = some kk → kk ≠ w.heap.size) := fun kk hk e => by
              rcases vo.2 with ⟨hv, _⟩ | ⟨g', cap, cur, hv, _, hh, _⟩
              · simp at hv; rw [hv.1] at hk; simp [Value.ownBlock] at hk
              · simp at hv; rw [hv.1] at hk; simp [Value.ownBlock] at hk
                rw [hk, e, X5.out] at hh; injection hh with hh; injection hh with _ hh _; exact absurd hh (by decide)
            clear hK hBw hX hL hS1 hS2 o5 o6 hb5 vo vr va vb hB3 y0 y1 l5 l6 HZ r1 r2
            go_wp2_with (at_builtin; refine wpList_append_own _ rfl _ _ 79 rfl w.heap.size 61 r0 _ 2 48 Try.underlying79 hr0 hrz hr1 hr2 rfl (by omega) _ nk (fl2 vs) rfl (owns_keepv VO.out (HB3.out _)) ⟨w5.heap.size, 0, none⟩ 1 1 [.slice q5 m5 g5, .slice q6 m6 g6] rfl rfl ?c1 ?c2 ?c3 ?c4 ?c5 ?_)
            case c1 =>
              intro j x hj
              rw [Addr.add_lit, Nat.zero_add, cell_of_row _ _ j _ _ _ (hnew rfl)]
              match j with
              | 0 => simpa using hj
              | 1 => simpa using hj
              | j + 2 => simp at hj
            case c2 => intro x hx; simp at hx; rcases hx with rfl | rfl <;> rfl
            case c3 => unfold maxLen; omega
            case c4 => omega
            case c5 => have := BW5.out.size; simp; omega
            intro v' w6 ho6 hg6 _
            obtain ⟨qn, cn, rfl⟩ := owns_shape ho6
            have FIN : Hid (RwL 61 5 w6 w.heap.size (.slice qn (nk + 1) cn) (nk + 1) (kF wd cells (k + 1)) ∧ Below w.heap.size w w6 ∧ w6.heap[w.heap.size]? = some (.cells #[.int .i64 h, .int .i64 wd, .slice p n c] 27 (0, 0))) := by
              have hal := HB3.out (.cells #[.slice q5 m5 g5, .slice q6 m6 g6] 61)
              refine ⟨?_, ?_, ?_⟩
              · rw [hs2.out]
                exact RwL.push VA.out VB.out (owns_keepv VO.out hal) (fun j u hj => by obtain ⟨k', hk', g1, g2⟩ := VR.out j u hj; exact ⟨k', hk', g1.keep hal, g2.keep hal⟩) (by decide) (U1.out.keep hal) (U2.out.keep hal) ho6 hg6
              · exact (bl BW5.out hal BW5.out.size).grown hg6 (by have := BW5.out.size; simp; omega) (fun kk hk => (VO.out.lt kk hk).1)
              · rw [hg6.block _ (by have := BW5.out.size; simp; omega) (fun e => nX.out _ e.symm rfl), hal.block _ (blk_lt X5.out)]; exact X5.out
            clear ho6 hg6
            go_wp2
            go_roundw
            case rel => exact ⟨k + 1, nk + 1, qn, cn, by omega, by omega, by go_num, rfl, FIN.out.1, FIN.out.2.1, FIN.out.2.2⟩
            case measure => simp [intOf]; omega
    · have hkh : k = h := by omega
      have hge : (h : Int) ≤ (k : Int) := by omega
      have HL : Hid ((kF wd cells h).length = nk) := by show _ = _; rw [← hkh]; exact hK.out.len
      have HBF := Lib.hid hBw.out
      clear hkh hK hX hBw
      go_wp2
      go_ret
      exact ⟨by rw [HL.out]; rfl, HBF.out⟩
end Go.Proofs.Ytofhdakggapahaa
namespace Go.By
open Go.RowKit
/-- a slice of rows, as it reads -/
structure RwS (w : World) (p : Option Addr) (n c : Nat) (K : List (List UInt8 × List UInt8)) : Prop where
  len : K.length = n
  le : n ≤ c
  max : c ≤ maxLen
  nil : p = none → n = 0 ∧ c = 0
  row : ∀ (j : Nat) (k : List UInt8 × List UInt8), K[j]? = some k → ∃ b o q1 m1 c1 q2 m2 c2, p = some ⟨b, o, none⟩ ∧ w.cell? ⟨b, o + j * 2, none⟩ = some (.slice q1 m1 c1) ∧ w.cell? ⟨b, o + j * 2 + 1, none⟩ = some (.slice q2 m2 c2) ∧ Sl B8 w q1 m1 c1 k.1 ∧ Sl B8 w q2 m2 c2 k.2
theorem RwS.keep {w w' : World} {p : Option Addr} {n c : Nat} {K : List (List UInt8 × List UInt8)} (h : RwS w p n c K) (hb : Below w.heap.size w w') : RwS w' p n c K :=
  ⟨h.len, h.le, h.max, h.nil, fun j k hj => by
    obtain ⟨b, o, q1, m1, c1, q2, m2, c2, e, h1, h2, h3, h4⟩ := h.row j k hj
    exact ⟨b, o, q1, m1, c1, q2, m2, c2, e, (hb.cell (p := ⟨b, o + j * 2, none⟩) (lt_of_cell h1)).trans h1, (hb.cell (p := ⟨b, o + j * 2 + 1, none⟩) (lt_of_cell h2)).trans h2, h3.keep hb, h4.keep hb⟩⟩
theorem RwS.nil0 (w : World) : RwS w none 0 0 [] := ⟨rfl, Nat.le_refl _, by simp [maxLen], fun _ => ⟨rfl, rfl⟩, fun j k h => by simp at h⟩
theorem Sl.set2 {α : Type} {enc : α → Value} {w : World} {p : Option Addr} {n c g o : Nat} {v : Value} {xs : List α} (h : Sl enc w p n c xs) (hne : 0 < n → ∀ a, p = some a → a.block ≠ g) : Sl enc (w.setCell ⟨g, o, none⟩ v) p n c xs := by
  rcases Nat.eq_zero_or_pos n with h0 | h0
  · have hx : xs = [] := List.length_eq_zero_iff.1 (by rw [h.len, h0])
    subst hx
    exact ⟨h.len, h.le, h.max, h.nil, Rs.nil⟩
  · exact h.set (hne h0)
end Go.By
namespace Go.Proofs.Ytofhdakggapahaa
open Go.RowKit Go.By
set_option maxRecDepth 100000 in
set_option maxHeartbeats 4000000 in
theorem Rest_any (wd t : Nat) (pk : Option Addr) (nk ck : Nat) (K : List Rw) (p1 p2 : Option Addr) (n1 c1 n2 c2 : Nat) (x : Rw) (w : World) (hK : RwS w pk nk ck K) (s1 : Sl B8 w p1 n1 c1 x.1) (s2 : Sl B8 w p2 n2 c2 x.2)
    (hfit : ∀ k, k ∈ K → Fit wd t k ∧ Led k) (hx : Fit wd t x) (hr1 : Room wd) (hr2 : Room t) (hnk : nk ≤ 65536) :
    Calls Try.prog 92 #[.slice pk nk ck, .agg #[.slice p1 n1 c1, .slice p2 n2 c2]] w (RetS w (restF K x)) := by
  have hinfo := info_ref
  have HK := Lib.hid hK; have HFIT := Lib.hid hfit; have HX := Lib.hid hx; have HR1 := Lib.hid hr1; have HR2 := Lib.hid hr2; have HLEN := Lib.hid hK.len
  have S1 := Lib.hid s1; have S2 := Lib.hid s2
  have a1 : Hid (0 < n1 → ∀ a, p1 = some a → a.block ≠ w.heap.size ∧ a.block ≠ w.heap.size + 1) := fun h0 a ha => by
    obtain ⟨b, o, hp, hb⟩ := s1.rs.lt (by rw [s1.len]; exact h0)
    rw [hp] at ha; cases ha; show b ≠ _ ∧ b ≠ _; omega
  have a2 : Hid (0 < n2 → ∀ a, p2 = some a → a.block ≠ w.heap.size ∧ a.block ≠ w.heap.size + 1) := fun h0 a ha => by
    obtain ⟨b, o, hp, hb⟩ := s2.rs.lt (by rw [s2.len]; exact h0)
    rw [hp] at ha; cases ha; show b ≠ _ ∧ b ≠ _; omega
  have HB0 : Hid (∀ o1 o2, Below w.heap.size w ((w.alloc o1).alloc o2)) := fun o1 o2 => al (al (Below.refl _ _) (Nat.le_refl _)) (by simp)
  clear hK hfit hx hr1 hr2 s1 s2
  go_enter Try.func92, Try.ntmps92
  go_wp2
  go_loopw [10] (fun i wq => ∃ (j : Nat) (q1 : Option Addr) (m1 g1 : Nat) (q2 : Option Addr) (m2 g2 : Nat), j ≤ nk ∧ i = .int .i64 j ∧ Hid (wq.heap[w.heap.size]? = some (.cells #[.slice q1 m1 g1, .slice q2 m2 g2] 68 (0, 0))) ∧
    Hid (Sl B8 wq q1 m1 g1 (restF (K.take j) x).1) ∧ Hid (Sl B8 wq q2 m2 g2 (restF (K.take j) x).2) ∧ Hid (0 < m1 → ∀ a, q1 = some a → a.block ≠ w.heap.size ∧ a.block ≠ w.heap.size + 1) ∧ Hid (0 < m2 → ∀ a, q2 = some a → a.block ≠ w.heap.size ∧ a.block ≠ w.heap.size + 1) ∧
    Hid (Below w.heap.size w wq) ∧ Hid (wq.heap[w.heap.size + 1]? = some (.cells #[.slice none 0 0, .slice none 0 0] 68 (0, 0)))) (fun i _ => nk - (intOf i).toNat)
  case atStart => exact ⟨0, p1, n1, c1, p2, n2, c2, Nat.zero_le _, rfl, hal (hnew rfl), S1.out.keep (HB0.out _ _), S2.out.keep (HB0.out _ _), a1.out, a2.out, HB0.out _ _, hnew (by simp)⟩
  case round =>
    clear S1 S2 a1 a2
    obtain ⟨j, q1, m1, g1, q2, m2, g2, hj, rfl, hL, hS1, hS2, hA1, hA2, hBw, hZ⟩ := hrel
    by_cases hjl : j < nk
    · obtain ⟨kk, hkk⟩ : ∃ kk, K[j]? = some kk := ⟨_, List.getElem?_eq_getElem (by rw [HLEN.out]; exact hjl)⟩
      obtain ⟨bk, ok, a1, b1, d1, a2, b2, d2, rfl, e1, e2, t1, t2⟩ := HK.out.row j kk hkk
      have E1 := (hBw.out.cell (p := ⟨bk, ok + j * 2, none⟩) (lt_of_cell e1)).trans e1
      have E2 := (hBw.out.cell (p := ⟨bk, ok + j * 2 + 1, none⟩) (lt_of_cell e2)).trans e2
      have T1 := Lib.hid (t1.keep hBw.out); have T2 := Lib.hid (t2.keep hBw.out)
      have HKK := Lib.hid hkk
      have jn : (j : Int) < (nk : Int) := by omega
      have fk := HFIT.out kk (List.mem_of_getElem? hkk)
      obtain ⟨XJ, hXJ⟩ : ∃ XJ, XJ = restF (K.take j) x := ⟨_, rfl⟩
      have fitX : Fit wd t XJ := by rw [hXJ]; exact HX.out.rest (fun a ha => (HFIT.out a (List.mem_of_mem_take ha)).1)
      rw [← hXJ] at hS1 hS2
      obtain ⟨l, hl⟩ : ∃ l, l = leadN kk := ⟨_, rfl⟩
      have hLJ : leadS kk.1 = (l : Int) := by rw [hl]; exact fk.2.at.1
      have hlw : l < wd := by rw [hl]; exact fk.2.at.lt fk.1
      have lm1 : m1 = wd := by have := hS1.out.len; rw [fitX.1] at this; exact this.symm
      have lm2 : m2 = t := by have := hS2.out.len; rw [fitX.2] at this; exact this.symm
      have lb1 : b1 = wd := by have := t1.len; rw [fk.1.1] at this; exact this.symm
      have lb2 : b2 = t := by have := t2.len; rw [fk.1.2] at this; exact this.symm
      subst lm1
      obtain ⟨bx, ox, c, rfl, hcx, hxx⟩ := hS1.out.at l hlw
      have hcA : atS XJ.1 (leadS kk.1) = c := by rw [hLJ]; exact at_of hxx.out
      obtain ⟨YJ, hYJ⟩ : ∃ YJ, YJ = lessF XJ c kk := ⟨_, rfl⟩
      have hnext : Hid (restF (K.take (j + 1)) x = YJ) := by show _ = _; rw [restF_take hkk, ← hXJ, hYJ, hcA]
      have HLD : Hid (∀ W, Sl B8 W a1 b1 d1 kk.1 → Calls Try.prog 75 #[.slice a1 b1 d1] W fun e w' => e = .returned (.int .i64 (l : Nat)) ∧ W = w') := fun W h => by have := RLead_any _ _ _ _ W h; rwa [hLJ] at this
      have HLS : Hid (∀ W, Sl B8 W (some ⟨bx, ox, none⟩) m1 g1 XJ.1 → Sl B8 W q2 m2 g2 XJ.2 → Sl B8 W a1 b1 d1 kk.1 → Sl B8 W a2 b2 d2 kk.2 → Calls Try.prog 74 #[.agg #[.slice (some ⟨bx, ox, none⟩) m1 g1, .slice q2 m2 g2], B8 c, .agg #[.slice a1 b1 d1, .slice a2 b2 d2]] W (RetR2 5 W YJ 0)) := fun W h1 h2 h3 h4 => by
        have := RLess_any (some ⟨bx, ox, none⟩) q2 a1 a2 m1 g1 m2 g2 b1 d1 b2 d2 XJ.1 XJ.2 kk.1 kk.2 c W h1 h2 h3 h4 HR1.out (by rw [lm2]; exact HR2.out) (by rw [lb1]; exact HR1.out) (by rw [lb2]; exact HR2.out)
        rw [lessS_fit (n := m1) (t := t) (x := XJ) (k := kk) fitX fk.1, ← hYJ] at this
        exact this
      have hl1 := blk_lt hL.out; have hl2 := blk_lt hZ.out
      have hNX : Hid (∀ (w9 : World) (q5 : Option Addr) (m5 g5 : Nat) (q6 : Option Addr) (m6 g6 : Nat), Below wr.heap.size wr w9 → Sl B8 w9 q5 m5 g5 YJ.1 → Sl B8 w9 q6 m6 g6 YJ.2 → (∀ a, q5 = some a → wr.heap.size ≤ a.block) → (∀ a, q6 = some a → wr.heap.size ≤ a.block) →
          ((w9.setCell ⟨w.heap.size, 0, none⟩ (.slice q5 m5 g5)).setCell ⟨w.heap.size, 1, none⟩ (.slice q6 m6 g6)).heap[w.heap.size]? = some (.cells #[.slice q5 m5 g5, .slice q6 m6 g6] 68 (0, 0)) ∧
          Sl B8 ((w9.setCell ⟨w.heap.size, 0, none⟩ (.slice q5 m5 g5)).setCell ⟨w.heap.size, 1, none⟩ (.slice q6 m6 g6)) q5 m5 g5 (restF (K.take (j + 1)) x).1 ∧
          Sl B8 ((w9.setCell ⟨w.heap.size, 0, none⟩ (.slice q5 m5 g5)).setCell ⟨w.heap.size, 1, none⟩ (.slice q6 m6 g6)) q6 m6 g6 (restF (K.take (j + 1)) x).2 ∧
          (0 < m5 → ∀ a, q5 = some a → a.block ≠ w.heap.size ∧ a.block ≠ w.heap.size + 1) ∧ (0 < m6 → ∀ a, q6 = some a → a.block ≠ w.heap.size ∧ a.block ≠ w.heap.size + 1) ∧
          Below w.heap.size w ((w9.setCell ⟨w.heap.size, 0, none⟩ (.slice q5 m5 g5)).setCell ⟨w.heap.size, 1, none⟩ (.slice q6 m6 g6)) ∧
          ((w9.setCell ⟨w.heap.size, 0, none⟩ (.slice q5 m5 g5)).setCell ⟨w.heap.size, 1, none⟩ (.slice q6 m6 g6)).heap[w.heap.size + 1]? = some (.cells #[.slice none 0 0, .slice none 0 0] 68 (0, 0))) := by
        intro w9 q5 m5 g5 q6 m6 g6 b9 s5 s6 s7 s8
        have L9 := (b9.block _ hl1).trans hL.out
        have Z9 := (b9.block _ hl2).trans hZ.out
        rw [hnext.out]
        have ne5 : ∀ a, q5 = some a → a.block ≠ w.heap.size := fun a ha => by have := s7 a ha; omega
        have ne6 : ∀ a, q6 = some a → a.block ≠ w.heap.size := fun a ha => by have := s8 a ha; omega
        exact ⟨hss (hss L9), (s5.set ne5).set ne5, (s6.set ne6).set ne6, fun _ a ha => ⟨ne5 a ha, by have := s7 a ha; omega⟩, fun _ a ha => ⟨ne6 a ha, by have := s8 a ha; omega⟩, ((bl hBw.out b9 hBw.out.size).setCell (Nat.le_refl _) _).setCell (Nat.le_refl _) _, hsc (hsc Z9 (by show w.heap.size + 1 ≠ w.heap.size; omega)) (by show w.heap.size + 1 ≠ w.heap.size; omega)⟩
      have HCX := Lib.hid hcx
      have AL : Hid (Below wr.heap.size wr (wr.alloc (.cells #[.slice a1 b1 d1, .slice a2 b2 d2] 68))) := al (Below.refl _ _) (Nat.le_refl _)
      have lw : (l : Int) < (m1 : Int) := by omega
      clear hXJ hYJ fitX fk hkk e1 e2 t1 t2 hl hLJ hcA hxx hcx lm2 lb1 lb2 hl1 hl2
      go_wp2_with fail
      refine Calls.mono (HLD.out _ (T1.out.keep AL.out)) ?_
      rintro e w' ⟨rfl, rfl⟩
      have z0 : (wr.alloc (.cells #[.slice a1 b1 d1, .slice a2 b2 d2] 68)).cell? ⟨wr.heap.size, 0, none⟩ = some (.slice a1 b1 d1) := cell_of_row _ _ 0 _ _ _ (hnew rfl)
      have z1 : (wr.alloc (.cells #[.slice a1 b1 d1, .slice a2 b2 d2] 68)).cell? ⟨wr.heap.size, 1, none⟩ = some (.slice a2 b2 d2) := cell_of_row _ _ 1 _ _ _ (hnew rfl)
      obtain ⟨y0, y1⟩ := cells2 (hal (o := .cells #[.slice a1 b1 d1, .slice a2 b2 d2] 68) hL.out)
      have cl : (wr.alloc (.cells #[.slice a1 b1 d1, .slice a2 b2 d2] 68)).cell? ⟨bx, ox + l, none⟩ = some (B8 c) := (AL.out.cell (p := ⟨bx, ox + l, none⟩) (lt_of_cell HCX.out)).trans HCX.out
      clear E1 E2
      go_wp2
      refine wp_region_late (fun ix => ([.val (.agg #[.slice (some ⟨bx, ox, none⟩) m1 g1, .slice q2 m2 g2]), .val (.pointer (some ⟨w.heap.size, 0, none⟩)), .val (.slice (some ⟨bx, ox, none⟩) m1 g1), .val (.int .i64 (l : Nat)), .val (.pointer (some ⟨bx, ox + l, none⟩)), .val (B8 c), .val (.agg #[.slice a1 b1 d1, .slice a2 b2 d2]), .rowTN (wr.heap.size) (YJ) (0), .rowTN (wr.heap.size) (YJ) (0), .rowN (wr.heap.size) (YJ), .val (.int .i64 0), .any][ix]?).getD (.any)) 30 11 10 17 27 rfl (by kernel_rfl) (by decide) (by decide) (by decide) _ rfl rfl rfl (by decide) (fun a u x w h => run_extract1 _ rfl h) (by decide) ?_ ?_
      · refine ⟨?_, ?_, ?_, ?_, ?_, ?_, ?_, ?_, ?_, ?_, ?_, trivial⟩
        · intro a W hb0 hs hp hi; have hb := undrew hb0; clear hb0
          have tt : sl a 3 = .pointer (some ⟨w.heap.size, 0, none⟩) := hi 3 (by decide)
          have dd0 := (hb.cell (p := ⟨w.heap.size, 0, none⟩) (lt_of_cell y0)).trans y0
          have dd1 := (hb.cell (p := ⟨w.heap.size, 1, none⟩) (lt_of_cell y1)).trans y1
          refine ite_y rfl (wp_val (.agg #[.slice (some ⟨bx, ox, none⟩) m1 g1, .slice q2 m2 g2]) ?_ ?_)
          · simp only [execOp, eval_tmp, tt]; simp [go_sem, dd0, dd1]
          · exact ⟨_, rfl, Below.refl _ _, rfl⟩
        · intro a W hb0 hs hp hi; have hb := undrew hb0; clear hb0
          have t3 : sl a 3 = .pointer (some ⟨w.heap.size, 0, none⟩) := hi 3 (by decide)
          refine ite_y rfl (wp_val (.pointer (some ⟨w.heap.size, 0, none⟩)) ?_ ?_)
          · simp only [execOp, eval_tmp, eval_const, t3]; simp [go_sem]
          · exact ⟨_, rfl, Below.refl _ _, rfl⟩
        · intro a W hb0 hs hp hi; have hb := undrew hb0; clear hb0
          have tt : sl a 19 = .pointer (some ⟨w.heap.size, 0, none⟩) := hp 1 (by decide)
          have dd0 := (hb.cell (p := ⟨w.heap.size, 0, none⟩) (lt_of_cell y0)).trans y0
          refine ite_y rfl (wp_val (.slice (some ⟨bx, ox, none⟩) m1 g1) ?_ ?_)
          · simp only [execOp, eval_tmp, tt]; simp [go_sem, dd0]
          · exact ⟨_, rfl, Below.refl _ _, rfl⟩
        · intro a W hb0 hs hp hi; have hb := undrew hb0; clear hb0
          have t7 : sl a 7 = .int .i64 (l : Nat) := hi 7 (by decide)
          exact ite_y rfl (wp_val (sl a 7) rfl ⟨_, rfl, Below.refl _ _, t7⟩)
        · intro a W hb0 hs hp hi; have hb := undrew hb0; clear hb0
          have ti0 : sl a 20 = .slice (some ⟨bx, ox, none⟩) m1 g1 := hp 2 (by decide)
          have ti1 : sl a 21 = .int .i64 (l : Nat) := hp 3 (by decide)
          refine ite_y rfl (wp_val (.pointer (some ⟨bx, ox + l, none⟩)) ?_ ?_)
          · simp only [execOp, eval_tmp, eval_const, ti0, ti1]; simp [go_sem, lw, hlw]
          · exact ⟨_, rfl, Below.refl _ _, rfl⟩
        · intro a W hb0 hs hp hi; have hb := undrew hb0; clear hb0
          have tt : sl a 22 = .pointer (some ⟨bx, ox + l, none⟩) := hp 4 (by decide)
          have dd0 := (hb.cell (p := ⟨bx, ox + l, none⟩) (lt_of_cell cl)).trans cl
          refine ite_y rfl (wp_val (B8 c) ?_ ?_)
          · simp only [execOp, eval_tmp, tt]; simp [go_sem, dd0]
          · exact ⟨_, rfl, Below.refl _ _, rfl⟩
        · intro a W hb0 hs hp hi; have hb := undrew hb0; clear hb0
          have tt : sl a 6 = .pointer (some ⟨wr.heap.size, 0, none⟩) := hi 6 (by decide)
          have dd0 := (hb.cell (p := ⟨wr.heap.size, 0, none⟩) (lt_of_cell z0)).trans z0
          have dd1 := (hb.cell (p := ⟨wr.heap.size, 1, none⟩) (lt_of_cell z1)).trans z1
          refine ite_y rfl (wp_val (.agg #[.slice a1 b1 d1, .slice a2 b2 d2]) ?_ ?_)
          · simp only [execOp, eval_tmp, tt]; simp [go_sem, dd0, dd1]
          · exact ⟨_, rfl, Below.refl _ _, rfl⟩
        · intro a W hb0 hs hp hi; have hb := undrew hb0; clear hb0
          have t18 : sl a 18 = .agg #[.slice (some ⟨bx, ox, none⟩) m1 g1, .slice q2 m2 g2] := hp 0 (by decide)
          have t23 : sl a 23 = B8 c := hp 5 (by decide)
          have t24 : sl a 24 = .agg #[.slice a1 b1 d1, .slice a2 b2 d2] := hp 6 (by decide)
          refine ite_y rfl (wp_enter 74 #[.agg #[.slice (some ⟨bx, ox, none⟩) m1 g1, .slice q2 m2 g2], B8 c, .agg #[.slice a1 b1 d1, .slice a2 b2 d2]] ?_ (HLS.out _ (hS1.out.keep (AL.out.trans (hb.mono AL.out.size))) (hS2.out.keep (AL.out.trans (hb.mono AL.out.size))) (T1.out.keep (AL.out.trans (hb.mono AL.out.size))) (T2.out.keep (AL.out.trans (hb.mono AL.out.size)))) ?_)
          · simp only [execOp, resolve, List.map_toArray, List.map, eval_tmp, eval_func, eval_const, t18, t23, t24]; simp [go_sem]
          · rintro e W' ⟨q5, m5, g5, q6, m6, g6, e5, e6, rfl, o5, o6, hw⟩; have hbs := hb.size; simp at hbs; exact ⟨_, rfl, _, rfl, hw, _, rfl, q5, m5, g5, q6, m6, g6, rfl, Sl.of_owns o5, Sl.of_owns o6, fun a ha => Nat.le_trans (by omega) (owns_new o5 a ha).1, fun a ha => Nat.le_trans (by omega) (owns_new o6 a ha).1⟩
        · intro a W hb0 hs hp hi; have hb := undrew hb0; clear hb0
          have tt : RowTN (wr.heap.size) (YJ) (0) (sl a 25) W := hp 7 (by decide)
          exact ite_y rfl (wp_val (sl a 25) rfl ⟨_, rfl, Below.refl _ _, tt⟩)
        · intro a W hb0 hs hp hi; have hb := undrew hb0; clear hb0
          have tt : RowTN (wr.heap.size) (YJ) (0) (sl a 17) W := hp 8 (by decide)
          obtain ⟨u, tt, hr⟩ := tt
          exact ite_y rfl (wp_val u (by simp only [execOp, eval_tmp, tt]; rfl) ⟨_, rfl, Below.refl _ _, hr⟩)
        · intro a W hb0 hs hp hi; have hb := undrew hb0; clear hb0
          have tt : RowTN (wr.heap.size) (YJ) (0) (sl a 17) W := hp 8 (by decide)
          obtain ⟨u, tt, hr⟩ := tt
          exact ite_y rfl (wp_val (.int .i64 0) (by simp only [execOp, eval_tmp, tt]; rfl) ⟨_, rfl, Below.refl _ _, rfl⟩)
      · intro a w9 o ho hb hs hd hI ht
        simp at ho; subst ho
        have t3 : sl a 3 = .pointer (some ⟨w.heap.size, 0, none⟩) := ht 3 (by decide)
        have t17 : RowTN (wr.heap.size) (YJ) (0) (sl a 17) w9 := hI 8 (by decide) (by decide)
        have t26 : RowN (wr.heap.size) (YJ) (sl a 26) w9 := hI 9 (by decide) (by decide)
        obtain ⟨uu, t17, -⟩ := t17
        obtain ⟨q5, m5, g5, q6, m6, g6, t26, s5, s6, s7, s8⟩ := t26
        have b9 : Below wr.heap.size wr w9 := AL.out.trans (hb.mono AL.out.size)
        have L9 : w9.heap[w.heap.size]? = some (.cells #[.slice (some ⟨bx, ox, none⟩) m1 g1, .slice q2 m2 g2] 68 (0, 0)) := (b9.block _ (blk_lt hL.out)).trans hL.out
        obtain ⟨d0, d1'⟩ := cells2 L9
        have f0 : w9.frozen? ⟨w.heap.size, 0, none⟩ = false := frozen_of_row _ _ 0 _ _ L9
        have f1 : w9.frozen? ⟨w.heap.size, 1, none⟩ = false := frozen_of_row _ _ 1 _ _ L9
        refine ⟨⟨_, _, t17⟩, wp_skipX (w' := (w9.setCell ⟨w.heap.size, 0, none⟩ (.slice q5 m5 g5)).setCell ⟨w.heap.size, 1, none⟩ (.slice q6 m6 g6)) ?_ ⟨rfl, fun b hbs hbd hbt => ?_⟩⟩
        · simp only [execOp, eval_tmp, t26, t3]; simp [go_sem, d0, d1', f0, f1]
        have ha := act_is [18, 19, 20, 21, 22, 23, 24, 25, 17, 26, 27] hbs hbd (fun t h => (hbt t (fun e => by subst e; revert h; decide)).trans (ht t h)) (by decide)
        simp only [List.foldl] at ha
        generalize sl b 18 = u18 at ha
        generalize sl b 19 = u19 at ha
        generalize sl b 20 = u20 at ha
        generalize sl b 21 = u21 at ha
        generalize sl b 22 = u22 at ha
        generalize sl b 23 = u23 at ha
        generalize sl b 24 = u24 at ha
        generalize sl b 25 = u25 at ha
        generalize sl b 17 = u17 at ha
        generalize sl b 26 = u26 at ha
        generalize sl b 27 = u27 at ha
        simp only [Act.put, List.setIfInBounds_toArray, List.set_cons_zero, List.set_cons_succ] at ha
        rw [ha]; clear ha
        have NX := hNX.out w9 q5 m5 g5 q6 m6 g6 b9 s5 s6 s7 s8
        generalize (w9.setCell ⟨w.heap.size, 0, none⟩ (.slice q5 m5 g5)).setCell ⟨w.heap.size, 1, none⟩ (.slice q6 m6 g6) = wn at NX ⊢
        have NXH := Lib.hid NX
        clear NX s5 s6 s7 s8 hI ht hbt L9 d0 d1' f0 f1 b9 hb
        go_wp2
        go_roundw
        case rel => exact ⟨j + 1, q5, m5, g5, q6, m6, g6, by omega, by go_num, NXH.out.1, NXH.out.2.1, NXH.out.2.2.1, NXH.out.2.2.2.1, NXH.out.2.2.2.2.1, NXH.out.2.2.2.2.2.1, NXH.out.2.2.2.2.2.2⟩
        case measure => simp [intOf]; omega
    · have hjn : j = nk := by omega
      have hge : (nk : Int) ≤ (j : Int) := by omega
      rw [List.take_of_length_le (by rw [HLEN.out, hjn]; exact Nat.le_refl _)] at hS1 hS2
      obtain ⟨y0, y1⟩ := cells2 hL.out
      obtain ⟨f0, f1⟩ := cells2 hZ.out
      have z0 := frozen_of_row _ _ 0 _ _ hZ.out
      have z1 := frozen_of_row _ _ 1 _ _ hZ.out
      have hne1 : Hid (Sl B8 ((wr.setCell ⟨w.heap.size + 1, 0, none⟩ (.slice q1 m1 g1)).setCell ⟨w.heap.size + 1, 1, none⟩ (.slice q2 m2 g2)) q1 m1 g1 (restF K x).1) := (hS1.out.set2 (fun h a ha => (hA1.out h a ha).2)).set2 (fun h a ha => (hA1.out h a ha).2)
      have hne2 : Hid (Sl B8 ((wr.setCell ⟨w.heap.size + 1, 0, none⟩ (.slice q1 m1 g1)).setCell ⟨w.heap.size + 1, 1, none⟩ (.slice q2 m2 g2)) q2 m2 g2 (restF K x).2) := (hS2.out.set2 (fun h a ha => (hA2.out h a ha).2)).set2 (fun h a ha => (hA2.out h a ha).2)
      clear hjn hS1 hS2 hA1 hA2 hL
      go_wp2
      refine bodyPost_ret (results_cell_row rfl _ _ _ 68 #[.slice q1 m1 g1, .slice q2 m2 g2] (0, 0) _ rfl (hss (hss hZ.out)) Try.underlying68 rfl hinfo) rfl ⟨q1, m1, g1, q2, m2, g2, rfl, hne1.out, hne2.out, (hBw.out.setCell (by simp) _).setCell (by simp) _⟩
end Go.Proofs.Ytofhdakggapahaa
namespace Go.Proofs.Ytofhdakggapahaa
open Go.RowKit Go.By
theorem use_w1 {P : Program} {f : FuncId} {args : Array Value} {W : World} {Q : Ending → World → Prop} (I : World → Prop) (h : I W) (k : ∀ W', I W' → Calls P f args W' Q) : Calls P f args W Q := k W h
/-- turned so far: rows ahead of i, and of row i the places ahead of j -/
structure TurnP (h wd : Nat) (cells : List UInt8) (i j : Nat) (L : List UInt8) : Prop where
  len : L.length = wd * h
  at_ : ∀ a b, a < h → b < wd → L[b * h + a]? = some (if a < i ∨ (a = i ∧ b < j) then cells.getD (a * wd + b) 0 else 0)
theorem idx_lt {n m a b : Nat} (ha : a < n) (hb : b < m) : a * m + b < n * m := by
  have : (a + 1) * m ≤ n * m := Nat.mul_le_mul_right _ ha
  rw [Nat.add_mul, Nat.one_mul] at this; omega
theorem idx_inj {m a b a' b' : Nat} (hb : b < m) (hb' : b' < m) (e : a * m + b = a' * m + b') : a = a' ∧ b = b' := by
  have d1 : (a * m + b) / m = a := by rw [Nat.mul_comm, Nat.mul_add_div (by omega), Nat.div_eq_of_lt hb]; rfl
  have d2 : (a' * m + b') / m = a' := by rw [Nat.mul_comm, Nat.mul_add_div (by omega), Nat.div_eq_of_lt hb']; rfl
  rw [e, d2] at d1
  subst d1
  exact ⟨rfl, by omega⟩
theorem TurnP.start (h wd : Nat) (cells : List UInt8) : TurnP h wd cells 0 0 (List.replicate (wd * h) 0) :=
  ⟨by simp, fun a b ha hb => by rw [List.getElem?_replicate_of_lt (idx_lt hb ha), if_neg (by omega)]⟩
theorem TurnP.put {h wd : Nat} {cells : List UInt8} {i j : Nat} {L : List UInt8} {x : UInt8} (t : TurnP h wd cells i j L) (hi : i < h) (hj : j < wd) (hx : cells[i * wd + j]? = some x) : TurnP h wd cells i (j + 1) (L.set (j * h + i) x) := by
  refine ⟨by rw [List.length_set]; exact t.len, fun a b ha hb => ?_⟩
  rw [List.getElem?_set]
  by_cases e : j * h + i = b * h + a
  · obtain ⟨rfl, rfl⟩ := idx_inj hi ha e
    rw [if_pos rfl, if_pos (by rw [t.len]; exact idx_lt hj hi), if_pos (.inr ⟨rfl, by omega⟩)]
    simp [List.getD_eq_getElem?_getD, hx]
  · rw [if_neg e, t.at_ a b ha hb]
    by_cases h1 : a < i ∨ (a = i ∧ b < j)
    · rw [if_pos h1, if_pos (by omega)]
    · rw [if_neg h1, if_neg (fun h2 => by
        rcases h2 with h2 | ⟨rfl, h2⟩
        · exact h1 (.inl h2)
        · have : b = j := by omega
          subst this; exact e rfl)]
theorem TurnP.next {h wd : Nat} {cells : List UInt8} {i : Nat} {L : List UInt8} (t : TurnP h wd cells i wd L) : TurnP h wd cells (i + 1) 0 L :=
  ⟨t.len, fun a b ha hb => by
    rw [t.at_ a b ha hb]
    by_cases h1 : a < i ∨ (a = i ∧ b < wd)
    · rw [if_pos h1, if_pos (by omega)]
    · rw [if_neg h1, if_neg (by omega)]⟩
/-- a grid's columns -/
def turnR (h wd : Nat) (cells : List UInt8) : List (List UInt8) := (List.range wd).map fun b => (List.range h).map fun a => cells.getD (a * wd + b) 0
theorem TurnP.rows {h wd : Nat} {cells : List UInt8} {L : List UInt8} (t : TurnP h wd cells h 0 L) : (List.range wd).map (rowF h L) = turnR h wd cells := by
  unfold turnR
  refine List.map_congr_left (fun b hb => ?_)
  have hb' := List.mem_range.1 hb
  apply List.ext_getElem?
  intro a
  unfold rowF
  by_cases ha : a < h
  · rw [List.getElem?_take, if_pos ha, List.getElem?_drop, t.at_ a b ha hb', if_pos (.inl ha), List.getElem?_map, List.getElem?_range ha]; rfl
  · rw [List.getElem?_take, if_neg ha, List.getElem?_eq_none (by simp; omega)]
set_option maxRecDepth 100000 in
set_option maxHeartbeats 4000000 in
theorem Turned_any (h wd : Nat) (p : Option Addr) (n c : Nat) (cells : List UInt8) (w : World) (hs : Sl B8 w p n c cells) (hn : n = h * wd) (hr : Room (wd * h)) (hh : h ≤ 9223372036854775807) (hw : wd ≤ 9223372036854775807) :
    Calls Try.prog 21 #[.agg #[.int .i64 h, .int .i64 wd, .slice p n c]] w fun e w' => ∃ L, TurnP h wd cells h 0 L ∧ RetG 5 w wd h L e w' := by
  have hinfo := info_grid
  have HBL := Lib.hid (fun W => blank_any wd h W hr hw hh)
  have HS := Lib.hid hs; have HN := Lib.hid hn; have HLEN := Lib.hid hs.len
  obtain ⟨N, hN⟩ : ∃ N, N = wd * h := ⟨_, rfl⟩
  have HNE := Lib.hid hN
  have HB0 : Hid (∀ o1 o2, Below w.heap.size w ((w.alloc o1).alloc o2)) := fun o1 o2 => al (al (Below.refl _ _) (Nat.le_refl _)) (by simp)
  obtain ⟨f0, f1, f2⟩ := cells3 (hal (w := w.alloc (.cells #[.int .i64 h, .int .i64 wd, .slice p n c] 27)) (o := .cells #[.int .i64 0, .int .i64 0, .slice none 0 0] 27) (hnew rfl))
  clear hs hn hr hN f0 f1 f2
  go_enter Try.func21, Try.ntmps21
  go_wp2_with fail
  refine use_w1 (fun W => Below w.heap.size w W ∧ W.heap[w.heap.size]? = some (.cells #[.int .i64 h, .int .i64 wd, .slice p n c] 27 (0, 0)) ∧ W.heap[w.heap.size + 1]? = some (.cells #[.int .i64 0, .int .i64 0, .slice none 0 0] 27 (0, 0)) ∧ w.heap.size + 2 ≤ W.heap.size) ⟨HB0.out _ _, hal (hnew rfl), hnew (by simp), by simp⟩ ?_
  rintro w0 ⟨b0, x0, z0, s0⟩
  refine Calls.mono (HBL.out _) ?_; rintro e w1 ⟨q, n1, c1, hn1, rfl, ho, hb⟩
  obtain rfl : n1 = N := hn1.trans HNE.out.symm
  have X1 : Hid (w1.heap[w.heap.size]? = some (.cells #[.int .i64 h, .int .i64 wd, .slice p n c] 27 (0, 0))) := (hb.block _ (blk_lt x0)).trans x0
  have Z1 : Hid (w1.heap[w.heap.size + 1]? = some (.cells #[.int .i64 0, .int .i64 0, .slice none 0 0] 27 (0, 0))) := (hb.block _ (blk_lt z0)).trans z0
  have K1 : Hid (Below w.heap.size w w1) := bl b0 hb b0.size
  have O1 : Hid (w1.ownsRow (w.heap.size + 2) 5 1 (.slice q n1 c1) n1 ((List.replicate (wd * h) 0).map B8)) := owns_mono ho s0
  have TP0 := Lib.hid (TurnP.start h wd cells)
  have hs1 : Hid (w.heap.size + 2 ≤ w1.heap.size) := Nat.le_trans s0 hb.size
  clear b0 x0 z0 s0 ho hb hn1 HB0 HBL
  obtain ⟨y0, y1, y2⟩ := cells3 (hal (o := .cells #[.int .i64 wd, .int .i64 h, .slice q n1 c1] 27) X1.out)
  go_wp2
  clear y0 y1 y2
  go_loopw [14] (fun i wr => ∃ (k : Nat) (L : List UInt8), k ≤ h ∧ i = .int .i64 k ∧ Hid (TurnP h wd cells k 0 L) ∧ Hid (wr.ownsRow (w.heap.size + 2) 5 1 (.slice q n1 c1) n1 (L.map B8)) ∧ Hid (Below w.heap.size w wr) ∧
    Hid (wr.heap[w1.heap.size]? = some (.cells #[.int .i64 wd, .int .i64 h, .slice q n1 c1] 27 (0, 0))) ∧ Hid (wr.heap[w.heap.size]? = some (.cells #[.int .i64 h, .int .i64 wd, .slice p n c] 27 (0, 0))) ∧
    Hid (wr.heap[w.heap.size + 1]? = some (.cells #[.int .i64 0, .int .i64 0, .slice none 0 0] 27 (0, 0)))) (fun i _ => h - (intOf i).toNat)
  case atStart => exact ⟨0, _, Nat.zero_le _, rfl, TP0.out, owns_keep O1.out (al (Below.refl _ _) (Nat.le_refl _)), al K1.out K1.out.size, hnew rfl, hal X1.out, hal Z1.out⟩
  case round =>
    obtain ⟨k, L, hk, rfl, hT, hO, hB, hX, hP, hZ⟩ := hrel
    by_cases hlt : k < h
    · obtain ⟨y0, y1, y2⟩ := cells3 hP.out
      go_wp2_with fail
      refine Calls.mono (row_any h wd k p n c cells wr (HS.out.keep hB.out) HN.out hlt hh) ?_
      rintro e w2 ⟨q', c', rfl, -, hq', hb'⟩
      have HQ := Lib.hid hq'
      have O2 : Hid (w2.ownsRow (w.heap.size + 2) 5 1 (.slice q n1 c1) n1 (L.map B8)) := owns_keep hO.out hb'
      have B2 : Hid (Below w.heap.size w w2) := bl hB.out hb' hB.out.size
      have X2 : Hid (w2.heap[w1.heap.size]? = some (.cells #[.int .i64 wd, .int .i64 h, .slice q n1 c1] 27 (0, 0))) := (hb'.block _ (blk_lt hX.out)).trans hX.out
      have P2 : Hid (w2.heap[w.heap.size]? = some (.cells #[.int .i64 h, .int .i64 wd, .slice p n c] 27 (0, 0))) := (hb'.block _ (blk_lt hP.out)).trans hP.out
      have Z2 : Hid (w2.heap[w.heap.size + 1]? = some (.cells #[.int .i64 0, .int .i64 0, .slice none 0 0] 27 (0, 0))) := (hb'.block _ (blk_lt hZ.out)).trans hZ.out
      have HT := hT
      clear hq' hO hB hX hP hZ hb' y0 y1 y2 hT
      go_wp2
      go_loopw [21] (fun i wq => ∃ (j : Nat) (L : List UInt8), j ≤ wd ∧ i = .int .i64 j ∧ Hid (TurnP h wd cells k j L) ∧ Hid (wq.ownsRow (w.heap.size + 2) 5 1 (.slice q n1 c1) n1 (L.map B8)) ∧ Hid (Below w.heap.size w wq) ∧
        Hid (wq.heap[w1.heap.size]? = some (.cells #[.int .i64 wd, .int .i64 h, .slice q n1 c1] 27 (0, 0))) ∧ Hid (wq.heap[w.heap.size]? = some (.cells #[.int .i64 h, .int .i64 wd, .slice p n c] 27 (0, 0))) ∧
        Hid (wq.heap[w.heap.size + 1]? = some (.cells #[.int .i64 0, .int .i64 0, .slice none 0 0] 27 (0, 0)))) (fun i _ => wd - (intOf i).toNat)
      case atStart => exact ⟨0, L, Nat.zero_le _, rfl, HT.out, O2.out, B2.out, X2.out, P2.out, Z2.out⟩
      case round =>
        clear O2 B2 X2 P2 Z2 HT
        obtain ⟨j, L, hj, rfl, hT, hO, hB, hX, hP, hZ⟩ := hrel
        by_cases hjl : j < wd
        · obtain ⟨gb, go, x, rfl, hcx, hxx⟩ := HS.out.at (k * wd + j) (by rw [HN.out]; exact idx_lt hlt hjl)
          have hq2 := HQ.out (by omega) gb go rfl
          subst hq2
          have hcw : wr.cell? ⟨gb, go + k * wd + j, none⟩ = some (B8 x) := by
            rw [show go + k * wd + j = go + (k * wd + j) by omega]; exact (hB.out.cell (p := ⟨gb, go + (k * wd + j), none⟩) (lt_of_cell hcx)).trans hcx
          obtain ⟨y0, y1, y2⟩ := cells3 hX.out
          have hpos : 0 < n1 := by rw [HNE.out]; exact Nat.mul_pos (by omega) (by omega)
          obtain ⟨g, rfl, hg1, hg2⟩ := owns_at hO.out hpos
          have hg : w1.heap.size ≠ g := fun e => by
            subst e
            rcases hO.out.2 with ⟨h', _⟩ | ⟨g', cap, cur, hv, _, hh, _⟩
            · cases h'
            · cases hv
              rw [hX.out] at hh; cases hh
          have hz : w.heap.size + 1 ≠ g := by omega
          have hpg : w.heap.size ≠ g := by omega
          have jn : (j : Int) < (wd : Int) := by omega
          have HX := Lib.hid hxx.out
          clear hcx hxx
          go_wp2_with fail
          refine Calls.mono (row_any wd h j _ n1 c1 L wr (Sl.of_owns hO.out) HNE.out hjl hw) ?_
          rintro e w3 ⟨q3, c3, rfl, -, hq3, hb3⟩
          have hq4 := hq3 (by omega) g 0 rfl
          rw [Nat.zero_add] at hq4
          subst hq4
          have O3 : Hid (w3.ownsRow (w.heap.size + 2) 5 1 (.slice (some ⟨g, 0, none⟩) n1 c1) n1 (L.map B8)) := owns_keep hO.out hb3
          have B3 : Hid (Below w.heap.size w w3) := bl hB.out hb3 hB.out.size
          have X3 : Hid (w3.heap[w1.heap.size]? = some (.cells #[.int .i64 wd, .int .i64 h, .slice (some ⟨g, 0, none⟩) n1 c1] 27 (0, 0))) := (hb3.block _ (blk_lt hX.out)).trans hX.out
          have P3 : Hid (w3.heap[w.heap.size]? = some (.cells #[.int .i64 h, .int .i64 wd, .slice (some ⟨gb, go, none⟩) n c] 27 (0, 0))) := (hb3.block _ (blk_lt hP.out)).trans hP.out
          have Z3 : Hid (w3.heap[w.heap.size + 1]? = some (.cells #[.int .i64 0, .int .i64 0, .slice none 0 0] 27 (0, 0))) := (hb3.block _ (blk_lt hZ.out)).trans hZ.out
          have hidx : j * h + k < n1 := by rw [HNE.out]; exact idx_lt hjl hlt
          have hlenL : L.length = n1 := by rw [hT.out.len, HNE.out]
          obtain ⟨y, hy⟩ : ∃ y, L[j * h + k]? = some y := ⟨_, List.getElem?_eq_getElem (by omega)⟩
          have cx : w3.cell? ⟨g, j * h + k, none⟩ = some (B8 y) := by rw [O3.out.cellAt _ (by omega), List.getElem?_map, hy]; rfl
          have zx : w3.frozen? ⟨g, j * h + k, none⟩ = false := O3.out.frozenAt _
          have kn : (k : Int) < (h : Int) := by omega
          have T3 : Hid (TurnP h wd cells k (j + 1) (L.set (j * h + k) x)) := hT.out.put hlt hjl HX.out
          clear hO hB hX hP hZ hq3 hb3 y0 y1 y2 hy hidx hlenL hcw hT
          have P4 : Hid ((w3.setCell ⟨g, j * h + k, none⟩ (B8 x)).ownsRow (w.heap.size + 2) 5 1 (.slice (some ⟨g, 0, none⟩) n1 c1) n1 ((L.set (j * h + k) x).map B8) ∧ Below w.heap.size w (w3.setCell ⟨g, j * h + k, none⟩ (B8 x)) ∧
              (w3.setCell ⟨g, j * h + k, none⟩ (B8 x)).heap[w1.heap.size]? = some (.cells #[.int .i64 wd, .int .i64 h, .slice (some ⟨g, 0, none⟩) n1 c1] 27 (0, 0)) ∧
              (w3.setCell ⟨g, j * h + k, none⟩ (B8 x)).heap[w.heap.size]? = some (.cells #[.int .i64 h, .int .i64 wd, .slice (some ⟨gb, go, none⟩) n c] 27 (0, 0)) ∧
              (w3.setCell ⟨g, j * h + k, none⟩ (B8 x)).heap[w.heap.size + 1]? = some (.cells #[.int .i64 0, .int .i64 0, .slice none 0 0] 27 (0, 0))) := by
            refine ⟨?_, B3.out.setCell (by show w.heap.size ≤ g; omega) _, hsc X3.out hg, hsc P3.out hpg, hsc Z3.out hz⟩
            rw [List.map_set]
            exact (O3.out.stored (j * h + k) (B8 x)).1
          clear O3 B3 X3 P3 Z3
          go_wp2
          go_roundw
          case rel => exact ⟨j + 1, _, by omega, by go_num, T3.out, P4.out.1, P4.out.2.1, P4.out.2.2.1, P4.out.2.2.2.1, P4.out.2.2.2.2⟩
          case measure => simp [intOf]; omega
        · have hjw : j = wd := by omega
          have hge : (wd : Int) ≤ (j : Int) := by omega
          have T4 : Hid (TurnP h wd cells (k + 1) 0 L) := by have := hT.out; rw [hjw] at this; exact this.next
          clear hjw hT
          go_wp2
          go_roundw
          case rel => exact ⟨k + 1, L, by omega, by go_num, T4.out, hO.out, hB.out, hX.out, hP.out, hZ.out⟩
          case measure => simp [intOf]; omega
    · have hkh : k = h := by omega
      obtain ⟨y0, y1, y2⟩ := cells3 hX.out
      obtain ⟨f0, f1, f2⟩ := cells3 hZ.out
      have z0 := frozen_of_row _ _ 0 _ _ hZ.out
      have z1 := frozen_of_row _ _ 1 _ _ hZ.out
      have z2 := frozen_of_row _ _ 2 _ _ hZ.out
      have hge : (h : Int) ≤ (k : Int) := by omega
      have TF : Hid (TurnP h wd cells h 0 L) := by have := hT.out; rwa [hkh] at this
      clear hkh hT
      go_wp2
      refine bodyPost_ret (results_cell_row rfl _ _ _ 27 #[.int .i64 wd, .int .i64 h, .slice q n1 c1] (0, 0) _ rfl (hss (hss (hss hZ.out))) Try.underlying27 rfl hinfo) rfl ⟨L, TF.out, q, n1, c1, HNE.out, rfl, ?_, ((hB.out.setCell (by simp) _).setCell (by simp) _).setCell (by simp) _⟩
      exact owns_mono (owns_set (owns_set (owns_set hO.out (by simp)) (by simp)) (by simp)) (by simp)
end Go.Proofs.Ytofhdakggapahaa
namespace Go.Proofs.Ytofhdakggapahaa
open Go.RowKit Go.By
set_option maxRecDepth 100000 in
set_option maxHeartbeats 2000000 in
theorem GOf_good (wd : Nat) (p : Option Addr) (m c : Nat) (xss : List (List UInt8)) (w : World) (h : Sl2 w p m c xss) (h1 : wd ≤ 65536) (h2 : m ≤ 65536) (h3 : m * wd ≤ 65536) (hall : xss.all (fun y => decide (y.length = wd)) = true) :
    Calls Try.prog 11 #[.int .i64 wd, .slice p m c] w (RetG2 5 w m wd xss.flatten 0) := by
  have hinfo := info_grid
  obtain ⟨k, hk⟩ : ∃ k, k = m * wd := ⟨_, rfl⟩
  have wm : IntKind.i64.wrap ((m : Int) * (wd : Int)) = ((k : Nat) : Int) := by rw [hk, ← Int.natCast_mul]; exact Go.IntWalk.i64_in _ (by omega)
  have hfl : xss.flatten.length = m * wd := by
    have : ∀ l : List (List UInt8), (∀ x, x ∈ l → x.length = wd) → l.flatten.length = l.length * wd := by
      intro l
      induction l with
      | nil => simp
      | cons x l ih => intro hx; rw [List.flatten_cons, List.length_append, ih (fun y hy => hx y (by simp [hy])), hx x (by simp), List.length_cons, Nat.add_mul]; omega
    rw [this xss (fun x hx => by simpa using List.all_eq_true.1 hall x hx), h.len]
  have hmb := h.bound
  obtain ⟨vs, hvs, hvv⟩ := h.vals
  have hax := any_vals (n := wd) (hvs.len.trans h.len.symm) hvv
  rw [hall] at hax
  rw [← hk] at h3 hfl
  have H := Lib.hid h; have HV := Lib.hid hvs; have HVV := Lib.hid hvv; have HA := Lib.hid hax
  have HR : Hid (Room xss.flatten.length) := by show Room _; unfold Room; omega
  have HFL := Lib.hid hfl; have HK := Lib.hid hk
  have HB : Hid (∀ o1 o2, Below w.heap.size w ((w.alloc o1).alloc o2)) := fun o1 o2 => al (al (Below.refl _ _) (Nat.le_refl _)) (by simp)
  have hX0 : ∀ o2, ((w.alloc (.cells #[.int .i64 wd] 3)).alloc o2).heap[w.heap.size]? = some (.cells #[.int .i64 wd] 3 (0, 0)) := fun o2 => hal (hnew rfl)
  have HX0 := Lib.hid hX0
  have HX1 : Hid (∀ o1, ((w.alloc o1).alloc (.cells #[.int .i64 0, .int .i64 0, .slice none 0 0] 27)).heap[w.heap.size + 1]? = some (.cells #[.int .i64 0, .int .i64 0, .slice none 0 0] 27 (0, 0))) := fun o1 => hnew (by simp)
  clear h hvs hvv hax hfl hk hX0 hall
  go_enter Try.func11, Try.ntmps11
  go_wp2_with fail
  refine (ContainsFuncBB_any id (lenNe wd) 53 _ enters_of1 p m c vs _ (HV.out.keep (HB.out _ _)) ?_).mono ?_
  · intro v hv
    obtain ⟨i, hi, e⟩ := List.getElem_of_mem hv
    obtain ⟨xs, q, c', hx, rfl, hs⟩ := HVV.out i v (by rw [List.getElem?_eq_getElem hi, e])
    exact Of1_any q _ c' _ wd _ (cell_of_row _ _ 0 _ _ _ (HX0.out _))
  rintro e w' ⟨rfl, rfl⟩
  rw [HA.out]
  go_wp2_with fail
  go_region_with (go_at_call 55; refine (Concat_any p m c xss _ (H.out.keep (HB.out _ _).drew) HR.out).mono ?_; rintro e w2 ⟨q, m', c', hm, rfl, ho, hb2⟩; have E0 := Lib.hid ((hb2.block _ (by simp; omega)).trans (HX0.out _)); have E1 := Lib.hid ((hb2.block _ (by simp)).trans (HX1.out _)); have c0 := cell_of_row _ _ 0 _ _ _ E0.out; obtain ⟨f0, f1, f2⟩ := cells3 E1.out; have g0 := frozen_of_row _ _ 0 _ _ E1.out; have g1 := frozen_of_row _ _ 1 _ _ E1.out; have g2 := frozen_of_row _ _ 2 _ _ E1.out; have HO := Lib.hid ho; have HB2 := Lib.hid hb2; clear ho hb2)
  all_goals
    go_wp2
    refine bodyPost_ret (results_cell_tmp rfl _ _ _ 27 #[.int .i64 m, .int .i64 wd, .slice q m' c'] (0, 0) _ (.int .i64 0) rfl (hss (hss (hss E1.out))) rfl Try.underlying27 rfl hinfo) rfl ⟨q, m', c', by rw [← hm.out, HFL.out, HK.out], rfl, ?_, (((bl (HB.out _ _).drew HB2.out (by simp; omega)).setCell (by simp) _).setCell (by simp) _).setCell (by simp) _⟩
    exact owns_mono (owns_set (owns_set (owns_set HO.out (by simp)) (by simp)) (by simp)) (by simp; omega)
set_option maxRecDepth 100000 in
set_option maxHeartbeats 2000000 in
theorem GOf_uneven (wd : Nat) (p : Option Addr) (m c : Nat) (xss : List (List UInt8)) (w : World) (h : Sl2 w p m c xss) (h1 : wd ≤ 65536) (h2 : m ≤ 65536) (h3 : m * wd ≤ 65536) (hall : xss.all (fun y => decide (y.length = wd)) = false) :
    Calls Try.prog 11 #[.int .i64 wd, .slice p m c] w (RetG2 5 w 0 0 [] 4) := by
  have hinfo := info_grid
  obtain ⟨k, hk⟩ : ∃ k, k = m * wd := ⟨_, rfl⟩
  have wm : IntKind.i64.wrap ((m : Int) * (wd : Int)) = ((k : Nat) : Int) := by rw [hk, ← Int.natCast_mul]; exact Go.IntWalk.i64_in _ (by omega)
  have hmb := h.bound
  obtain ⟨vs, hvs, hvv⟩ := h.vals
  have hax := any_vals (n := wd) (hvs.len.trans h.len.symm) hvv
  rw [hall] at hax
  rw [← hk] at h3
  have HV := Lib.hid hvs; have HVV := Lib.hid hvv; have HA := Lib.hid hax
  have HB : Hid (∀ o1 o2, Below w.heap.size w ((w.alloc o1).alloc o2)) := fun o1 o2 => al (al (Below.refl _ _) (Nat.le_refl _)) (by simp)
  have hX0 : ∀ o2, ((w.alloc (.cells #[.int .i64 wd] 3)).alloc o2).heap[w.heap.size]? = some (.cells #[.int .i64 wd] 3 (0, 0)) := fun o2 => hal (hnew rfl)
  have HX0 := Lib.hid hX0
  have HX1 : Hid (∀ o1, ((w.alloc o1).alloc (.cells #[.int .i64 0, .int .i64 0, .slice none 0 0] 27)).heap[w.heap.size + 1]? = some (.cells #[.int .i64 0, .int .i64 0, .slice none 0 0] 27 (0, 0))) := fun o1 => hnew (by simp)
  clear h hvs hvv hax hk hX0 hall
  go_enter Try.func11, Try.ntmps11
  go_wp2_with fail
  refine (ContainsFuncBB_any id (lenNe wd) 53 _ enters_of1 p m c vs _ (HV.out.keep (HB.out _ _)) ?_).mono ?_
  · intro v hv
    obtain ⟨i, hi, e⟩ := List.getElem_of_mem hv
    obtain ⟨xs, q, c', hx, rfl, hs⟩ := HVV.out i v (by rw [List.getElem?_eq_getElem hi, e])
    exact Of1_any q _ c' _ wd _ (cell_of_row _ _ 0 _ _ _ (HX0.out _))
  rintro e w' ⟨rfl, rfl⟩
  rw [HA.out]
  go_wp2
  refine bodyPost_ret (results_cell_tmp rfl _ _ _ 27 #[.int .i64 0, .int .i64 0, .slice none 0 0] (0, 0) _ (.int .i64 4) rfl (HX1.out _) rfl Try.underlying27 rfl hinfo) rfl (RetG2.zero (HB.out _ _))
end Go.Proofs.Ytofhdakggapahaa
namespace Go.By
open Go.RowKit
theorem one_cell' {w : World} {v : Value} {T g : Nat} (hg : g = w.heap.size) : ∀ (j : Nat) (u : Value), [v][j]? = some u → (w.alloc (.cells #[v] T)).cell? ((⟨g, 0, none⟩ : Addr).add j) = some u := by
  intro j u hj
  rw [Addr.add_lit, Nat.zero_add, cell_of_row _ _ j _ _ _ (hnew hg)]
  match j with
  | 0 => simpa using hj
  | j + 1 => simp at hj
end Go.By
namespace Go.Proofs.Ytofhdakggapahaa
open Go.RowKit Go.By
def turnX (wd : Nat) (xss : List (List UInt8)) : List (List UInt8) := (List.range wd).map fun b => xss.map fun row => row.getD b 0
theorem range_map_succ {α : Type} (f : Nat → α) (k : Nat) : (List.range (k + 1)).map f = (List.range k).map f ++ [f k] := by rw [List.range_succ, List.map_append]; rfl
theorem take_map_succ' {α β : Type} (f : α → β) {xs : List α} {k : Nat} {x : α} (hx : xs[k]? = some x) : (xs.take (k + 1)).map f = (xs.take k).map f ++ [f x] := by
  rw [List.take_add_one, hx, List.map_append]; rfl
set_option maxRecDepth 100000 in
set_option maxHeartbeats 4000000 in
theorem RTurned_any (wd : Nat) (p : Option Addr) (m c : Nat) (xss : List (List UInt8)) (w : World) (h : Sl2 w p m c xss) (hall : ∀ x, x ∈ xss → wd ≤ x.length) (hw : wd ≤ 65536) (hm : m ≤ 65536) :
    Calls Try.prog 26 #[.slice p m c, .int .i64 wd] w fun e w' => ∃ q c', e = .returned (.slice q wd c') ∧ Own2 25 5 w' w.heap.size (.slice q wd c') wd (turnX wd xss) ∧ Below w.heap.size w w' := by
  obtain ⟨r0, hr0, hrz, hr1, hr2⟩ := info_parts info_rows
  obtain ⟨i0, hi0, hz0, hz1, hz2⟩ := info_parts info_u8
  have H := Lib.hid h; have HALL := Lib.hid hall; have HLEN := Lib.hid h.len
  have hmb := h.bound
  clear h hall
  go_enter Try.func26, Try.ntmps26
  go_wp2
  go_loopw [5, 6] (fun o i wr => ∃ (k : Nat) (qo : Option Addr) (co : Nat), k ≤ wd ∧ i = .int .i64 k ∧ o = .slice qo k co ∧ Hid (Own2 25 5 wr w.heap.size (.slice qo k co) k ((List.range k).map fun b => xss.map fun row => row.getD b 0)) ∧ Hid (Below w.heap.size w wr)) (fun _ i _ => wd - (intOf i).toNat)
  case atStart => exact ⟨0, none, 0, Nat.zero_le _, rfl, rfl, Own2.nil _ _ _ _, Below.refl _ _⟩
  case round =>
    obtain ⟨k, qo, co, hk, rfl, rfl, hO, hB⟩ := hrel
    by_cases hlt : k < wd
    · have kn : (k : Int) < (wd : Int) := by omega
      go_wp2
      obtain ⟨wo, rfl⟩ : ∃ wo : World, wo = wr := ⟨_, rfl⟩
      go_loopw [7, 17] (fun v i wq => ∃ (j : Nat) (qv : Option Addr) (cv : Nat), j ≤ m ∧ i = .int .i64 j ∧ v = .slice qv j cv ∧ Hid (wq.ownsRow wo.heap.size 5 1 (.slice qv j cv) j (((xss.take j).map fun row => row.getD k 0).map B8)) ∧ Hid (Below wo.heap.size wo wq)) (fun _ i _ => m - (intOf i).toNat)
      case atStart => exact ⟨0, none, 0, Nat.zero_le _, rfl, rfl, World.ownsRow_nil _ _ _ _, Below.refl _ _⟩
      case round =>
        obtain ⟨j, qv, cv, hj, rfl, rfl, hV, hQ⟩ := hrel
        by_cases hjl : j < m
        · obtain ⟨b, o, q, mx, cx, row, rfl, hc, hs, hx⟩ := H.out.at j hjl
          have kw : Below w.heap.size w wr := bl hB.out hQ.out hB.out.size
          have hcw := (kw.cell (p := ⟨b, o + j, none⟩) (lt_of_cell hc)).trans hc
          have hkm : k < mx := by have h1 := HALL.out row (List.mem_of_getElem? hx.out); have h2 := hs.len; omega
          obtain ⟨b', o', x, rfl, hcx, hxx⟩ := hs.at k hkm
          have hcxw := (kw.cell (p := ⟨b', o' + k, none⟩) (lt_of_cell hcx)).trans hcx
          have jn : (j : Int) < (m : Int) := by omega
          have kmx : (k : Int) < (mx : Int) := by omega
          have hstep : Hid (((xss.take (j + 1)).map fun row => row.getD k 0).map B8 = ((xss.take j).map fun row => row.getD k 0).map B8 ++ [B8 x]) := by
            show _ = _
            rw [take_map_succ' _ hx.out, List.map_append]
            have : row.getD k 0 = x := by rw [List.getD_eq_getElem?_getD, hxx.out]; rfl
            rw [List.map_cons, List.map_nil, this]
          have hsz := hQ.out.size
          have V2 : Hid (∀ o, (wr.alloc o).ownsRow wo.heap.size 5 1 (.slice qv j cv) j (((xss.take j).map fun row => row.getD k 0).map B8)) := fun o => owns_keep hV.out (al (Below.refl _ _) (Nat.le_refl _))
          obtain ⟨LV, hLV⟩ : ∃ LV, LV = ((xss.take j).map fun row => row.getD k 0).map B8 := ⟨_, rfl⟩
          rw [← hLV] at hstep V2
          clear hc hs hx hcx hxx kw hLV
          go_wp2_with (at_builtin; refine wpList_append_own _ rfl _ _ 25 rfl wo.heap.size 5 i0 (.int .u8 0) 1 1 Try.underlying25 hi0 hz0 hz1 hz2 rfl (by omega) _ j _ rfl (V2.out _) ⟨wr.heap.size, 0, none⟩ 1 1 [B8 x] rfl rfl (one_cell' rfl) ?c2 ?c3 ?c4 ?c5 ?_)
          case c2 => intro y hy; simp at hy; subst hy; rfl
          case c3 => unfold maxLen; omega
          case c4 => omega
          case c5 => simp; omega
          intro v5 w5 ho5 hg5 _
          obtain ⟨q5, c5, rfl⟩ := owns_shape ho5
          have P5 : Hid (w5.ownsRow wo.heap.size 5 1 (.slice q5 (j + 1) c5) (j + 1) (((xss.take (j + 1)).map fun row => row.getD k 0).map B8) ∧ Below wo.heap.size wo w5) := by
            refine ⟨by rw [hstep.out]; exact ho5, ?_⟩
            exact (al hQ.out hsz).grown hg5 (by simp; omega) (fun kk hk => (hV.out.lt kk hk).1)
          clear ho5 hg5 hV hQ V2 hstep hcw hcxw hsz
          go_wp2
          go_roundw
          case rel => exact ⟨j + 1, q5, c5, by omega, by go_num, rfl, P5.out.1, P5.out.2⟩
          case measure => simp [intOf]; omega
        · have hjm : j = m := by omega
          have hge : (m : Int) ≤ (j : Int) := by omega
          have VF : Hid (wr.ownsRow w.heap.size 5 1 (.slice qv j cv) j ((xss.map fun row => row.getD k 0).map B8)) := by
            have := hV.out
            rw [List.take_of_length_le (by rw [HLEN.out, hjm]; exact Nat.le_refl _)] at this
            exact owns_mono this hB.out.size
          have OQ : Hid (Own2 25 5 wr w.heap.size (.slice qo k co) k ((List.range k).map fun b => xss.map fun row => row.getD b 0)) := hO.out.keep hQ.out
          have BQ : Hid (Below w.heap.size w wr) := bl hB.out hQ.out hB.out.size
          have bal : ∀ (W : World) (o : Obj), Below W.heap.size W (W.alloc o) := fun W o => al (Below.refl _ _) (Nat.le_refl _)
          obtain ⟨vs, oA, lA, rA⟩ := OQ.out
          have OA := Lib.hid oA; have LA := Lib.hid lA; have RA := Lib.hid rA
          have hO2 : Hid (∀ o, (wr.alloc o).ownsRow w.heap.size 25 1 (.slice qo k co) k vs) := fun o => owns_keep OA.out (bal _ _)
          have HBAL := Lib.hid bal
          have hsz := BQ.out.size
          clear hjm hV hQ hO hB oA lA rA bal OQ
          go_wp2_with (at_builtin; refine wpList_append_own _ rfl _ _ 22 rfl w.heap.size 25 r0 (.slice none 0 0) 1 24 Try.underlying22 hr0 hrz hr1 hr2 rfl (by omega) _ k _ rfl (hO2.out _) ⟨wr.heap.size, 0, none⟩ 1 1 [.slice qv j cv] rfl rfl (one_cell' rfl) ?d2 ?d3 ?d4 ?d5 ?_)
          case d2 => intro y hy; simp at hy; subst hy; rfl
          case d3 => unfold maxLen; omega
          case d4 => omega
          case d5 => simp; omega
          intro v6 w6 ho6 hg6 _
          obtain ⟨q6, c6, rfl⟩ := owns_shape ho6
          have P6 : Hid (Own2 25 5 w6 w.heap.size (.slice q6 (k + 1) c6) (k + 1) ((List.range (k + 1)).map fun b => xss.map fun row => row.getD b 0) ∧ Below w.heap.size w w6) := by
            refine ⟨?_, (al BQ.out hsz).grown hg6 (by simp; omega) (fun kk hk => (OA.out.lt kk hk).1)⟩
            rw [range_map_succ]
            exact Own2.push (by decide) LA.out (fun jj val hjj => by
              obtain ⟨xs, q, c', a, b, d⟩ := RA.out jj val hjj
              exact ⟨xs, q, c', a, b, owns_keep d (HBAL.out _ _)⟩) (hO2.out _) (owns_keep VF.out (HBAL.out _ _)) ho6 hg6
          clear ho6 hg6 hO2 OA LA RA VF BQ hsz
          go_wp2
          go_roundw
          case rel => exact ⟨k + 1, q6, c6, by omega, by go_num, rfl, P6.out.1, P6.out.2⟩
          case measure => simp [intOf]; omega
    · have hkw : k = wd := by omega
      have hge : (wd : Int) ≤ (k : Int) := by omega
      have OF : Hid (Own2 25 5 wr w.heap.size (.slice qo wd co) wd (turnX wd xss)) := by have := hO.out; rw [hkw] at this; exact this
      have BF := Lib.hid hB.out
      subst hkw
      clear hO hB
      go_wp2
      go_ret
      exact ⟨qo, co, rfl, OF.out, BF.out⟩
end Go.Proofs.Ytofhdakggapahaa
namespace Go.By
open Go.RowKit
theorem results_cell_tmp2 {P : Program} {fn : Func} {p u u2 : Tmp} {ty : TypeId} (h : fn.results = #[.cell p ty, .tmp u, .tmp u2]) (tmps : Array Value) (w : World) (g : Nat) (t : TypeId) (cs : Array Value) (fr : Nat × Nat) (d : TypeDesc) (v v2 : Value)
    (hp : tmps.getD p undef = .pointer (some ⟨g, 0, none⟩)) (hg : w.heap[g]? = some (.cells cs t fr)) (hv : tmps.getD u undef = v) (hv2 : tmps.getD u2 undef = v2)
    (hu : P.underlying ty = some d) (hd : (match d with | .struct _ | .array _ _ => true | _ => false) = true) (hi : (P.info? ty).map (·.size) = some cs.size) :
    (results fn tmps).run P w = .ok (.tuple #[.agg cs, v, v2]) w := by
  have hp' : tmps[p]?.getD undef = .pointer (some ⟨g, 0, none⟩) := by simpa using hp
  have hv' : tmps[u]?.getD undef = v := by simpa using hv
  have hv2' : tmps[u2]?.getD undef = v2 := by simpa using hv2
  simp [results, h, hp', hv', hv2', asAddr, run_loadVar_row w g t ty cs fr d hg hu hd hi]
theorem heap_of_owns {w : World} {base E g n : Nat} {L : List Value} (h : w.ownsRow base E 1 (.slice (some ⟨g, 0, none⟩) n n) n L) : w.heap[g]? = some (.cells L.toArray E (0, 0)) := by
  rcases h.2 with ⟨h1, _⟩ | ⟨g', cap, cur, hv, _, hh, _, _, hs, ht⟩
  · cases h1
  · cases hv
    rw [hh]
    have : cur = L.toArray := by
      rw [← ht, List.take_of_length_le (by simp [hs])]
    rw [this]
/-- a block known whole is owned -/
theorem owns_of_heap {w : World} {base E g n : Nat} {L : List Value} (hg : base ≤ g) (hh : w.heap[g]? = some (.cells L.toArray E (0, 0))) (hl : L.length = n) (hm : n ≤ maxLen) : w.ownsRow base E 1 (.slice (some ⟨g, 0, none⟩) n n) n L :=
  ⟨by rw [Nat.mul_one]; exact hl, .inr ⟨g, n, L.toArray, rfl, hg, hh, Nat.le_refl _, hm, by simp [hl], by rw [Nat.mul_one, List.take_of_length_le (by simp [hl])]⟩⟩
end Go.By
namespace Go.Proofs.Ytofhdakggapahaa
open Go.RowKit Go.By
/-- the first bytes of a row, with noughts behind -/
def fitR (wd : Nat) (r : List UInt8) : List UInt8 := r.take wd ++ List.replicate (wd - r.length) 0
theorem fitR_len (wd : Nat) (r : List UInt8) : (fitR wd r).length = wd := by unfold fitR; rw [List.length_append, List.length_take, List.length_replicate]; omega
theorem splice_fit (wd : Nat) (r : List UInt8) : splice (List.replicate wd (B8 0)) 0 ((r.take wd).map B8) = (fitR wd r).map B8 := by
  unfold splice fitR
  rw [List.take_zero, List.nil_append, Nat.zero_add, List.drop_replicate, List.length_map, List.length_take, List.map_append, List.map_replicate]
  congr 2
  omega
/-- what Made gives -/
def RetM (w : World) (m wd : Nat) (R : List (List UInt8)) (e : Ending) (w' : World) : Prop :=
  ∃ q n c q2 c2, n = m * wd ∧ e = .returned (.tuple #[.agg #[.int .i64 m, .int .i64 wd, .slice q n c], .slice q2 m c2, .int .i64 wd]) ∧ w'.ownsRow w.heap.size 5 1 (.slice q n c) n (R.flatten.map B8) ∧
    Own2 25 5 w' w.heap.size (.slice q2 m c2) m R ∧ Below w.heap.size w w'
set_option maxRecDepth 100000 in
set_option maxHeartbeats 4000000 in
theorem Made_any (x : UInt8) (p : Option Addr) (m c : Nat) (xss : List (List UInt8)) (w : World) (h : Sl2 w p m c xss) (hm : m ≤ 30) :
    Calls Try.prog 19 #[B8 x, .slice p m c] w (RetM w m (x.toNat % 31) (xss.map (fitR (x.toNat % 31)))) := by
  have hinfo := info_grid
  obtain ⟨r0, hr0, hrz, hr1, hr2⟩ := info_parts info_rows
  obtain ⟨i0, hi0, hz0, hz1, hz2⟩ := info_parts info_u8
  obtain ⟨wd, hwd⟩ : ∃ wd, wd = x.toNat % 31 := ⟨_, rfl⟩
  have hw : wd ≤ 30 := by omega
  have hwz : ((x.toNat : Int) % 31) = (wd : Int) := by omega
  have hwt : ((x.toNat : Int)).tmod 31 = (wd : Int) := by rw [Int.tmod_eq_emod_of_nonneg (by omega)]; exact hwz
  have H := Lib.hid h; have HLEN := Lib.hid h.len
  have HM1 : Hid (wd ≤ maxLen) := by show wd ≤ maxLen; unfold maxLen; omega
  have HM2 : Hid (1 * wd ≤ 281474976710656) := by show 1 * wd ≤ _; omega
  rw [← hwd]
  have HB0 : Hid (Below w.heap.size w (w.alloc (.cells #[.int .i64 0, .int .i64 0, .slice none 0 0] 27))) := al (Below.refl _ _) (Nat.le_refl _)
  clear h hwd
  go_enter Try.func19, Try.ntmps19
  go_wp2
  go_loopw [8, 19] (fun o i wr => ∃ (k : Nat) (qo : Option Addr) (co : Nat), k ≤ m ∧ i = .int .i64 k ∧ o = .slice qo k co ∧ Hid (Own2 25 5 wr (w.heap.size + 1) (.slice qo k co) k ((xss.take k).map (fitR wd))) ∧ Hid (Below w.heap.size w wr) ∧
    Hid (wr.heap[w.heap.size]? = some (.cells #[.int .i64 0, .int .i64 0, .slice none 0 0] 27 (0, 0)))) (fun _ i _ => m - (intOf i).toNat)
  case atStart => exact ⟨0, none, 0, Nat.zero_le _, rfl, rfl, Own2.nil _ _ _ _, HB0.out, hnew rfl⟩
  case round =>
    obtain ⟨k, qo, co, hk, rfl, rfl, hO, hB, hZ⟩ := hrel
    by_cases hlt : k < m
    · obtain ⟨b, o, q, mx, cx, row, rfl, hc, hs, hx⟩ := H.out.at k hlt
      have hcw := (hB.out.cell (p := ⟨b, o + k, none⟩) (lt_of_cell hc)).trans hc
      have HSW := Lib.hid (hs.keep hB.out)
      have kn : (k : Int) < (m : Int) := by omega
      have hstep : Hid ((xss.take (k + 1)).map (fitR wd) = (xss.take k).map (fitR wd) ++ [fitR wd row]) := take_map_succ' _ hx.out
      have hszw := (hB.out.size)
      have hzlt := Lib.hid (blk_lt hZ.out)
      have hmx := Lib.hid hs.len
      clear hc hs hx
      go_wp2_with (at_make; refine wpList_make_full _ rfl _ _ 25 rfl wr.heap.size 5 i0 (.int .u8 0) 1 Try.underlying25 hi0 hz0 hz1 .i64 .i64 _ _ wd rfl rfl rfl rfl (by rw [hz2]; exact HM2.out) HM1.out (Nat.le_refl _) ?_)
      intro w1 ho hg
      have HV : Hid (w1.heap[wr.heap.size]? = some (.cells (List.replicate wd (B8 0)).toArray 5 (0, 0))) := by
        have e : (madeCells #[Value.int .u8 0] wd).toList = List.replicate wd (B8 0) := toList_madeCells_one _ _
        rw [e] at ho
        exact heap_of_owns ho
      have B1 : Hid (Below wr.heap.size wr w1) := (Below.refl _ _).grown hg (Nat.le_refl _) (by simp)
      have HS1 := Lib.hid (HSW.out.keep B1.out)
      clear ho hg hcw
      have HE1 : Hid (((row.take wd).map B8).length = Nat.min mx wd) := by
        show _ = _
        rw [List.length_map, List.length_take, hmx.out, Nat.min_comm]
      have HE2 : Hid (0 < ((row.take wd).map B8).length → (some ⟨wr.heap.size, 0, none⟩ : Option Addr) = some ⟨wr.heap.size, 0, none⟩ ∧ ∃ ad, q = some ad ∧ ∀ (j : Nat) (v : Value), ((row.take wd).map B8)[j]? = some v → w1.cell? (ad.add j) = some v) := by
        intro hpos
        refine ⟨rfl, ?_⟩
        have hr0 : 0 < row.length := by rw [List.length_map, List.length_take] at hpos; omega
        obtain ⟨b', o', hp', hc'⟩ := HS1.out.rs 0 hr0
        refine ⟨⟨b', o', none⟩, hp', fun j v hj => ?_⟩
        have hjl := (List.getElem?_eq_some_iff.1 hj).1
        rw [List.length_map, List.length_take] at hjl
        obtain ⟨b2, o2, hp2, hc2⟩ := HS1.out.rs j (by omega)
        rw [hp'] at hp2; cases hp2
        rw [Addr.add_lit, hc2]
        rw [List.getElem?_map, List.getElem?_take, if_pos (by omega), List.getElem?_eq_getElem (by omega)] at hj
        exact hj
      have HE3 : Hid (0 + ((row.take wd).map B8).length ≤ (List.replicate wd (B8 0)).length) := by
        show _ ≤ _
        rw [List.length_map, List.length_take, List.length_replicate]; omega
      have HE4 : Hid (∀ v, v ∈ (row.take wd).map B8 → v.oneCell' = true) := by
        intro v hv
        obtain ⟨y, _, rfl⟩ := List.mem_map.1 hv
        rfl
      go_wp2_with (with_reducible refine wpList_copy_splice rfl (.tmp 25) (.tmp 26) 25 25 rfl 5 Try.underlying25 (by kernel_rfl) (some ⟨wr.heap.size, 0, none⟩) q wd wd mx cx rfl rfl wr.heap.size 0 (List.replicate wd (B8 0)) 5 HV.out ((row.take wd).map B8) HE1.out HE2.out HE3.out HE4.out wr.heap.size wr B1.out (Nat.le_refl _) ?_)
      intro w2 hv2 hb2
      have R2 : Hid (w2.ownsRow (w.heap.size + 1) 5 1 (.slice (some ⟨wr.heap.size, 0, none⟩) wd wd) wd ((fitR wd row).map B8)) := by
        have := hv2.out
        rw [← List.map_take, splice_fit] at this
        have h1 := hzlt.out
        exact owns_of_heap (by omega) this (by rw [List.length_map, fitR_len]) HM1.out
      have O2 := hO.out.keep hb2
      have B2 : Hid (Below w.heap.size w w2) := bl hB.out hb2 hszw
      have Z2 : Hid (w2.heap[w.heap.size]? = some (.cells #[.int .i64 0, .int .i64 0, .slice none 0 0] 27 (0, 0))) := (hb2.block _ hzlt.out).trans hZ.out
      have bal : ∀ (W : World) (o : Obj), Below W.heap.size W (W.alloc o) := fun W o => al (Below.refl _ _) (Nat.le_refl _)
      obtain ⟨vs, oA, lA, rA⟩ := O2
      have OA := Lib.hid oA; have LA := Lib.hid lA; have RA := Lib.hid rA
      have hO3 : Hid (∀ o, (w2.alloc o).ownsRow (w.heap.size + 1) 25 1 (.slice qo k co) k vs) := fun o => owns_keep OA.out (bal _ _)
      have HBAL := Lib.hid bal
      have hsz2 := hb2.size
      have hz1' := hzlt.out
      have nZ : Hid (∀ kk, (Value.slice qo k co).ownBlock = some kk → kk ≠ w.heap.size) := fun kk hk e => by have := (OA.out.lt kk hk).1; omega
      clear hv2 hb2 oA lA rA bal hO hB hZ HV B1 HS1 HSW hmx HE1 HE2 HE3 HE4
      go_wp2_with (at_builtin; refine wpList_append_own _ rfl _ _ 22 rfl (w.heap.size + 1) 25 r0 (.slice none 0 0) 1 24 Try.underlying22 hr0 hrz hr1 hr2 rfl (by omega) _ k _ rfl (hO3.out _) ⟨w2.heap.size, 0, none⟩ 1 1 [.slice (some ⟨wr.heap.size, 0, none⟩) wd wd] rfl rfl (one_cell' rfl) ?d2 ?d3 ?d4 ?d5 ?_)
      case d2 => intro y hy; simp at hy; subst hy; rfl
      case d3 => unfold maxLen; omega
      case d4 => omega
      case d5 => simp; omega
      intro v6 w6 ho6 hg6 _
      obtain ⟨q6, c6, rfl⟩ := owns_shape ho6
      have P6 : Hid (Own2 25 5 w6 (w.heap.size + 1) (.slice q6 (k + 1) c6) (k + 1) ((xss.take (k + 1)).map (fitR wd)) ∧ Below w.heap.size w w6 ∧ w6.heap[w.heap.size]? = some (.cells #[.int .i64 0, .int .i64 0, .slice none 0 0] 27 (0, 0))) := by
        refine ⟨?_, (al B2.out B2.out.size).grown hg6 (by have := B2.out.size; simp; omega) (fun kk hk => by have := (OA.out.lt kk hk).1; omega), ?_⟩
        · rw [hstep.out]
          exact Own2.push (by decide) LA.out (fun jj val hjj => by
            obtain ⟨xs, q, c', a, b, d⟩ := RA.out jj val hjj
            exact ⟨xs, q, c', a, b, owns_keep d (HBAL.out _ _)⟩) (hO3.out _) (owns_keep R2.out (HBAL.out _ _)) ho6 hg6
        · rw [hg6.block _ (by have := blk_lt Z2.out; simp; omega) (fun e => nZ.out _ e.symm rfl)]
          exact hal Z2.out
      clear ho6 hg6 hO3 OA LA RA R2 B2 Z2
      go_wp2
      go_roundw
      case rel => exact ⟨k + 1, q6, c6, by omega, by go_num, rfl, P6.out.1, P6.out.2.1, P6.out.2.2⟩
      case measure => simp [intOf]; omega
    · have hkm : k = m := by omega
      have hge : (m : Int) ≤ (k : Int) := by omega
      have OF : Hid (Own2 25 5 wr (w.heap.size + 1) (.slice qo m co) m (xss.map (fitR wd))) := by
        have := hO.out
        rw [hkm, List.take_of_length_le (by rw [HLEN.out]; exact Nat.le_refl _)] at this; exact this
      have HOF : Hid (∀ W, Sl2 W qo m co (xss.map (fitR wd)) → Calls Try.prog 11 #[.int .i64 wd, .slice qo m co] W (RetG2 5 W m wd (xss.map (fitR wd)).flatten 0)) := fun W h =>
        GOf_good wd qo m co _ W h (by omega) (by omega) (by have : m * wd ≤ 30 * 30 := Nat.mul_le_mul hm hw; omega) (by
          rw [List.all_eq_true]
          intro y hy
          obtain ⟨r, _, rfl⟩ := List.mem_map.1 hy
          exact decide_eq_true (fitR_len wd r))
      subst hkm
      clear hO
      go_wp2_with fail
      refine Calls.mono (HOF.out _ OF.out.sl2) ?_
      rintro e w2 ⟨q2, n2, c2, hn2, rfl, ho2, hb2⟩
      have O2 := Lib.hid (OF.out.keep hb2)
      have B2 := Lib.hid (bl hB.out hb2 hB.out.size)
      have hszw := hB.out.size
      have hzlt := blk_lt hZ.out
      have Z2 : Hid (w2.heap[w.heap.size]? = some (.cells #[.int .i64 0, .int .i64 0, .slice none 0 0] 27 (0, 0))) := (hb2.block _ (blk_lt hZ.out)).trans hZ.out
      have HO2 : Hid (w2.ownsRow (w.heap.size + 1) 5 1 (.slice q2 n2 c2) n2 ((xss.map (fitR wd)).flatten.map B8)) := owns_mono ho2 (by omega)
      have HN2 := Lib.hid hn2
      clear ho2 hb2 hB hZ OF HOF hn2
      obtain ⟨f0, f1, f2⟩ := cells3 (hal (o := .cells #[.int .i64 k, .int .i64 wd, .slice q2 n2 c2] 27) Z2.out)
      have z0 := frozen_of_row _ _ 0 _ _ (hal (o := .cells #[.int .i64 k, .int .i64 wd, .slice q2 n2 c2] 27) Z2.out)
      have z1 := frozen_of_row _ _ 1 _ _ (hal (o := .cells #[.int .i64 k, .int .i64 wd, .slice q2 n2 c2] 27) Z2.out)
      have z2 := frozen_of_row _ _ 2 _ _ (hal (o := .cells #[.int .i64 k, .int .i64 wd, .slice q2 n2 c2] 27) Z2.out)
      go_wp2
      refine bodyPost_ret (results_cell_tmp2 rfl _ _ _ 27 #[.int .i64 k, .int .i64 wd, .slice q2 n2 c2] (0, 0) _ (.slice qo k co) (.int .i64 wd) rfl (hss (hss (hss (hal Z2.out)))) rfl rfl Try.underlying27 rfl hinfo) rfl ⟨q2, n2, c2, qo, co, HN2.out, rfl, ?_, ?_, (((al B2.out B2.out.size).setCell (Nat.le_refl _) _).setCell (Nat.le_refl _) _).setCell (Nat.le_refl _) _⟩
      · exact owns_mono (owns_set (owns_set (owns_set (owns_keep HO2.out (al (Below.refl _ _) (Nat.le_refl _))) (by omega)) (by omega)) (by omega)) (by omega)
      · have key : ∀ (W : World) (u : Value) (i : Nat) (T : TypeId) (cs : Array Value), W.heap[w.heap.size]? = some (.cells cs T (0, 0)) → Own2 25 5 W (w.heap.size + 1) (.slice qo k co) k (xss.map (fitR wd)) → Own2 25 5 (W.setCell ⟨w.heap.size, i, none⟩ u) (w.heap.size + 1) (.slice qo k co) k (xss.map (fitR wd)) := by
          intro W u i T cs hW ⟨vs, oA, lA, rA⟩
          exact ⟨vs, owns_set oA (by omega), lA, fun jj val hjj => by
            obtain ⟨xs, q, c', a, b, d⟩ := rA jj val hjj
            exact ⟨xs, q, c', a, b, owns_set d (by omega)⟩⟩
        have mono : ∀ (W : World), Own2 25 5 W (w.heap.size + 1) (.slice qo k co) k (xss.map (fitR wd)) → Own2 25 5 W w.heap.size (.slice qo k co) k (xss.map (fitR wd)) := by
          intro W ⟨vs, oA, lA, rA⟩
          exact ⟨vs, owns_mono oA (by omega), lA, fun jj val hjj => by
            obtain ⟨xs, q, c', a, b, d⟩ := rA jj val hjj
            exact ⟨xs, q, c', a, b, owns_mono d (by omega)⟩⟩
        exact mono _ (key _ _ _ _ _ (hss (hss (hal Z2.out))) (key _ _ _ _ _ (hss (hal Z2.out)) (key _ _ _ _ _ (hal Z2.out) (O2.out.keep (al (Below.refl _ _) (Nat.le_refl _))))))
end Go.Proofs.Ytofhdakggapahaa
namespace Go.By
open Go.RowKit
theorem grownBy_setRow (w : World) (g : Nat) (cs : Array Value) : w.grownBy (w.setRow g cs) (some g) :=
  ⟨rfl, rfl, rfl, by simp [World.setRow], fun b _ hne => by
    simp only [World.setRow, Array.getElem?_modify]
    rw [if_neg (fun e => hne (by rw [e]))]⟩
theorem take_splice {α : Type} (cur cs : List α) (off n : Nat) (h1 : off + cs.length ≤ n) (h2 : n ≤ cur.length) : (cur.take off ++ (cs ++ cur.drop (off + cs.length))).take n = (cur.take n).take off ++ (cs ++ (cur.take n).drop (off + cs.length)) := by
  have l1 : (cur.take off).length = off := by rw [List.length_take]; omega
  rw [List.take_append, l1, List.take_of_length_le (by omega), List.take_take, Nat.min_eq_left (by omega)]
  congr 1
  rw [List.take_append, List.take_of_length_le (by omega)]
  congr 1
  rw [List.drop_take]
  congr 1
  omega
theorem owns_splice {w : World} {base E g n cap off : Nat} {L cs : List Value} (h : w.ownsRow base E 1 (.slice (some ⟨g, 0, none⟩) n cap) n L) (hfit : off + cs.length ≤ n) :
    ∃ cur : Array Value, w.heap[g]? = some (.cells cur E (0, 0)) ∧ off + cs.length ≤ cur.size ∧ (w.setRow g (cur.toList.take off ++ (cs ++ cur.toList.drop (off + cs.length))).toArray).ownsRow base E 1 (.slice (some ⟨g, 0, none⟩) n cap) n (L.take off ++ (cs ++ L.drop (off + cs.length))) := by
  rcases h.2 with ⟨h1, _⟩ | ⟨g', cap', cur, hv, hb, hh, hle, hm, hs, ht⟩
  · cases h1
  · cases hv
    have hsz : cur.toList.length = cap := by simpa using hs
    have hL := h.1
    refine ⟨cur, hh, by simp at hsz; omega, ?_, .inr ⟨g, cap, _, rfl, hb, hrs hh, hle, hm, ?_, ?_⟩⟩
    · simp only [List.length_append, List.length_take, List.length_drop]; omega
    · simp only [List.size_toArray, List.length_append, List.length_take, List.length_drop]; omega
    · rw [Nat.mul_one] at ht ⊢
      rw [List.toList_toArray, take_splice _ _ _ _ hfit (by omega), ht]
end Go.By
namespace Go.Proofs.Ytofhdakggapahaa
open Go.RowKit Go.By
theorem rowF_len2 {h wd i : Nat} {cells : List UInt8} (hl : cells.length = h * wd) (hi : i < h) : (rowF wd cells i).length = wd := by
  have : (i + 1) * wd ≤ h * wd := Nat.mul_le_mul_right _ hi
  rw [Nat.add_mul, Nat.one_mul] at this
  unfold rowF; rw [List.length_take, List.length_drop]; omega
def mulR (w2 : Nat) (R2 : List (List UInt8)) (r : List UInt8) : List UInt8 := combF (List.replicate w2 0) r R2
theorem mulR_len {w2 : Nat} {R2 : List (List UInt8)} (h : ∀ x, x ∈ R2 → x.length = w2) (r : List UInt8) : (mulR w2 R2 r).length = w2 := combF_len r R2 w2 h _ (by simp)
theorem comb_ok {w2 : Nat} {R2 : List (List UInt8)} {r : List UInt8} (h : ∀ x, x ∈ R2 → x.length = w2) (hl : r.length = R2.length) : combS r R2 = (if R2 = [] then [] else mulR w2 R2 r, 0) := by
  unfold combS
  rw [if_pos hl]
  cases R2 with
  | nil =>
    have : r = [] := List.length_eq_zero_iff.1 (by simpa using hl)
    subst this
    simp [noughtS, combF]
  | cons x l =>
    have hx := h x (by simp)
    have e : noughtS (x :: l) = (List.replicate w2 0, 0) := noughtS_of (x0 := x) rfl hx h
    rw [e, if_pos rfl, if_neg (by simp)]
    rfl
/-- the product's cells behind so many rows -/
def mulC (w2 h1 : Nat) (R2 R1 : List (List UInt8)) (k : Nat) : List UInt8 := ((R1.take k).map (mulR w2 R2)).flatten ++ List.replicate ((h1 - k) * w2) 0
theorem mul_flat_len {w2 : Nat} {R2 : List (List UInt8)} (h : ∀ x, x ∈ R2 → x.length = w2) : ∀ l : List (List UInt8), ((l.map (mulR w2 R2)).flatten).length = l.length * w2
  | [] => by simp
  | x :: l => by
    rw [List.map_cons, List.flatten_cons, List.length_append, mulR_len h, mul_flat_len h l, List.length_cons, Nat.add_mul]; omega
theorem mulC_len {w2 h1 k : Nat} {R2 R1 : List (List UInt8)} (h : ∀ x, x ∈ R2 → x.length = w2) (h1l : R1.length = h1) (hk : k ≤ h1) : (mulC w2 h1 R2 R1 k).length = h1 * w2 := by
  unfold mulC
  rw [List.length_append, mul_flat_len h, List.length_replicate, List.length_take, h1l, Nat.min_eq_left hk, ← Nat.add_mul]
  congr 1; omega
theorem mulC_step {w2 h1 k : Nat} {R2 R1 : List (List UInt8)} {r : List UInt8} (h : ∀ x, x ∈ R2 → x.length = w2) (h1l : R1.length = h1) (hk : k < h1) (hr : R1[k]? = some r) :
    (mulC w2 h1 R2 R1 k).take (k * w2) ++ (mulR w2 R2 r ++ (mulC w2 h1 R2 R1 k).drop (k * w2 + w2)) = mulC w2 h1 R2 R1 (k + 1) := by
  have hl : (((R1.take k).map (mulR w2 R2)).flatten).length = k * w2 := by rw [mul_flat_len h, List.length_take, h1l, Nat.min_eq_left (by omega)]
  unfold mulC
  rw [← hl, List.take_left, ← List.drop_drop, List.drop_left, List.drop_replicate]
  rw [List.take_add_one, hr, List.map_append, List.flatten_append]
  simp only [Option.toList_some, List.map_cons, List.map_nil, List.flatten_cons, List.flatten_nil, List.append_nil, List.append_assoc]
  congr 3
  have : (h1 - k) * w2 = (h1 - (k + 1)) * w2 + w2 := by rw [← Nat.succ_mul]; congr 1; omega
  omega
theorem mulC_skip {w2 h1 k : Nat} {R2 R1 : List (List UInt8)} {r : List UInt8} (h2 : R2 = []) (hk : k < h1) (h1l : R1.length = h1) (hr : R1[k]? = some r) : mulC w2 h1 R2 R1 k = mulC w2 h1 R2 R1 (k + 1) := by
  subst h2
  have e : mulR w2 [] r = List.replicate w2 0 := by unfold mulR combF; simp
  unfold mulC
  rw [List.take_add_one, hr, List.map_append, List.flatten_append]
  simp only [Option.toList_some, List.map_cons, List.map_nil, List.flatten_cons, List.flatten_nil, List.append_nil, List.append_assoc]
  rw [e, List.replicate_append_replicate]
  congr 2
  have : (h1 - k) * w2 = (h1 - (k + 1)) * w2 + w2 := by rw [← Nat.succ_mul]; congr 1; omega
  omega
theorem mulC_zero (h1 k : Nat) (R2 R1 : List (List UInt8)) (h : ∀ x, x ∈ R2 → x.length = 0) (h1l : R1.length = h1) (hk : k ≤ h1) : mulC 0 h1 R2 R1 k = [] := List.length_eq_zero_iff.1 (by rw [mulC_len h h1l hk, Nat.mul_zero])
theorem own2_setRow {T2 T1 base n g : Nat} {W : World} {v : Value} {xss : List (List UInt8)} {cs : Array Value} (h : Own2 T2 T1 W base v n xss) (hg : g < base) : Own2 T2 T1 (W.setRow g cs) base v n xss := by
  obtain ⟨vs, oA, lA, rA⟩ := h
  have key : ∀ {e : TypeId} {u : Value} {m : Nat} {L : List Value}, W.ownsRow base e 1 u m L → (W.setRow g cs).ownsRow base e 1 u m L := fun o => owns_kept o (grownBy_setRow W g cs) (fun k hk e => by
    have := (o.lt k hk).1; injection e with e; omega)
  exact ⟨vs, key oA, lA, fun j val hj => by obtain ⟨xs, q, c', a, b, d⟩ := rA j val hj; exact ⟨xs, q, c', a, b, key d⟩⟩
set_option maxRecDepth 100000 in
set_option maxHeartbeats 4000000 in
theorem GMul_size (h1 w1 h2 w2 : Nat) (p1 p2 : Option Addr) (n1 c1 n2 c2 : Nat) (w : World) (hne : w1 ≠ h2) :
    Calls Try.prog 22 #[.agg #[.int .i64 h1, .int .i64 w1, .slice p1 n1 c1], .agg #[.int .i64 h2, .int .i64 w2, .slice p2 n2 c2]] w (RetG2 5 w 0 0 [] 4) := by
  have hinfo := info_grid
  have hd : ((w1 : Int) != (h2 : Int)) = true := by simp; omega
  have HB : Hid (∀ o1 o2 o3, Below w.heap.size w (((w.alloc o1).alloc o2).alloc o3)) := fun o1 o2 o3 => al (al (al (Below.refl _ _) (Nat.le_refl _)) (by simp)) (by simp; omega)
  have HX : Hid (∀ o1 o2, (((w.alloc o1).alloc o2).alloc (.cells #[.int .i64 0, .int .i64 0, .slice none 0 0] 27)).heap[w.heap.size + 1 + 1]? = some (.cells #[.int .i64 0, .int .i64 0, .slice none 0 0] 27 (0, 0))) := fun o1 o2 => hnew (by simp)
  clear hne
  go_enter Try.func22, Try.ntmps22
  go_wp2
  refine bodyPost_ret (results_cell_tmp rfl _ _ _ 27 #[.int .i64 0, .int .i64 0, .slice none 0 0] (0, 0) _ (.int .i64 4) rfl (HX.out _ _) rfl Try.underlying27 rfl hinfo) rfl (RetG2.zero (HB.out _ _ _))
set_option maxRecDepth 100000 in
set_option maxHeartbeats 4000000 in
theorem GMul_any (h1 h2 w2 : Nat) (p1 p2 : Option Addr) (n1 c1 n2 c2 : Nat) (C1 C2 : List UInt8) (R1 R2 : List (List UInt8)) (w : World) (s1 : Sl B8 w p1 n1 c1 C1) (s2 : Sl B8 w p2 n2 c2 C2) (e1 : n1 = h1 * h2) (e2 : n2 = h2 * w2)
    (r1 : (List.range h1).map (rowF h2 C1) = R1) (r2 : (List.range h2).map (rowF w2 C2) = R2) (b1 : h1 ≤ 4096) (b2 : h2 ≤ 4096) (b3 : w2 ≤ 4096) (bm : h1 * w2 ≤ 65536) :
    Calls Try.prog 22 #[.agg #[.int .i64 h1, .int .i64 h2, .slice p1 n1 c1], .agg #[.int .i64 h2, .int .i64 w2, .slice p2 n2 c2]] w (RetG2 5 w h1 w2 (R1.map (mulR w2 R2)).flatten 0) := by
  have hinfo := info_grid
  have hR2 : ∀ x, x ∈ R2 → x.length = w2 := fun x hx => by
    rw [← r2] at hx
    obtain ⟨i, hi, rfl⟩ := List.mem_map.1 hx
    exact rowF_len2 (by rw [s2.len, e2]) (List.mem_range.1 hi)
  have HR2 := Lib.hid hR2
  have HR1L : Hid (R1.length = h1) := by show _ = _; rw [← r1]; simp
  have HR2L : Hid (R2.length = h2) := by show _ = _; rw [← r2]; simp
  have HR1 : Hid (∀ k, k < h1 → R1[k]? = some (rowF h2 C1 k)) := fun k hk => by rw [← r1, List.getElem?_map, List.getElem?_range hk]; rfl
  have HRL : Hid (∀ k, k < h1 → (rowF h2 C1 k).length = h2) := fun k hk => rowF_len2 (by rw [s1.len, e1]) hk
  have HGR : Hid (∀ W, Sl B8 W p2 n2 c2 C2 → Calls Try.prog 17 #[.agg #[.int .i64 h2, .int .i64 w2, .slice p2 n2 c2]] W fun e w' => ∃ q c', e = .returned (.slice q h2 c') ∧ Own2 25 5 w' W.heap.size (.slice q h2 c') h2 R2 ∧ Below W.heap.size W w') := fun W hs => by
    have := GRows_any h2 w2 p2 n2 c2 C2 W hs e2 (by unfold Room; omega) (by unfold Room; omega)
    rwa [r2] at this
  have HBL := Lib.hid (fun W => blank_any h1 w2 W (show Room (h1 * w2) by unfold Room; omega) (by omega) (by omega))
  have S1 := Lib.hid s1; have S2 := Lib.hid s2; have E1 := Lib.hid e1
  obtain ⟨N, hN⟩ : ∃ N, N = h1 * w2 := ⟨_, rfl⟩
  have wm : IntKind.i64.wrap ((h1 : Int) * (w2 : Int)) = ((N : Nat) : Int) := by rw [hN, ← Int.natCast_mul]; exact Go.IntWalk.i64_in _ (by omega)
  have HNE := Lib.hid hN
  have hN2 : (N : Int) ≤ 65536 := by omega
  have HB0 : Hid (∀ o1 o2 o3, Below w.heap.size w (((w.alloc o1).alloc o2).alloc o3)) := fun o1 o2 o3 => al (al (al (Below.refl _ _) (Nat.le_refl _)) (by simp)) (by simp; omega)
  clear hR2 r1 r2 s1 s2 e1 e2 hN bm
  go_enter Try.func22, Try.ntmps22
  go_wp2_with fail
  refine use_w1 (fun W => Below w.heap.size w W ∧ W.heap[w.heap.size]? = some (.cells #[.int .i64 h1, .int .i64 h2, .slice p1 n1 c1] 27 (0, 0)) ∧ W.heap[w.heap.size + 1]? = some (.cells #[.int .i64 h2, .int .i64 w2, .slice p2 n2 c2] 27 (0, 0)) ∧ W.heap[w.heap.size + 1 + 1]? = some (.cells #[.int .i64 0, .int .i64 0, .slice none 0 0] 27 (0, 0)) ∧ w.heap.size + 3 ≤ W.heap.size) ⟨HB0.out _ _ _, hal (hal (hnew rfl)), hal (hnew (by simp)), hnew (by simp), by simp⟩ ?_
  rintro w0 ⟨b0, x0, y0, z0, s0⟩
  refine Calls.mono (HBL.out _) ?_; rintro e wA ⟨q, nP, cP, hnP, rfl, ho, hb⟩
  obtain rfl : nP = N := hnP.trans HNE.out.symm
  have XA : Hid (wA.heap[w.heap.size]? = some (.cells #[.int .i64 h1, .int .i64 h2, .slice p1 n1 c1] 27 (0, 0))) := (hb.block _ (blk_lt x0)).trans x0
  have YA : Hid (wA.heap[w.heap.size + 1]? = some (.cells #[.int .i64 h2, .int .i64 w2, .slice p2 n2 c2] 27 (0, 0))) := (hb.block _ (blk_lt y0)).trans y0
  have ZA : Hid (wA.heap[w.heap.size + 1 + 1]? = some (.cells #[.int .i64 0, .int .i64 0, .slice none 0 0] 27 (0, 0))) := (hb.block _ (blk_lt z0)).trans z0
  have KA : Hid (Below w.heap.size w wA) := bl b0 hb b0.size
  have OA : Hid (wA.ownsRow (w.heap.size + 3) 5 1 (.slice q nP cP) nP ((mulC w2 h1 R2 R1 0).map B8)) := by
    show World.ownsRow _ _ _ _ _ _ _
    unfold mulC
    rw [List.take_zero, List.map_nil, List.flatten_nil, List.nil_append, Nat.sub_zero]
    exact owns_mono ho s0
  have hsA : Hid (w.heap.size + 3 ≤ wA.heap.size) := Nat.le_trans s0 hb.size
  clear b0 x0 y0 z0 s0 ho hb hnP HB0 HBL
  obtain ⟨f0, f1, f2⟩ := cells3 (hal (o := .cells #[.int .i64 h1, .int .i64 w2, .slice q nP cP] 27) YA.out)
  go_wp2_with fail
  refine use_w1 (fun W => Below wA.heap.size wA W ∧ W.heap[wA.heap.size]? = some (.cells #[.int .i64 h1, .int .i64 w2, .slice q nP cP] 27 (0, 0)) ∧ wA.heap.size + 1 ≤ W.heap.size) ⟨al (Below.refl _ _) (Nat.le_refl _), hnew rfl, by simp⟩ ?_
  rintro wB ⟨bB, xB, sB⟩
  refine Calls.mono (HGR.out _ (S2.out.keep (bl KA.out bB KA.out.size))) ?_; rintro e wC ⟨qR, cR, rfl, hoR, hbR⟩
  have bAC := bl bB hbR bB.size
  have XC : Hid (wC.heap[w.heap.size]? = some (.cells #[.int .i64 h1, .int .i64 h2, .slice p1 n1 c1] 27 (0, 0))) := (bAC.block _ (blk_lt XA.out)).trans XA.out
  have ZC : Hid (wC.heap[w.heap.size + 1 + 1]? = some (.cells #[.int .i64 0, .int .i64 0, .slice none 0 0] 27 (0, 0))) := (bAC.block _ (blk_lt ZA.out)).trans ZA.out
  have PC : Hid (wC.heap[wA.heap.size]? = some (.cells #[.int .i64 h1, .int .i64 w2, .slice q nP cP] 27 (0, 0))) := (hbR.block _ (blk_lt xB)).trans xB
  have KC : Hid (Below w.heap.size w wC) := bl KA.out bAC KA.out.size
  have OC : Hid (wC.ownsRow (w.heap.size + 3) 5 1 (.slice q nP cP) nP ((mulC w2 h1 R2 R1 0).map B8)) := owns_keep OA.out bAC
  have RC : Hid (Own2 25 5 wC wB.heap.size (.slice qR h2 cR) h2 R2) := hoR
  have HGA : Hid (∀ g, (Value.slice q nP cP).ownBlock = some g → g < wA.heap.size) := fun g hg => (OA.out.lt g hg).2
  have HSB := Lib.hid sB
  clear bB xB sB hoR hbR bAC XA YA ZA KA OA f0 f1 f2
  obtain ⟨f0, f1, f2⟩ := cells3 XC.out
  go_wp2
  clear f0 f1 f2
  go_loopw [33] (fun i wr => ∃ k : Nat, k ≤ h1 ∧ i = .int .i64 k ∧ Hid (wr.ownsRow (w.heap.size + 3) 5 1 (.slice q nP cP) nP ((mulC w2 h1 R2 R1 k).map B8)) ∧ Hid (Below w.heap.size w wr) ∧
    Hid (wr.heap[wA.heap.size]? = some (.cells #[.int .i64 h1, .int .i64 w2, .slice q nP cP] 27 (0, 0))) ∧ Hid (wr.heap[w.heap.size]? = some (.cells #[.int .i64 h1, .int .i64 h2, .slice p1 n1 c1] 27 (0, 0))) ∧
    Hid (wr.heap[w.heap.size + 1 + 1]? = some (.cells #[.int .i64 0, .int .i64 0, .slice none 0 0] 27 (0, 0))) ∧ Hid (Own2 25 5 wr wB.heap.size (.slice qR h2 cR) h2 R2)) (fun i _ => h1 - (intOf i).toNat)
  case atStart => exact ⟨0, Nat.zero_le _, rfl, OC.out, KC.out, PC.out, XC.out, ZC.out, RC.out⟩
  case round =>
    clear OC KC PC XC ZC RC
    obtain ⟨k, hk, rfl, hO, hB, hP, hX, hZ, hR⟩ := hrel
    by_cases hlt : k < h1
    · obtain ⟨f0, f1, f2⟩ := cells3 hX.out
      go_wp2_with fail
      refine Calls.mono (row_any h1 h2 k p1 n1 c1 C1 wr (S1.out.keep hB.out) E1.out hlt (by omega)) ?_
      rintro e wa ⟨qa, ca, rfl, hsa, -, hba⟩
      have Ra := hR.out.keep hba
      clear f0 f1 f2
      go_wp2_with fail
      refine Calls.mono (Comb_any qa qR h2 h2 ca cR (rowF h2 C1 k) R2 wa hsa Ra.sl2 (fun xs hx => by rw [HR2.out xs hx]; unfold Room; omega)) ?_
      rw [comb_ok HR2.out (by rw [HRL.out k hlt, HR2L.out])]
      rintro e wb ⟨qs, ms, cs, hms, rfl, hos, hbs⟩
      have hbb := bl hba hbs hba.size
      have O2 : Hid (wb.ownsRow (w.heap.size + 3) 5 1 (.slice q nP cP) nP ((mulC w2 h1 R2 R1 k).map B8)) := owns_keep hO.out hbb
      have B2 : Hid (Below w.heap.size w wb) := bl hB.out hbb hB.out.size
      have P2 : Hid (wb.heap[wA.heap.size]? = some (.cells #[.int .i64 h1, .int .i64 w2, .slice q nP cP] 27 (0, 0))) := (hbb.block _ (blk_lt hP.out)).trans hP.out
      have X2 : Hid (wb.heap[w.heap.size]? = some (.cells #[.int .i64 h1, .int .i64 h2, .slice p1 n1 c1] 27 (0, 0))) := (hbb.block _ (blk_lt hX.out)).trans hX.out
      have Z2 : Hid (wb.heap[w.heap.size + 1 + 1]? = some (.cells #[.int .i64 0, .int .i64 0, .slice none 0 0] 27 (0, 0))) := (hbb.block _ (blk_lt hZ.out)).trans hZ.out
      have R2' : Hid (Own2 25 5 wb wB.heap.size (.slice qR h2 cR) h2 R2) := hR.out.keep hbb
      have SS := Lib.hid (Sl.of_owns hos); have HMS := Lib.hid hms
      clear hO hB hP hX hZ hR Ra hsa hba hbs hbb hos hms
      obtain ⟨f0, f1, f2⟩ := cells3 P2.out
      go_wp2_with fail
      refine Calls.mono (row_any h1 w2 k q nP cP (mulC w2 h1 R2 R1 k) wb (Sl.of_owns O2.out) HNE.out hlt (by omega)) ?_
      rintro e wc ⟨qc, cc, rfl, -, hqc, hbc⟩
      have O3 : Hid (wc.ownsRow (w.heap.size + 3) 5 1 (.slice q nP cP) nP ((mulC w2 h1 R2 R1 k).map B8)) := owns_keep O2.out hbc
      have B3 : Hid (Below w.heap.size w wc) := bl B2.out hbc B2.out.size
      have P3 : Hid (wc.heap[wA.heap.size]? = some (.cells #[.int .i64 h1, .int .i64 w2, .slice q nP cP] 27 (0, 0))) := (hbc.block _ (blk_lt P2.out)).trans P2.out
      have X3 : Hid (wc.heap[w.heap.size]? = some (.cells #[.int .i64 h1, .int .i64 h2, .slice p1 n1 c1] 27 (0, 0))) := (hbc.block _ (blk_lt X2.out)).trans X2.out
      have Z3 : Hid (wc.heap[w.heap.size + 1 + 1]? = some (.cells #[.int .i64 0, .int .i64 0, .slice none 0 0] 27 (0, 0))) := (hbc.block _ (blk_lt Z2.out)).trans Z2.out
      have R3 : Hid (Own2 25 5 wc wB.heap.size (.slice qR h2 cR) h2 R2) := R2'.out.keep hbc
      have SS3 := Lib.hid (SS.out.keep hbc)
      have HQC := Lib.hid hqc
      clear O2 B2 P2 X2 Z2 R2' SS hqc hbc f0 f1 f2
      by_cases hnz : w2 = 0 ∨ R2 = []
      · have hmin : Nat.min ms w2 = 0 := by
          rcases hnz with h0 | h0
          · rw [h0]; exact Nat.min_zero _
          · have := HMS.out; rw [if_pos h0] at this; rw [← this]; exact Nat.zero_min _
        have O4 : Hid (wc.ownsRow (w.heap.size + 3) 5 1 (.slice q nP cP) nP ((mulC w2 h1 R2 R1 (k + 1)).map B8)) := by
          show World.ownsRow _ _ _ _ _ _ _
          rcases hnz with h0 | h0
          · have h3 := O3.out
            subst h0
            rw [mulC_zero h1 k R2 R1 HR2.out HR1L.out (by omega)] at h3
            rw [mulC_zero h1 (k + 1) R2 R1 HR2.out HR1L.out (by omega)]; exact h3
          · rw [← mulC_skip h0 hlt HR1L.out (HR1.out k hlt)]; exact O3.out
        have HMIN := Lib.hid hmin
        clear hmin hnz O3
        go_wp2_with (with_reducible refine wpList_copy_nothing rfl (.tmp 50) (.tmp 51) 25 25 rfl 5 Try.underlying25 (by kernel_rfl) qc qs w2 cc ms cs rfl rfl HMIN.out ?_)
        go_wp2
        go_roundw
        case rel => exact ⟨k + 1, by omega, by go_num, O4.out, B3.out, P3.out, X3.out, Z3.out, R3.out⟩
        case measure => simp [intOf]; omega
      · have hw0 : 0 < w2 := by
          rcases Nat.eq_zero_or_pos w2 with h | h
          · exact absurd (.inl h) hnz
          · exact h
        have hne : R2 ≠ [] := fun h => hnz (.inr h)
        have hms : ms = w2 := by have := HMS.out; rw [if_neg hne, mulR_len HR2.out] at this; exact this.symm
        rw [if_neg hne] at SS3
        subst hms
        have hpos : 0 < nP := by rw [HNE.out]; exact Nat.mul_pos (by omega) hw0
        obtain ⟨g, rfl, hg1, hg2⟩ := owns_at O3.out hpos
        have hqc := HQC.out hw0 g 0 rfl
        rw [Nat.zero_add] at hqc
        subst hqc
        have hgA := HGA.out g rfl
        obtain ⟨bs, os, hqs, hc0⟩ := SS3.out.rs 0 (by rw [SS3.out.len]; exact hw0)
        subst hqs
        clear hc0
        have hlen : ((mulR ms R2 (rowF h2 C1 k)).map B8).length = ms := by rw [List.length_map, mulR_len HR2.out]
        have hfit : k * ms + ((mulR ms R2 (rowF h2 C1 k)).map B8).length ≤ nP := by
          rw [hlen, HNE.out]
          have : (k + 1) * ms ≤ h1 * ms := Nat.mul_le_mul_right _ hlt
          rw [Nat.add_mul, Nat.one_mul] at this; exact this
        obtain ⟨cur, hcur, hcs, hown⟩ := owns_splice (off := k * ms) (cs := (mulR ms R2 (rowF h2 C1 k)).map B8) O3.out hfit
        have hO4 : Hid ((wc.setRow g (cur.toList.take (k * ms) ++ ((mulR ms R2 (rowF h2 C1 k)).map B8 ++ cur.toList.drop (k * ms + ((mulR ms R2 (rowF h2 C1 k)).map B8).length))).toArray).ownsRow (w.heap.size + 3) 5 1 (.slice (some ⟨g, 0, none⟩) nP cP) nP ((mulC ms h1 R2 R1 (k + 1)).map B8)) := by
          show World.ownsRow _ _ _ _ _ _ _
          rw [← mulC_step HR2.out HR1L.out hlt (HR1.out k hlt), List.map_append, List.map_append, List.map_take, List.map_drop]
          rw [hlen] at hown ⊢
          exact hown
        have HCUR := Lib.hid hcur; have HCS := Lib.hid hcs
        have HE1 : Hid (((mulR ms R2 (rowF h2 C1 k)).map B8).length = Nat.min ms ms) := hlen.trans (Nat.min_self ms).symm
        have HE2 : Hid (∀ (j : Nat) (v : Value), ((mulR ms R2 (rowF h2 C1 k)).map B8)[j]? = some v → wc.cell? ((⟨bs, os, none⟩ : Addr).add j) = some v) := fun j v hj => by
          have hjl := (List.getElem?_eq_some_iff.1 hj).1
          rw [List.length_map] at hjl
          obtain ⟨b2, o2, hp2, hc2⟩ := SS3.out.rs j hjl
          cases hp2
          rw [Addr.add_lit, hc2]
          rw [List.getElem?_map, List.getElem?_eq_getElem hjl] at hj
          exact hj
        have HE4 : Hid (∀ v, v ∈ (mulR ms R2 (rowF h2 C1 k)).map B8 → v.oneCell' = true) := by
          intro v hv
          obtain ⟨y, _, rfl⟩ := List.mem_map.1 hv
          rfl
        have hgB : g < wB.heap.size := by have := HSB.out; omega
        have hga : wA.heap.size ≠ g := by omega
        have hgw : w.heap.size ≠ g := by omega
        have hgz : w.heap.size + 1 + 1 ≠ g := by omega
        generalize (mulR ms R2 (rowF h2 C1 k)).map B8 = CS at *
        have P4 : Hid (Below w.heap.size w (wc.setRow g (cur.toList.take (k * ms) ++ (CS ++ cur.toList.drop (k * ms + CS.length))).toArray) ∧
            (wc.setRow g (cur.toList.take (k * ms) ++ (CS ++ cur.toList.drop (k * ms + CS.length))).toArray).heap[wA.heap.size]? = some (.cells #[.int .i64 h1, .int .i64 ms, .slice (some ⟨g, 0, none⟩) nP cP] 27 (0, 0)) ∧
            (wc.setRow g (cur.toList.take (k * ms) ++ (CS ++ cur.toList.drop (k * ms + CS.length))).toArray).heap[w.heap.size]? = some (.cells #[.int .i64 h1, .int .i64 h2, .slice p1 n1 c1] 27 (0, 0)) ∧
            (wc.setRow g (cur.toList.take (k * ms) ++ (CS ++ cur.toList.drop (k * ms + CS.length))).toArray).heap[w.heap.size + 1 + 1]? = some (.cells #[.int .i64 0, .int .i64 0, .slice none 0 0] 27 (0, 0)) ∧
            Own2 25 5 (wc.setRow g (cur.toList.take (k * ms) ++ (CS ++ cur.toList.drop (k * ms + CS.length))).toArray) wB.heap.size (.slice qR h2 cR) h2 R2) :=
          ⟨B3.out.grown (grownBy_setRow _ _ _) B3.out.size (fun kk hk => by injection hk with hk; omega), hro P3.out hga, hro X3.out hgw, hro Z3.out hgz, own2_setRow R3.out hgB⟩
        clear O3 B3 P3 X3 Z3 R3 SS3 HMS HQC hnz hne hlen hfit hown hcur hcs hpos
        go_wp2_with (with_reducible refine wpList_copy_own rfl (.tmp 50) (.tmp 51) 25 25 rfl 5 Try.underlying25 (by kernel_rfl) g (k * ms) ms cc ⟨bs, os, none⟩ ms cs rfl rfl cur 5 HCUR.out CS HE1.out HE2.out HCS.out HE4.out ?_)
        clear HCUR HCS HE1 HE2 HE4
        generalize wc.setRow g (cur.toList.take (k * ms) ++ (CS ++ cur.toList.drop (k * ms + CS.length))).toArray = wd at hO4 P4 ⊢
        go_wp2
        go_roundw
        case rel => exact ⟨k + 1, by omega, by go_num, hO4.out, P4.out.1, P4.out.2.1, P4.out.2.2.1, P4.out.2.2.2.1, P4.out.2.2.2.2⟩
        case measure => simp [intOf]; omega
    · have hkh : k = h1 := by omega
      obtain ⟨y0, y1, y2⟩ := cells3 hP.out
      obtain ⟨f0, f1, f2⟩ := cells3 hZ.out
      have z0 := frozen_of_row _ _ 0 _ _ hZ.out
      have z1 := frozen_of_row _ _ 1 _ _ hZ.out
      have z2 := frozen_of_row _ _ 2 _ _ hZ.out
      have hge : (h1 : Int) ≤ (k : Int) := by omega
      have OF : Hid (wr.ownsRow (w.heap.size + 3) 5 1 (.slice q nP cP) nP ((R1.map (mulR w2 R2)).flatten.map B8)) := by
        have := hO.out
        unfold mulC at this
        rw [hkh, Nat.sub_self, Nat.zero_mul, List.replicate_zero, List.append_nil, List.take_of_length_le (by rw [HR1L.out]; exact Nat.le_refl _)] at this
        exact this
      clear hkh hO hR hX
      go_wp2
      refine bodyPost_ret (results_cell_tmp rfl _ _ _ 27 #[.int .i64 h1, .int .i64 w2, .slice q nP cP] (0, 0) _ (.int .i64 0) rfl (hss (hss (hss hZ.out))) rfl Try.underlying27 rfl hinfo) rfl ⟨q, nP, cP, HNE.out, rfl, ?_, ((hB.out.setCell (by simp; omega) _).setCell (by simp; omega) _).setCell (by simp; omega) _⟩
      exact owns_mono (owns_set (owns_set (owns_set OF.out (by simp)) (by simp)) (by simp)) (by simp)
end Go.Proofs.Ytofhdakggapahaa
namespace Go.By
open Go.RowKit
def InvV (ops : Array Oper) (val : Nat → Value) (i : Nat) (σ : Nat → Value) : Prop := match dstOf ops i with
  | some d => σ d = val i
  | none => True
/-- of an operation: what it gives, ahead of the store and behind it -/
def StepV (P : Program) (ops : Array Oper) (a0 : Act) (W0 W1 : World) (os : Oper) (s : Nat) (val : Nat → Value) (i : Nat) (o : Oper) : Prop :=
  ∀ (a : Act), a.tmps.size = a0.tmps.size → (∀ k, k ∈ preds o → InvV ops val k (sl a)) → (∀ t, initAt ops i t = true → sl a t = sl a0 t) →
    ((preds o).contains s = false → (execOp a.eval o).run P W0 = .ok (.value (val i)) W0) ∧ ((preds os).contains i = false → (execOp a.eval o).run P W1 = .ok (.value (val i)) W1)
def EachV (P : Program) (ops : Array Oper) (a0 : Act) (W0 W1 : World) (os : Oper) (s : Nat) (val : Nat → Value) : List Oper → Nat → Prop
  | [], _ => True
  | o :: rest, i => (i = s ∨ StepV P ops a0 W0 W1 os s val i o) ∧ EachV P ops a0 W0 W1 os s val rest (i + 1)
theorem EachV.get {P : Program} {ops : Array Oper} {a0 : Act} {W0 W1 : World} {os : Oper} {s : Nat} {val : Nat → Value} : ∀ (l : List Oper) (k : Nat), EachV P ops a0 W0 W1 os s val l k → ∀ j o, l[j]? = some o → k + j = s ∨ StepV P ops a0 W0 W1 os s val (k + j) o := by
  intro l
  induction l with
  | nil => intro k _ j o h; simp at h
  | cons x l ih =>
    intro k h j o hj
    cases j with
    | zero => simp at hj; subst hj; exact h.1
    | succ j =>
      have := ih (k + 1) h.2 j o (by simpa using hj)
      rwa [show k + 1 + j = k + (j + 1) by omega] at this
/-- m: the last operation, which waits for all others; s: the other store -/
def twoB (ops : Array Oper) (n m s : Nat) : Bool := decide (ops.size = m + 1) && decide (s < m) && (match ops[m]? with
  | some o => o.guard.isNone && o.dst.isNone && (List.range m).all fun i => (preds o).contains i
  | none => false) && (List.range m).all fun i => match ops[i]? with
  | some o => o.guard.isNone && match o.dst with
    | some d => decide (d < n) && i != s
    | none => i == s
  | none => false
theorem getD_tf {listed : Array Bool} {i : Nat} (h : listed.getD i true = false) : listed.getD i false ≠ true ∧ i < listed.size := by
  rcases Nat.lt_or_ge i listed.size with h' | h'
  · refine ⟨fun hx => ?_, h'⟩
    simp [Array.getD_eq_getD_getElem?, h'] at h hx; rw [h] at hx; cases hx
  · simp [Array.getD_eq_getD_getElem?, Array.getElem?_eq_none h'] at h
theorem getD_ft {listed : Array Bool} {j : Nat} (h : listed.getD j false = true) : listed.getD j true = true := by
  rcases Nat.lt_or_ge j listed.size with h' | h'
  · simp [Array.getD_eq_getD_getElem?, h'] at h ⊢; exact h
  · simp [Array.getD_eq_getD_getElem?, Array.getElem?_eq_none h'] at h
theorem wp_region_two {P : Program} {ops : Array Oper} {Q : Exit → Act → World → Prop} {id : Nat} {a0 : Act} {w0 : World} (val : Nat → Value) (n m s : Nat) (W1 : World) (hn : a0.tmps.size = n) (hm : P.follows .mixedOrders = true) (hback : backB ops = true) (hdist : distB ops = true)
    (htwo : twoB ops n m s = true) (os : Oper) (hos : ops[s]? = some os)
    (each : EachV P ops a0 w0.drew W1 os s val (ops.toList.take m) 0)
    (st : ∀ a, a.tmps.size = a0.tmps.size → (∀ k, k ∈ preds os → InvV ops val k (sl a)) → (execOp a.eval os).run P w0.drew = .ok .skip W1)
    (fin : ∀ a o, ops[m]? = some o → a.tmps.size = a0.tmps.size → a.defers = a0.defers → (∀ j, j < m → InvV ops val j (sl a)) → (∀ t, (ops.toList.all fun o => o.dst != some t) = true → sl a t = sl a0 t) → o.wp P a W1 (fun a' w' => Q .normal a' w') Q) :
    (Code.region id ops true).wp P Q a0 w0 := by
  unfold twoB at htwo
  rw [Bool.and_eq_true, Bool.and_eq_true, Bool.and_eq_true] at htwo
  have hsz : ops.size = m + 1 := of_decide_eq_true htwo.1.1.1
  have hsm : s < m := of_decide_eq_true htwo.1.1.2
  have hm' : m < ops.size := by omega
  obtain ⟨ol, hol⟩ : ∃ ol, ops[m]? = some ol := ⟨_, Array.getElem?_eq_getElem hm'⟩
  have hl2 := htwo.1.2
  rw [hol] at hl2
  simp only [Bool.and_eq_true] at hl2
  have hguard : ol.guard = none := by cases hg : ol.guard <;> simp [hg] at hl2 ⊢
  have hpl : ∀ i, i < m → i ∈ preds ol := fun i hi => by
    have := List.all_eq_true.1 hl2.2 i (List.mem_range.2 hi)
    simpa using this
  have hall2 := htwo.2
  have hops : ∀ i o, i < m → ops[i]? = some o → o.guard = none ∧ ((i = s ∧ o.dst = none) ∨ (i ≠ s ∧ ∃ d, o.dst = some d ∧ d < n)) := fun i o hi ho => by
    have := List.all_eq_true.1 hall2 i (List.mem_range.2 hi)
    rw [ho] at this
    simp only [Bool.and_eq_true] at this
    refine ⟨by cases hg : o.guard <;> simp [hg] at this ⊢, ?_⟩
    cases hd : o.dst with
    | none => have h2 := this.2; rw [hd] at h2; exact .inl ⟨by simpa using h2, rfl⟩
    | some d => have h2 := this.2; rw [hd] at h2; simp at h2; exact .inr ⟨h2.2, d, rfl, h2.1⟩
  have hgs := (hops s os hsm hos).1
  have hds : os.dst = none := by
    rcases (hops s os hsm hos).2 with h | h
    · exact h.2
    · exact absurd rfl h.1
  have stepAt : ∀ i o, i < m → i ≠ s → ops[i]? = some o → StepV P ops a0 w0.drew W1 os s val i o := fun i o hi hne ho => by
    have := EachV.get _ 0 each i o (by rw [List.getElem?_take, if_pos hi]; simpa using ho)
    rw [Nat.zero_add] at this
    exact this.resolve_left hne
  have stable : ∀ i j oi oj (σ σ' : Nat → Value), i ≠ j → ops[i]? = some oi → ops[j]? = some oj → InvV ops val j σ → (∀ t, oi.dst ≠ some t → σ' t = σ t) → InvV ops val j σ' := by
    intro i j oi oj σ σ' hij hoi hoj hI hσ
    unfold InvV at hI ⊢
    cases hdj : dstOf ops j with
    | none => trivial
    | some d =>
      rw [hdj] at hI
      show σ' d = val j
      have hne : oi.dst ≠ some d := by
        intro e
        have hi' : i < ops.size := (Array.getElem?_eq_some_iff.1 hoi).1
        have hj' : j < ops.size := (Array.getElem?_eq_some_iff.1 hoj).1
        have := List.all_eq_true.1 (List.all_eq_true.1 hdist i (List.mem_range.2 hi')) j (List.mem_range.2 hj')
        rw [hoi, hoj] at this
        have hdj' : oj.dst = some d := by simpa [dstOf, hoj] using hdj
        simp [e, hdj', hij] at this
      rw [hσ d hne]; exact hI
  refine wp_region_any hm ?_
  show wpAny P .any ops Q ops.size (Array.replicate ops.size false) a0 w0.drew
  have main : ∀ (fuel : Nat) (listed : Array Bool) (a : Act) (w : World), unl ops.size listed ≤ fuel → listed.getD m true = false → (w = if listed.getD s false = true then W1 else w0.drew) → a.tmps.size = a0.tmps.size → a.defers = a0.defers →
      (∀ j o, listed.getD j false = true → ops[j]? = some o → ∀ k, k ∈ preds o → listed.getD k false = true) →
      (∀ j, j < ops.size → listed.getD j true = true → listed.getD j false = true) →
      (∀ j, j < m → listed.getD j false = true → InvV ops val j (sl a)) →
      (∀ t, (∀ j o, j < m → listed.getD j false = true → ops[j]? = some o → o.dst ≠ some t) → sl a t = sl a0 t) → wpAny P .any ops Q fuel listed a w := by
    intro fuel
    induction fuel with
    | zero =>
      intro listed a w hu hlm
      exfalso
      have h0 : unl ops.size listed = 0 := by omega
      unfold unl at h0
      have := List.countP_eq_zero.1 h0 m (List.mem_range.2 hm')
      simp [hlm] at this
    | succ fuel ih =>
      intro listed a w hu hlm hw hs hd hcl hlt hI ht
      refine ⟨fun hr => ?_, fun i hi => ?_⟩
      · exfalso
        have hall : ∀ k j, j < k → j < ops.size → listed.getD j false = true := by
          intro k
          induction k with
          | zero => intro j hj; omega
          | succ k ihk =>
            intro j hj hjs
            refine hlt j hjs ?_
            cases hb : listed.getD j true with
            | true => rfl
            | false =>
              exfalso
              have ho : ops[j]? = some ops[j] := Array.getElem?_eq_getElem hjs
              have : j ∈ Region.ready .any ops listed := mem_ready.2 ⟨hjs, hb, _, ho, fun q hq => by
                have hbk := List.all_eq_true.1 hback j (List.mem_range.2 hjs)
                rw [ho] at hbk
                have hkj := of_decide_eq_true (List.all_eq_true.1 hbk q hq)
                exact ihk q (by omega) (by omega)⟩
              rw [hr] at this; cases this
        exact (getD_tf hlm).1 (hall (m + 1) m (by omega) hm')
      · obtain ⟨h1, h2, o, ho, h3⟩ := mem_ready.1 hi
        obtain ⟨hnl, his⟩ := getD_tf h2
        have gset : ∀ j (d : Bool), (listed.setIfInBounds i true).getD j d = if i = j then true else listed.getD j d := by
          intro j d
          simp only [Array.getD_eq_getD_getElem?, Array.getElem?_setIfInBounds]
          by_cases e : i = j
          · subst e; simp [his]
          · simp [e]
        by_cases him : i = m
        · subst him
          rw [hol] at ho; cases ho
          have hsl : listed.getD s false = true := h3 s (hpl s hsm)
          rw [if_pos hsl] at hw; subst hw
          have hf := fin a ol hol hs hd (fun j hj => hI j hj (h3 j (hpl j hj))) (fun t htt => ht t (fun j oj hj _ hoj => by
            have := List.all_eq_true.1 htt oj (by rw [Array.mem_toList_iff]; exact Array.mem_of_getElem? hoj)
            simpa using this))
          unfold wpOp
          rw [hol]
          show if Region.wanted ol (yielded ops a.tmps) = true then _ else _
          rw [if_pos (by simp [Region.wanted, hguard])]
          refine .inl (Oper.wp_mono (fun a' w' hq => wpAny_done _ (fun j hj => ?_) hq) hf)
          rw [gset]
          by_cases e2 : i = j
          · rw [if_pos e2]
          · rw [if_neg e2]; exact getD_ft (h3 j (hpl j (by omega)))
        · have him' : i < m := by omega
          have hpk : ∀ k, k ∈ preds o → InvV ops val k (sl a) := fun k hk => hI k (by
              have hbk := List.all_eq_true.1 hback i (List.mem_range.2 h1)
              rw [ho] at hbk
              have := of_decide_eq_true (List.all_eq_true.1 hbk k hk); omega) (h3 k hk)
          have next : ∀ (v : Value) (w' : World), (w' = if (listed.setIfInBounds i true).getD s false = true then W1 else w0.drew) → InvV ops val i (sl (a.put o.dst v)) → wpAny P .any ops Q fuel (listed.setIfInBounds i true) (a.put o.dst v) w' := by
            intro v w' hw' hIi
            refine ih _ _ _ (by have := unl_set (n := ops.size) h1 h2; omega) (by rw [gset, if_neg him]; exact hlm) hw' ((put_size _ _ _).trans hs) ((put_defers _ _ _).trans hd) ?_ ?_ ?_ ?_
            · intro j oj hj hoj k hk
              rw [gset] at hj ⊢
              by_cases e : i = k
              · rw [if_pos e]
              · rw [if_neg e]
                by_cases e' : i = j
                · subst e'; rw [ho] at hoj; cases hoj; exact h3 k hk
                · rw [if_neg e'] at hj; exact hcl j oj hj hoj k hk
            · intro j hj hl
              rw [gset] at hl ⊢
              by_cases e : i = j
              · rw [if_pos e]
              · rw [if_neg e] at hl ⊢; exact hlt j hj hl
            · intro j hj hl
              rw [gset] at hl
              by_cases e : i = j
              · subst e; exact hIi
              · rw [if_neg e] at hl
                have hoj : ops[j]? = some ops[j] := Array.getElem?_eq_getElem (by omega)
                exact stable i j o _ (sl a) _ e ho hoj (hI j hj hl) (fun t h => put_sl _ _ _ _ h)
            · intro t htt
              have hdt : o.dst ≠ some t := htt i o him' (by rw [gset, if_pos rfl]) ho
              rw [put_sl _ _ _ _ hdt]
              exact ht t (fun j oj hj hl hoj => htt j oj hj (by rw [gset]; split <;> simp [hl]) hoj)
          unfold wpOp
          rw [ho]
          show if Region.wanted o (yielded ops a.tmps) = true then _ else _
          rw [if_pos (by simp [Region.wanted, (hops i o him' ho).1])]
          left
          by_cases his2 : i = s
          · subst his2
            rw [hos] at ho; cases ho
            rw [if_neg hnl] at hw; subst hw
            have nx := next undef W1 (by rw [gset, if_pos rfl, if_pos rfl]) (by unfold InvV dstOf; rw [hos]; simp [hds])
            exact wp_skipX (st a hs hpk) nx
          · obtain ⟨g1, g2⟩ := stepAt i o him' his2 ho a hs hpk (fun t hti => by
              refine ht t (fun j oj hj hlj hoj hdj => ?_)
              have := List.all_eq_true.1 hti j (List.mem_range.2 (by omega))
              rw [hoj] at this
              by_cases e : j = i
              · subst e; exact hnl hlj
              · simp [e, hdj] at this
                exact hnl (hcl j oj hlj hoj i this))
            obtain ⟨d, hdd, hdn⟩ : ∃ d, o.dst = some d ∧ d < n := by
              rcases (hops i o him' ho).2 with h | h
              · exact absurd h.1 his2
              · exact h.2
            have hIi : InvV ops val i (sl (a.put o.dst (val i))) := by
              unfold InvV dstOf
              rw [ho]
              simp only [Option.bind_some, hdd]
              exact put_same _ _ _ (by rw [hs, hn]; exact hdn)
            have hw2 : w = if (listed.setIfInBounds i true).getD s false = true then W1 else w0.drew := by
              rw [gset, if_neg his2]; exact hw
            cases hsl : listed.getD s false with
            | true =>
              rw [hsl, if_pos rfl] at hw
              have hns : (preds os).contains i = false := by
                cases hc : (preds os).contains i with
                | false => rfl
                | true => exact absurd (hcl s os hsl hos i (by simpa using hc)) hnl
              refine wp_val (val i) ?_ (next _ _ hw2 hIi)
              rw [hw]; exact g2 hns
            | false =>
              rw [hsl, if_neg (by simp)] at hw
              have hns : (preds o).contains s = false := by
                cases hc : (preds o).contains s with
                | false => rfl
                | true => have := h3 s (by simpa using hc); rw [hsl] at this; cases this
              refine wp_val (val i) ?_ (next _ _ hw2 hIi)
              rw [hw]; exact g1 hns
  refine main ops.size _ a0 w0.drew ?_ ?_ ?_ rfl rfl ?_ ?_ ?_ ?_
  · unfold unl; exact Nat.le_trans List.countP_le_length (by simp)
  · simp [Array.getD_eq_getD_getElem?, Array.getElem?_replicate, hm']
  · simp [Array.getD_eq_getD_getElem?, Array.getElem?_replicate, show s < ops.size by omega]
  · intro j o hj; simp [Array.getD_eq_getD_getElem?, Array.getElem?_replicate] at hj
    split at hj <;> simp at hj
  · intro j hj hl; simp [Array.getD_eq_getD_getElem?, Array.getElem?_replicate, hj] at hl
  · intro j hj hl; simp [Array.getD_eq_getD_getElem?, Array.getElem?_replicate, show j < ops.size by omega] at hl
  · intro t _; rfl
theorem run_mv {P : Program} {a : Act} {o : Oper} {t : Nat} {u : Value} {W : World} (hop : o.op = .move (.tmp t)) (h : sl a t = u) : (execOp a.eval o).run P W = .ok (.value u) W := by
  subst h; unfold execOp; rw [hop]; rfl
theorem drew_below (w : World) : Below w.heap.size w w.drew := ⟨rfl, rfl, rfl, Nat.le_refl _, fun _ _ => rfl⟩
end Go.By
namespace Go.Proofs.Ytofhdakggapahaa
open Go.RowKit Go.By
/-- a system: its block, what is in it, its rows, in memory from a base on -/
structure Elm (w : World) (base be k t : Nat) (v : Value) (n : Nat) (K : List Rw) : Prop where
  box : w.heap[be]? = some (.cells #[.int .i64 k, .int .i64 t, v] 104 (0, 0))
  rows : RwL 61 5 w base v n K
  old : base ≤ be
theorem Elm.keep {w w' : World} {base be k t n : Nat} {v : Value} {K : List Rw} (h : Elm w base be k t v n K) (hb : Below w.heap.size w w') : Elm w' base be k t v n K :=
  ⟨(hb.block _ (blk_lt h.box)).trans h.box, h.rows.keep hb, h.old⟩
theorem New_bad (k t : Int) (w : World) (h : k < 1 ∨ 4096 < k ∨ t < 0 ∨ 65535 < t) : Calls Try.prog 30 #[.int .i64 k, .int .i64 t] w fun e w' => e = .returned (.tuple #[.pointer none, .int .i64 2]) ∧ w = w' := by
  by_cases h1 : k < 1
  · go_enter Try.func30, Try.ntmps30
    go_wp2
    go_ret2
    exact ⟨rfl, rfl⟩
  by_cases h2 : 4096 < k
  · go_enter Try.func30, Try.ntmps30
    go_wp2
    go_ret2
    exact ⟨rfl, rfl⟩
  by_cases h3 : t < 0
  · go_enter Try.func30, Try.ntmps30
    go_wp2
    go_ret2
    exact ⟨rfl, rfl⟩
  have h4 : 65535 < t := by omega
  go_enter Try.func30, Try.ntmps30
  go_wp2
  go_ret2
  exact ⟨rfl, rfl⟩
theorem New_good (k t : Nat) (w : World) (h1 : 1 ≤ k) (h2 : k ≤ 4096) (h3 : t ≤ 65535) : Calls Try.prog 30 #[.int .i64 k, .int .i64 t] w fun e w' => ∃ be, e = .returned (.tuple #[.pointer (some ⟨be, 0, none⟩), .int .i64 0]) ∧ Elm w' w.heap.size be k t (.slice none 0 0) 0 [] ∧ Below w.heap.size w w' := by
  have a1 : ¬ ((k : Int) < 1) := by omega
  have a2 : ¬ (4096 < (k : Int)) := by omega
  have a3 : ¬ ((t : Int) < 0) := by omega
  have a4 : ¬ (65535 < (t : Int)) := by omega
  clear h1 h2 h3
  go_enter Try.func30, Try.ntmps30
  go_wp2
  go_ret2
  exact ⟨w.heap.size, rfl, ⟨hnew rfl, RwL.nil _ _ _ _, Nat.le_refl _⟩, al (Below.refl _ _) (Nat.le_refl _)⟩
theorem Size_any (base be k t n : Nat) (v : Value) (K : List Rw) (w : World) (h : Elm w base be k t v n K) : Calls Try.prog 31 #[.pointer (some ⟨be, 0, none⟩)] w fun e w' => e = .returned (.tuple #[.int .i64 k, .int .i64 t]) ∧ Below w.heap.size w w' := by
  obtain ⟨f0, f1, f2⟩ := cells3 h.box
  clear h
  go_enter Try.func31, Try.ntmps31
  go_wp2
  go_region
  all_goals
    go_wp2
    go_ret2
    exact ⟨rfl, drew_below w⟩
theorem Rank_any' (base be k t n : Nat) (v : Value) (K : List Rw) (w : World) (h : Elm w base be k t v n K) : Calls Try.prog 44 #[.pointer (some ⟨be, 0, none⟩)] w fun e w' => e = .returned (.int .i64 n) ∧ w = w' := by
  obtain ⟨f0, f1, f2⟩ := cells3 h.box
  obtain ⟨q, c, rfl⟩ := h.rows.shape
  clear h
  go_enter Try.func44, Try.ntmps44
  go_wp2
  go_ret
  exact ⟨rfl, rfl⟩
end Go.Proofs.Ytofhdakggapahaa
