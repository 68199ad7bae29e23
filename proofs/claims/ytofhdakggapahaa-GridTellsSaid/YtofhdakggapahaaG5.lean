/- The contracts of grid.Unit and Rows. -/
import Derived.Test.YtofhdakggapahaaG3
namespace Go.By
theorem list_set_succ {α : Type} (vs : List α) (n : Nat) (z u : α) : (vs ++ List.replicate (n + 1) z).set vs.length u = (vs ++ [u]) ++ List.replicate n z := by
  rw [List.set_append_right _ _ (Nat.le_refl _), Nat.sub_self, List.replicate_succ, List.set_cons_zero, List.append_assoc]; rfl
end Go.By
namespace Go.Proofs.Ytofhdakggapahaa
open Go.RowKit Go.By
/-- the cells of a unit behind so many rounds -/
def unitC (n : Nat) : Nat → List UInt8
  | 0 => List.replicate (n * n) 0
  | k + 1 => (unitC n k).set (k * n + k) 1
theorem unitC_len (n : Nat) : ∀ k, (unitC n k).length = n * n
  | 0 => by simp [unitC]
  | k + 1 => by simp [unitC, unitC_len n k]
theorem info_rows : (Try.prog.info? 25).map (fun i => (i.zero, i.size, i.bytes)) = some (some (.slice none 0 0), 1, 24) := by kernel_rfl
set_option maxRecDepth 100000 in
set_option maxHeartbeats 1000000 in
theorem Unit_bad (n : Int) (w : World) (h : n < 0 ∨ 256 < n) : Calls Try.prog 12 #[.int .i64 n] w (RetG2 5 w 0 0 [] 2) := by
  have hinfo := info_grid
  have HB : Hid (∀ o1, Below w.heap.size w (w.alloc o1)) := fun o1 => al (Below.refl _ _) (Nat.le_refl _)
  have HX : Hid ((w.alloc (.cells #[.int .i64 0, .int .i64 0, .slice none 0 0] 27)).heap[w.heap.size]? = some (.cells #[.int .i64 0, .int .i64 0, .slice none 0 0] 27 (0, 0))) := hnew rfl
  rcases h with h | h
  · go_enter Try.func12, Try.ntmps12
    go_wp2
    refine bodyPost_ret (results_cell_tmp rfl _ _ _ 27 #[.int .i64 0, .int .i64 0, .slice none 0 0] (0, 0) _ (.int .i64 2) rfl HX.out rfl Try.underlying27 rfl hinfo) rfl (RetG2.zero (HB.out _))
  · have h0 : 0 ≤ n := by omega
    go_enter Try.func12, Try.ntmps12
    go_wp2
    refine bodyPost_ret (results_cell_tmp rfl _ _ _ 27 #[.int .i64 0, .int .i64 0, .slice none 0 0] (0, 0) _ (.int .i64 2) rfl HX.out rfl Try.underlying27 rfl hinfo) rfl (RetG2.zero (HB.out _))
set_option maxRecDepth 100000 in
set_option maxHeartbeats 2000000 in
theorem Unit_good (n : Nat) (w : World) (hn : n ≤ 256) : Calls Try.prog 12 #[.int .i64 n] w (RetG2 5 w n n (unitC n n) 0) := by
  have hinfo := info_grid
  have hnn : n * n ≤ 256 * 256 := Nat.mul_le_mul hn hn
  have HBL := Lib.hid (fun W => blank_any n n W (show Room (n * n) by unfold Room; omega) (by omega) (by omega))
  obtain ⟨N, hN⟩ : ∃ N, N = n * n := ⟨_, rfl⟩
  have HNE := Lib.hid hN
  have HL : Hid (∀ k, (unitC n k).length = N) := fun k => by rw [hN]; exact unitC_len n k
  rw [← hN] at hnn
  clear hN
  go_enter Try.func12, Try.ntmps12
  go_wp2_with fail
  refine Calls.mono (HBL.out _) ?_; rintro e w1 ⟨q, n1, c, hn1, rfl, ho, hb⟩
  obtain rfl : n1 = N := hn1.trans HNE.out.symm
  have E0 : Hid (w1.heap[w.heap.size]? = some (.cells #[.int .i64 0, .int .i64 0, .slice none 0 0] 27 (0, 0))) := (hb.block _ (by simp)).trans (hnew rfl)
  have K1 : Hid (Below w.heap.size w w1) := bl (al (Below.refl _ _) (Nat.le_refl _)) hb (by simp)
  have hs1 := hb.size
  have HS1 : Hid (w.heap.size + 1 ≤ w1.heap.size) := by show _ ≤ _; simp at hs1; omega
  have HO : Hid (w1.ownsRow (w.heap.size + 1) 5 1 (.slice q n1 c) n1 ((unitC n 0).map B8)) := by
    show World.ownsRow _ _ _ _ _ _ _
    unfold unitC
    have ho2 := owns_mono ho (show w.heap.size + 1 ≤ _ by simp)
    exact ho2
  clear ho hb hs1 hn1
  go_wp2
  go_loopw [17] (fun i wr => ∃ k : Nat, k ≤ n ∧ i = .int .i64 k ∧ Hid (wr.ownsRow (w.heap.size + 1) 5 1 (.slice q n1 c) n1 ((unitC n k).map B8)) ∧ Hid (Below w.heap.size w wr) ∧
    Hid (wr.heap[w1.heap.size]? = some (.cells #[.int .i64 n, .int .i64 n, .slice q n1 c] 27 (0, 0))) ∧ Hid (wr.heap[w.heap.size]? = some (.cells #[.int .i64 0, .int .i64 0, .slice none 0 0] 27 (0, 0)))) (fun i _ => n - (intOf i).toNat)
  case atStart => exact ⟨0, Nat.zero_le _, rfl, owns_keep HO.out (al (Below.refl _ _) (Nat.le_refl _)), al K1.out K1.out.size, hnew rfl, hal E0.out⟩
  case round =>
    obtain ⟨k, hk, rfl, hO, hB, hX, hZ⟩ := hrel
    by_cases hlt : k < n
    · obtain ⟨x0, x1, x2⟩ := cells3 hX.out
      have hpos : 0 < n1 := by rw [HNE.out]; exact Nat.mul_pos (by omega) (by omega)
      obtain ⟨g, rfl, hg1, hg2⟩ := owns_at hO.out hpos
      have hidx : k * n + k < n1 := by
        have h1 : (k + 1) * n ≤ n * n := Nat.mul_le_mul_right _ hlt
        rw [Nat.add_mul, Nat.one_mul, ← HNE.out] at h1; omega
      have hg : w1.heap.size ≠ g := fun e => by
        subst e
        rcases hO.out.2 with ⟨h', _⟩ | ⟨g', cap, cur, hv, _, hh, _⟩
        · cases h'
        · cases hv
          rw [hX.out] at hh; cases hh
      have hz : w.heap.size ≠ g := by omega
      go_wp2_with fail
      refine Calls.mono (row_any n n k _ n1 c (unitC n k) wr (Sl.of_owns hO.out) HNE.out hlt (by omega)) ?_
      rintro e w2 ⟨q', c', rfl, hs', hq', hb'⟩
      have hq2 := hq' (by omega) g 0 rfl
      rw [Nat.zero_add] at hq2
      subst hq2
      have hO2 : Hid (w2.ownsRow (w.heap.size + 1) 5 1 (.slice (some ⟨g, 0, none⟩) n1 c) n1 ((unitC n k).map B8)) := owns_keep hO.out hb'
      have hB2 : Hid (Below w.heap.size w w2) := bl hB.out hb' hB.out.size
      have hX2 : Hid (w2.heap[w1.heap.size]? = some (.cells #[.int .i64 n, .int .i64 n, .slice (some ⟨g, 0, none⟩) n1 c] 27 (0, 0))) := (hb'.block _ (blk_lt hX.out)).trans hX.out
      have hZ2 : Hid (w2.heap[w.heap.size]? = some (.cells #[.int .i64 0, .int .i64 0, .slice none 0 0] 27 (0, 0))) := (hb'.block _ (blk_lt hZ.out)).trans hZ.out
      obtain ⟨y, hy⟩ : ∃ y, (unitC n k)[k * n + k]? = some y := ⟨_, List.getElem?_eq_getElem (by rw [HL.out]; exact hidx)⟩
      have cx : w2.cell? ⟨g, k * n + k, none⟩ = some (B8 y) := by rw [hO2.out.cellAt _ (by omega), List.getElem?_map, hy]; rfl
      have zx : w2.frozen? ⟨g, k * n + k, none⟩ = false := hO2.out.frozenAt _
      have kn : (k : Int) < (n : Int) := by omega
      clear hO hB hX hZ hs' hq' hb' x0 x1 x2 hy hidx
      have P2 : Hid ((w2.setCell ⟨g, k * n + k, none⟩ (.int .u8 1)).ownsRow (w.heap.size + 1) 5 1 (.slice (some ⟨g, 0, none⟩) n1 c) n1 ((unitC n (k + 1)).map B8) ∧ Below w.heap.size w (w2.setCell ⟨g, k * n + k, none⟩ (.int .u8 1)) ∧
          (w2.setCell ⟨g, k * n + k, none⟩ (.int .u8 1)).heap[w1.heap.size]? = some (.cells #[.int .i64 n, .int .i64 n, .slice (some ⟨g, 0, none⟩) n1 c] 27 (0, 0)) ∧
          (w2.setCell ⟨g, k * n + k, none⟩ (.int .u8 1)).heap[w.heap.size]? = some (.cells #[.int .i64 0, .int .i64 0, .slice none 0 0] 27 (0, 0))) := by
        refine ⟨?_, hB2.out.setCell (by show w.heap.size ≤ g; omega) _, hsc hX2.out hg, hsc hZ2.out hz⟩
        have e : unitC n (k + 1) = (unitC n k).set (k * n + k) 1 := rfl
        rw [e, List.map_set]
        exact (hO2.out.stored (k * n + k) (B8 1)).1
      clear hO2 hB2 hX2 hZ2
      go_wp2
      go_roundw
      case rel => exact ⟨k + 1, by omega, by go_num, P2.out.1, P2.out.2.1, P2.out.2.2.1, P2.out.2.2.2⟩
      case measure => simp [intOf]; omega
    · have hkn : k = n := by omega
      obtain ⟨x0, x1, x2⟩ := cells3 hX.out
      obtain ⟨f0, f1, f2⟩ := cells3 hZ.out
      have z0 := frozen_of_row _ _ 0 _ _ hZ.out
      have z1 := frozen_of_row _ _ 1 _ _ hZ.out
      have z2 := frozen_of_row _ _ 2 _ _ hZ.out
      have hge : (n : Int) ≤ (k : Int) := by omega
      have HKN := Lib.hid hkn
      clear hkn
      go_wp2
      refine bodyPost_ret (results_cell_tmp rfl _ _ _ 27 #[.int .i64 n, .int .i64 n, .slice q n1 c] (0, 0) _ (.int .i64 0) rfl (hss (hss (hss hZ.out))) rfl Try.underlying27 rfl hinfo) rfl ⟨q, n1, c, HNE.out, rfl, ?_, ((hB.out.setCell (Nat.le_refl _) _).setCell (Nat.le_refl _) _).setCell (Nat.le_refl _) _⟩
      rw [← HKN.out]
      rw [HKN.out] at hO ⊢
      exact owns_mono (owns_set (owns_set (owns_set hO.out (by simp)) (by simp)) (by simp)) (by simp)
set_option maxRecDepth 100000 in
set_option maxHeartbeats 2000000 in
theorem GRows_any (h wd : Nat) (p : Option Addr) (n c : Nat) (cells : List UInt8) (w : World) (hs : Sl B8 w p n c cells) (hn : n = h * wd) (hr : Room wd) (hh : Room (h * 24)) :
    Calls Try.prog 17 #[.agg #[.int .i64 h, .int .i64 wd, .slice p n c]] w fun e w' => ∃ q c', e = .returned (.slice q h c') ∧ Own2 25 5 w' w.heap.size (.slice q h c') h ((List.range h).map (rowF wd cells)) ∧ Below w.heap.size w w' := by
  obtain ⟨r0, hr0, hrz, hr1, hr2⟩ := info_parts info_rows
  have HS := Lib.hid hs; have HN := Lib.hid hn
  unfold Room at hh
  have hb : h ≤ 9223372036854775807 := by omega
  have HM1 : Hid (h ≤ maxLen) := by show h ≤ maxLen; unfold maxLen; omega
  have HM2 : Hid (24 * h ≤ 281474976710656) := by show 24 * h ≤ _; omega
  have HR := Lib.hid hr
  have HB : Hid (∀ o, Below w.heap.size w (w.alloc o)) := fun o => al (Below.refl _ _) (Nat.le_refl _)
  clear hs hn hr
  go_enter Try.func17, Try.ntmps17
  go_wp2_with (at_make; refine wpList_make_full _ rfl _ _ 22 rfl (w.heap.size + 1) 25 r0 (.slice none 0 0) 1 Try.underlying22 hr0 hrz hr1 .i64 .i64 _ _ h rfl rfl rfl rfl (by rw [hr2]; exact HM2.out) HM1.out (by simp) ?_)
  intro w1 ho hg
  have HO : Hid (w1.ownsRow (w.heap.size + 1) 25 1 (.slice (some ⟨w.heap.size + 1, 0, none⟩) h h) h ([] ++ List.replicate (h - 0) (Value.slice none 0 0))) := by
    have e : (madeCells #[Value.slice none 0 0] h).toList = List.replicate h (Value.slice none 0 0) := toList_madeCells_one _ _
    show World.ownsRow _ _ _ _ _ _ _
    rw [List.nil_append, Nat.sub_zero, ← e]; simpa using ho
  have hb1 : Below w.heap.size w w1 := (HB.out _).grown hg (by simp) (by simp)
  have E0 : Hid (w1.heap[w.heap.size]? = some (.cells #[.int .i64 h, .int .i64 wd, .slice p n c] 27 (0, 0))) := by
    show _ = _
    rw [hg.block _ (by simp) (by simp)]; exact hnew rfl
  have K1 := Lib.hid hb1
  obtain ⟨y0, y1, y2⟩ := cells3 E0.out
  clear ho hg hb1
  go_wp2
  clear y0 y1 y2
  go_loopw [10] (fun i wr => ∃ (k : Nat) (vs : List Value), k ≤ h ∧ i = .int .i64 k ∧ Hid (vs.length = k) ∧ Hid (wr.ownsRow (w.heap.size + 1) 25 1 (.slice (some ⟨w.heap.size + 1, 0, none⟩) h h) h (vs ++ List.replicate (h - k) (Value.slice none 0 0))) ∧
    Hid (∀ (j : Nat) (v : Value), vs[j]? = some v → ∃ q c', v = .slice q wd c' ∧ wr.ownsRow (w.heap.size + 1) 5 1 (.slice q wd c') wd ((rowF wd cells j).map B8)) ∧ Hid (Below w.heap.size w wr) ∧
    Hid (wr.heap[w.heap.size]? = some (.cells #[.int .i64 h, .int .i64 wd, .slice p n c] 27 (0, 0)))) (fun i _ => h - (intOf i).toNat)
  case atStart => exact ⟨0, [], Nat.zero_le _, rfl, rfl, HO.out, fun j v hj => by simp at hj, K1.out, E0.out⟩
  case round =>
    obtain ⟨k, vs, hk, rfl, hl, hO, hV, hBw, hX⟩ := hrel
    by_cases hlt : k < h
    · obtain ⟨x0, x1, x2⟩ := cells3 hX.out
      go_wp2_with fail
      refine Calls.mono (row_any h wd k p n c cells wr (HS.out.keep hBw.out) HN.out hlt hb) ?_
      rintro e w2 ⟨q', c', rfl, hs', -, hb'⟩
      have hB2 : Hid (Below w.heap.size w w2) := bl hBw.out hb' hBw.out.size
      have HS' := Lib.hid hs'
      have hs2 := hb'.size
      have hsz := hBw.out.size
      clear x0 x1 x2 hs'
      go_wp2_with fail
      refine Calls.mono (CloneB_any q' wd c' (rowF wd cells k) w2 HS'.out HR.out) ?_
      rintro e w3 ⟨q3, c3, rfl, ho3, hb3⟩
      have hb23 := bl hb' hb3 hs2
      have hO3 : Hid (w3.ownsRow (w.heap.size + 1) 25 1 (.slice (some ⟨w.heap.size + 1, 0, none⟩) h h) h (vs ++ List.replicate (h - k) (Value.slice none 0 0))) := owns_keep hO.out hb23
      have hlt0 := (hO.out.lt (w.heap.size + 1) rfl).2
      have hR3 : Hid (w3.ownsRow (w.heap.size + 1) 5 1 (.slice q3 wd c3) wd ((rowF wd cells k).map B8)) := owns_mono ho3 (by omega)
      have hV3 : Hid (∀ (j : Nat) (v : Value), vs[j]? = some v → ∃ q c', v = .slice q wd c' ∧ w3.ownsRow (w.heap.size + 1) 5 1 (.slice q wd c') wd ((rowF wd cells j).map B8)) := fun j v hj => by
        obtain ⟨q, c', e, ho⟩ := hV.out j v hj
        exact ⟨q, c', e, owns_keep ho hb23⟩
      have hB3 : Hid (Below w.heap.size w w3) := bl hBw.out hb23 hBw.out.size
      have hX3 : Hid (w3.heap[w.heap.size]? = some (.cells #[.int .i64 h, .int .i64 wd, .slice p n c] 27 (0, 0))) := (hb23.block _ (blk_lt hX.out)).trans hX.out
      have cx : w3.cell? ⟨w.heap.size + 1, k, none⟩ = some (.slice none 0 0) := by
        rw [hO3.out.cellAt _ (by omega), List.getElem?_append_right (by rw [hl.out]; exact Nat.le_refl _), hl.out, Nat.sub_self]
        exact List.getElem?_replicate_of_lt (by omega)
      have zx : w3.frozen? ⟨w.heap.size + 1, k, none⟩ = false := hO3.out.frozenAt _
      have kn : (k : Int) < (h : Int) := by omega
      have P2 : Hid ((w3.setCell ⟨w.heap.size + 1, k, none⟩ (.slice q3 wd c3)).ownsRow (w.heap.size + 1) 25 1 (.slice (some ⟨w.heap.size + 1, 0, none⟩) h h) h ((vs ++ [.slice q3 wd c3]) ++ List.replicate (h - (k + 1)) (Value.slice none 0 0)) ∧
          (∀ (j : Nat) (v : Value), (vs ++ [.slice q3 wd c3])[j]? = some v → ∃ q c', v = .slice q wd c' ∧ (w3.setCell ⟨w.heap.size + 1, k, none⟩ (.slice q3 wd c3)).ownsRow (w.heap.size + 1) 5 1 (.slice q wd c') wd ((rowF wd cells j).map B8)) ∧
          Below w.heap.size w (w3.setCell ⟨w.heap.size + 1, k, none⟩ (.slice q3 wd c3)) ∧
          (w3.setCell ⟨w.heap.size + 1, k, none⟩ (.slice q3 wd c3)).heap[w.heap.size]? = some (.cells #[.int .i64 h, .int .i64 wd, .slice p n c] 27 (0, 0))) := by
        have hst := hO3.out.stored k (.slice q3 wd c3)
        have hkeep : ∀ (q : Option Addr) (c' j : Nat), w3.ownsRow (w.heap.size + 1) 5 1 (.slice q wd c') wd ((rowF wd cells j).map B8) → (w3.setCell ⟨w.heap.size + 1, k, none⟩ (.slice q3 wd c3)).ownsRow (w.heap.size + 1) 5 1 (.slice q wd c') wd ((rowF wd cells j).map B8) := fun q c' j hh =>
          owns_kept hh hst.2 (owns_ne hh hO3.out (by decide))
        refine ⟨?_, ?_, hB3.out.setCell (by show w.heap.size ≤ w.heap.size + 1; omega) _, hsc hX3.out (by show w.heap.size ≠ w.heap.size + 1; omega)⟩
        · have e := list_set_succ vs (h - (k + 1)) (Value.slice none 0 0) (.slice q3 wd c3)
          rw [hl.out, show h - (k + 1) + 1 = h - k by omega] at e
          rw [← e]; exact hst.1
        · intro j v hj
          by_cases hjk : j < vs.length
          · rw [List.getElem?_append_left hjk] at hj
            obtain ⟨q, c', e, ho⟩ := hV3.out j v hj
            exact ⟨q, c', e, hkeep _ _ _ ho⟩
          · have hj2 := (List.getElem?_eq_some_iff.1 hj).1
            rw [List.length_append, List.length_singleton] at hj2
            obtain rfl : j = vs.length := by omega
            rw [List.getElem?_append_right (Nat.le_refl _), Nat.sub_self] at hj
            have hv : Value.slice q3 wd c3 = v := by simpa using hj
            exact ⟨q3, c3, hv.symm, by rw [hl.out]; exact hkeep _ _ _ hR3.out⟩
      have HL2 : Hid ((vs ++ [Value.slice q3 wd c3]).length = k + 1) := by show _ = _; rw [List.length_append, hl.out]; rfl
      clear hO hV hBw hX ho3 hb3 hb23 hO3 hR3 hV3 hB3 hX3 hB2 hs2 hlt0 HS' hb' hsz
      go_wp2
      go_roundw
      case rel => exact ⟨k + 1, vs ++ [Value.slice q3 wd c3], by omega, by go_num, HL2.out, P2.out.1, P2.out.2.1, P2.out.2.2.1, P2.out.2.2.2⟩
      case measure => simp [intOf]; omega
    · have hkh : k = h := by omega
      have hge : (h : Int) ≤ (k : Int) := by omega
      have HF : Hid (Own2 25 5 wr w.heap.size (.slice (some ⟨w.heap.size + 1, 0, none⟩) h h) h ((List.range h).map (rowF wd cells))) := by
        have hO' := hO.out
        rw [hkh, Nat.sub_self, List.replicate_zero, List.append_nil] at hO'
        refine ⟨vs, owns_mono hO' (by omega), by simp, ?_⟩
        intro j v hj
        have hj2 := (List.getElem?_eq_some_iff.1 hj).1
        rw [hl.out] at hj2
        obtain ⟨q, c', e, ho⟩ := hV.out j v hj
        have hlen : (rowF wd cells j).length = wd := by have := owns_len ho; simpa using this
        refine ⟨rowF wd cells j, q, c', by rw [List.getElem?_map, List.getElem?_range (by omega)]; rfl, by rw [hlen]; exact e, ?_⟩
        rw [hlen]; exact owns_mono ho (by omega)
      have HBF := Lib.hid hBw.out
      clear hkh hO hV hX hBw hl
      go_wp2
      go_ret
      exact ⟨_, _, rfl, HF.out, HBF.out⟩
end Go.Proofs.Ytofhdakggapahaa
