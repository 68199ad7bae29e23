/- The contract of the act cut. -/
import Derived.Test.YtlfcijpkdhdmeaaA7
import Derived.Deep.RegionLaw
import Derived.BigQuiet
namespace Go.Proofs.Ytlfcijpkdhdmeaa
open Go.RowKit Go.By
/-- what a cut does to a parcel -/
def cutP (p : List UInt8 × Int) (j : Nat) : List UInt8 × Int := if j < p.1.length then (p.1.take j, -1) else p
set_option maxRecDepth 100000 in
set_option maxHeartbeats 4000000 in
theorem cut_any (base n i j : Nat) (v : Value) (ts : List Par) (t : Par) (d b : Int) (av : Value) (w : World) (h : PL w base v n ts) (ht : ts[i]? = some t) (hbase : base ≤ w.heap.size) (hr : Room t.2.2.length) (hj : j ≤ 9223372036854775807) :
    Calls Try.prog 49 #[actV d i j b av, v] w (RetP base w ((ts.map parIs).set i (cutP (parIs t) j))) := by
  have hi : i < n := by have := (List.getElem?_eq_some_iff.1 ht).1; rw [h.len] at this; exact this
  obtain ⟨q, c, rfl⟩ : ∃ q c, v = .slice q n c := by
    rcases h.own.2 with ⟨h1, h0⟩ | ⟨g, cap, cur, hv, _⟩
    · omega
    · exact ⟨_, _, hv⟩
  obtain ⟨g, cur, rfl, hg, hh, hnc, hcm, hcl, hct⟩ := owns2_open h.own (by omega)
  unfold maxLen at hcm
  have hgs : g < w.heap.size := lt_of_cell (par_cells h ht).1
  obtain ⟨q1, m1, c1, ht1, hto⟩ := h.row t (List.mem_of_getElem? ht)
  obtain ⟨t1, k1, xs⟩ := t
  simp only at ht1 hto hr
  subst ht1
  obtain ⟨d0, d1⟩ := par_cells h ht
  simp only at d0 d1
  have hB := fun o1 => al (o := o1) (Below.refl w.heap.size w) (Nat.le_refl _)
  obtain ⟨W, hW⟩ : ∃ W, W = w.alloc (.cells #[.int .i64 d, .int .i64 i, .int .i64 j, .int .u32 b, av] 39) := ⟨_, rfl⟩
  have hBW : Below w.heap.size w W := by rw [hW]; exact hB _
  have x1 : W.heap[w.heap.size]? = some (.cells #[.int .i64 d, .int .i64 i, .int .i64 j, .int .u32 b, av] 39 (0, 0)) := by rw [hW]; exact hnew rfl
  have hWs : W.heap.size = w.heap.size + 1 := by rw [hW]; simp
  have R0 : ∀ W', Below W.heap.size W W' → W'.cell? ⟨g, i * 2, none⟩ = some (.slice q1 m1 c1) := fun W' hb => ((hBW.trans (hb.mono (by omega))).cell (p := ⟨g, i * 2, none⟩) hgs).trans d0
  have R1 : ∀ W', Below W.heap.size W W' → W'.cell? ⟨g, i * 2 + 1, none⟩ = some (.int .i64 k1) := fun W' hb => ((hBW.trans (hb.mono (by omega))).cell (p := ⟨g, i * 2 + 1, none⟩) hgs).trans d1
  have R2 : ∀ W', Below W.heap.size W W' → W'.cell? ⟨w.heap.size, 1, none⟩ = some (.int .i64 i) := fun W' hb => cell_of_row _ _ 1 _ _ _ ((hb.block _ (by omega)).trans x1)
  have R3 : ∀ W', Below W.heap.size W W' → W'.cell? ⟨w.heap.size, 2, none⟩ = some (.int .i64 j) := fun W' hb => cell_of_row _ _ 2 _ _ _ ((hb.block _ (by omega)).trans x1)
  have Z0 : ∀ W', Below W.heap.size W W' → W'.frozen? ⟨g, i * 2, none⟩ = false := fun W' hb => frozen_arr (cur := cur) (((hBW.trans (hb.mono (by omega))).block g hgs).trans hh) _
  have Z1 : ∀ W', Below W.heap.size W W' → W'.frozen? ⟨g, i * 2 + 1, none⟩ = false := fun W' hb => frozen_arr (cur := cur) (((hBW.trans (hb.mono (by omega))).block g hgs).trans hh) _
  have i1 : (i : Int) < (n : Int) := by omega
  have s0 := R0 W (Below.refl _ _); have s1 := R1 W (Below.refl _ _); have s2 := R2 W (Below.refl _ _); have s3 := R3 W (Below.refl _ _)
  obtain ⟨m0, hm0⟩ : ∃ m0, m0 = xs.length := ⟨_, rfl⟩
  have hml : m1 = m0 := by have := hto.1; simp at this; omega
  rw [← hm0] at hr
  have HM0 := Lib.hid hm0
  clear hm0
  subst hml
  have H := Lib.hid h; have HT := Lib.hid ht; have HBW := Lib.hid hBW
  have HS := Lib.hid (Sl.of_owns hto)
  have bm := HS.out.le; have bc := HS.out.max; unfold maxLen at bc
  clear h hh hct hcl d0 d1 ht hB hBW x1
  by_cases hjm : j < m1
  · have j1 : (j : Int) < (m1 : Int) := by omega
    have HC : Hid (cutP (parIs (.slice q1 m1 c1, k1, xs)) j = (xs.take j, -1)) := by unfold cutP parIs; rw [Hid, if_pos (by rw [← HM0.out]; exact hjm)]
    rw [HC.out]
    obtain ⟨ad, rfl⟩ : ∃ ad, q1 = some ad := by
      cases q1 with
      | none => have := HS.out.nil rfl; omega
      | some ad => exact ⟨ad, rfl⟩
    have C1 : Hid (∀ W', Below W.heap.size W W' → Calls Try.prog 52 #[.slice (some ad) j c1] W' fun e w' => ∃ q c', e = .returned (.slice q j c') ∧ w'.ownsRow W'.heap.size 5 1 (.slice q j c') j ((xs.take j).map B8) ∧ Below W'.heap.size W' w') := fun W' hb =>
      BClone_any (some ad) j c1 (xs.take j) W' ((Sl.take_c HS.out (by omega)).keep (HBW.out.trans (hb.mono (by omega)))) (hr.le (by omega))
    have j2 : j ≤ c1 := by omega
    clear hto
    go_enter Try.func49, Try.ntmps49
    go_wp2_with fail
    rw [← hW]
    clear hW
    go_quiet (fail)
    go_wp2_with fail
    have hd : Below W.heap.size W (W.drewN (nq + 1)) := bdn (Below.refl _ _)
    have hFin : Hid (∀ (w1 : World) (q2 : Option Addr) (c2 : Nat), Below W.heap.size W w1 → w1.ownsRow W.heap.size 5 1 (.slice q2 j c2) j ((xs.take j).map B8) →
        PL ((w1.setCell ⟨g, i * 2, none⟩ (.slice q2 j c2)).setCell ⟨g, i * 2 + 1, none⟩ (.int .i64 (-1))) base (.slice (some ⟨g, 0, none⟩) n c) n (ts.set i (.slice q2 j c2, -1, xs.take j)) ∧ Below base w ((w1.setCell ⟨g, i * 2, none⟩ (.slice q2 j c2)).setCell ⟨g, i * 2 + 1, none⟩ (.int .i64 (-1)))) := fun w1 q2 c2 hb ho => by
      have how := ((H.out.keep (HBW.out.trans (hb.mono (by omega)))).own.stored (i * 2) (.slice q2 j c2)).1
      have how2 := (how.stored (i * 2 + 1) (.int .i64 (-1))).1
      have hs := hb.size
      refine ⟨Pl.swap (w1 := W) (w2 := w1) (H.out.keep HBW.out) hi ne_types ⟨_, _, _, rfl, ho⟩ (by omega) hb ?_ (grown_trans (grownBy_setCell _ g _ _) (grownBy_setCell _ g _ _)), ?_⟩
      · rw [pcs_set _ _ _ (by rw [List.length_map, H.out.len]; exact hi)]; exact how2
      · exact (((HBW.out.mono hbase).trans (hb.mono (by omega))).setCell hg _).setCell hg _
    go_region_law (first
      | (go_simp; go_at_call 52; (with_reducible refine Calls.mono (C1.out _ (by assumption)) ?_); rintro e w1 ⟨q2, c2, rfl, ho2, hb2⟩; have hw1 := stp (by assumption) hb2 rfl (Nat.le_refl _); have f0 := R0 w1 hw1; have f1 := R1 w1 hw1; have f2 := R2 w1 hw1; have f3 := R3 w1 hw1; have z0 := Z0 w1 hw1; have z1 := Z1 w1 hw1))
    all_goals go_wp2
    all_goals go_ret
    all_goals (have hF := hFin.out _ _ _ hw1 ho2; exact RetP.of hF.1 hF.2 (by simp [List.map_set, parIs]))
  · have j1 : (m1 : Int) ≤ (j : Int) := by omega
    have HC : Hid (cutP (parIs (.slice q1 m1 c1, k1, xs)) j = (xs, k1)) := by unfold cutP parIs; rw [Hid, if_neg (by rw [← HM0.out]; exact hjm)]
    rw [HC.out]
    clear hto
    go_enter Try.func49, Try.ntmps49
    go_wp2_with fail
    rw [← hW]
    clear hW
    go_quiet (fail)
    go_wp2
    go_ret
    refine RetP.of (H.out.keep (bdn HBW.out)) (bdn (HBW.out.mono hbase)) ?_
    apply List.ext_getElem?
    intro jj
    rw [List.getElem?_set, List.getElem?_map]
    split
    · rename_i e; subst e; rw [HT.out]; simp [parIs, hi, H.out.len]
    · rfl
end Go.Proofs.Ytlfcijpkdhdmeaa
