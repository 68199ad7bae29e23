/- The contract of the act double. -/
import Derived.Test.YtlfcijpkdhdmeaaA7
import Derived.Deep.AppendLies
import Derived.Deep.RegionWith
namespace Go.Proofs.Ytlfcijpkdhdmeaa
open Go.RowKit Go.By
set_option maxRecDepth 100000 in
set_option maxHeartbeats 4000000 in
theorem double_any (base n i : Nat) (j : Int) (v : Value) (ts : List Par) (t : Par) (d b : Int) (av : Value) (w : World) (h : PL w base v n ts) (ht : ts[i]? = some t) (hbase : base ≤ w.heap.size) (hr : Room t.2.2.length) (hn : n < 4096) :
    Calls Try.prog 47 #[actV d i j b av, v] w (RetP base w (ts.map parIs ++ [parIs t])) := by
  obtain ⟨i0, hi0, hz0, hz1, hz2⟩ := info_parts info_parcel
  have hi : i < n := by have := (List.getElem?_eq_some_iff.1 ht).1; rw [h.len] at this; exact this
  obtain ⟨q, c, rfl⟩ : ∃ q c, v = .slice q n c := by
    rcases h.own.2 with ⟨h1, h0⟩ | ⟨g, cap, cur, hv, _⟩
    · omega
    · exact ⟨_, _, hv⟩
  obtain ⟨g, cur, rfl, hg, hh, hnc, hcm, hcl, hct⟩ := owns2_open h.own (by omega)
  unfold maxLen at hcm
  have hgs : g < w.heap.size := lt_of_cell (par_cells h ht).1
  obtain ⟨q1, m1, c1, ht1, hto⟩ := h.row t (List.mem_of_getElem? ht)
  obtain ⟨t1, k1, xs⟩ := t
  simp only at ht1 hto hr
  subst ht1
  obtain ⟨d0, d1⟩ := par_cells h ht
  simp only at d0 d1
  have hB := fun o1 => al (o := o1) (Below.refl w.heap.size w) (Nat.le_refl _)
  obtain ⟨W, hW⟩ : ∃ W, W = w.alloc (.cells #[.int .i64 d, .int .i64 i, .int .i64 j, .int .u32 b, av] 39) := ⟨_, rfl⟩
  have hBW : Below w.heap.size w W := by rw [hW]; exact hB _
  have x1 : W.heap[w.heap.size]? = some (.cells #[.int .i64 d, .int .i64 i, .int .i64 j, .int .u32 b, av] 39 (0, 0)) := by rw [hW]; exact hnew rfl
  have hWs : W.heap.size = w.heap.size + 1 := by rw [hW]; simp
  have R0 : ∀ W', Below W.heap.size W W' → W'.cell? ⟨g, i * 2, none⟩ = some (.slice q1 m1 c1) := fun W' hb => ((hBW.trans (hb.mono (by omega))).cell (p := ⟨g, i * 2, none⟩) hgs).trans d0
  have R1 : ∀ W', Below W.heap.size W W' → W'.cell? ⟨g, i * 2 + 1, none⟩ = some (.int .i64 k1) := fun W' hb => ((hBW.trans (hb.mono (by omega))).cell (p := ⟨g, i * 2 + 1, none⟩) hgs).trans d1
  have R2 : ∀ W', Below W.heap.size W W' → W'.cell? ⟨w.heap.size, 1, none⟩ = some (.int .i64 i) := fun W' hb => cell_of_row _ _ 1 _ _ _ ((hb.block _ (by omega)).trans x1)
  have i1 : (i : Int) < (n : Int) := by omega
  have h4 : ¬ (4096 : Int) ≤ (n : Int) := by omega
  obtain ⟨m0, hm0⟩ : ∃ m0, m0 = xs.length := ⟨_, rfl⟩
  have hml : m1 = m0 := by have := hto.1; simp at this; omega
  rw [← hm0] at hr
  have HM0 := Lib.hid hm0
  clear hm0
  subst hml
  have C1 : Hid (∀ W', Below W.heap.size W W' → Calls Try.prog 52 #[.slice q1 m1 c1] W' fun e w' => ∃ q c', e = .returned (.slice q m1 c') ∧ w'.ownsRow W'.heap.size 5 1 (.slice q m1 c') m1 (xs.map B8) ∧ Below W'.heap.size W' w') := fun W' hb =>
    BClone_any q1 m1 c1 xs W' ((Sl.of_owns hto).keep (hBW.trans (hb.mono (by omega)))) hr
  have s0 := R0 W (Below.refl _ _); have s1 := R1 W (Below.refl _ _); have s2 := R2 W (Below.refl _ _)
  have hd : Below W.heap.size W W.drew := (Below.refl _ _).drew
  have H := Lib.hid h; have HT := Lib.hid ht; have HBW := Lib.hid hBW
  clear h hh hct hcl d0 d1 ht hto hB hBW x1
  go_enter Try.func47, Try.ntmps47
  go_wp2_with fail
  rw [← hW]
  clear hW
  have hNews : Hid (∀ (w1 : World) (q2 : Option Addr) (c2 : Nat), ∀ (jj : Nat) (u : Value), [Value.slice q2 m1 c2, Value.int .i64 k1][jj]? = some u → (w1.alloc (.cells #[.slice q2 m1 c2, .int .i64 k1] 71)).cell? ((⟨w1.heap.size, 0, none⟩ : Addr).add jj) = some u) := fun w1 q2 c2 jj u hj => by
    rw [Addr.add_lit, Nat.zero_add, cell_of_row _ _ jj _ _ _ (hnew rfl)]
    match jj with
    | 0 => simpa using hj
    | 1 => simpa using hj
    | jj + 2 => simp at hj
  have hOnes : Hid (∀ (q2 : Option Addr) (c2 : Nat), ∀ u ∈ [Value.slice q2 m1 c2, Value.int .i64 k1], u.oneCell' = true) := fun q2 c2 x hx => by simp at hx; rcases hx with rfl | rfl <;> rfl
  have hOwn : Hid (∀ (w1 : World) (o : Obj), Below W.heap.size W w1 → (w1.alloc o).ownsRow base 71 2 (.slice (some ⟨g, 0, none⟩) n c) n (pcs (ts.map parOf))) := fun w1 o hb =>
    ((H.out.keep (HBW.out.trans (hb.mono (by omega)))).keep (al (Below.refl _ _) (Nat.le_refl _))).own
  have hMx : n + 1 ≤ maxLen := by unfold maxLen; omega
  have hBy : (n + 1) * 32 ≤ 140737488355328 := by omega
  have hBs : Hid (∀ (w1 : World) (o : Obj), Below W.heap.size W w1 → base ≤ (w1.alloc o).heap.size) := fun w1 o hb => by have := hb.size; simp; omega
  have hFin : Hid (∀ (w1 w2 : World) (q2 : Option Addr) (c2 g3 cap3 : Nat), Below W.heap.size W w1 → w1.ownsRow W.heap.size 5 1 (.slice q2 m1 c2) m1 (xs.map B8) →
      w2.ownsRow base 71 2 (.slice (some ⟨g3, 0, none⟩) (n + 1) cap3) (n + 1) (pcs (ts.map parOf) ++ [.slice q2 m1 c2, .int .i64 k1]) → (w1.alloc (.cells #[.slice q2 m1 c2, .int .i64 k1] 71)).grownBy w2 (Value.slice (some ⟨g, 0, none⟩) n c).ownBlock →
      PL w2 base (.slice (some ⟨g3, 0, none⟩) (n + 1) cap3) (n + 1) (ts ++ [(.slice q2 m1 c2, k1, xs)]) ∧ Below base w w2) := fun w1 w2 q2 c2 g3 cap3 hb ho1 ho2 hgr => by
    have hal : Below w1.heap.size w1 (w1.alloc (.cells #[.slice q2 m1 c2, .int .i64 k1] 71)) := al (Below.refl _ _) (Nat.le_refl _)
    have hs := hb.size
    refine ⟨Pl.push (w1 := W) (H.out.keep HBW.out) ne_types ⟨_, _, _, rfl, owns_keep ho1 hal⟩ (by omega) (hb.trans (hal.mono hs)) ho2 hgr, ?_⟩
    exact (((HBW.out.trans (hb.mono (by omega))).mono hbase).trans (hal.mono (by omega))).grown hgr (by simp; omega) (fun k hk => by cases hk; exact hg)
  go_region_law (first
    | (go_simp; go_at_call 52; (with_reducible refine Calls.mono (C1.out _ (by assumption)) ?_); rintro e w1 ⟨q2, c2, rfl, ho2, hb2⟩; have hw1 := stp (by assumption) hb2 rfl (Nat.le_refl _); have f0 := R0 w1 hw1; have f1 := R1 w1 hw1; have f2 := R2 w1 hw1)
    | (refine step_append_lies _ rfl (.tmp 9) (.tmp 24) 68 rfl base 71 i0 _ 2 32 Try.underlying68 hi0 hz0 hz1 hz2 rfl (by omega) (.slice (some ⟨g, 0, none⟩) n c) n (pcs (ts.map parOf)) (by simp [Act.eval, Act.put]) (hOwn.out _ _ (by assumption)) _ 1 1 _ (by simp [Act.eval, Act.put]) rfl (hNews.out _ _ _) (hOnes.out _ _) (by omega) hMx hBy (hBs.out _ _ (by assumption)) _ rfl ?_; intro g3 cap3 w3 ho3 hgr3 hat3 hlt3))
  all_goals go_wp2
  all_goals go_ret
  all_goals (have hF := hFin.out _ _ _ _ _ _ hw1 ho2 ho3 hgr3; exact RetP.of hF.1 hF.2 (by simp [parIs]))
end Go.Proofs.Ytlfcijpkdhdmeaa
