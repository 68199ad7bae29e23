/- The contract of the act move. -/
import Derived.Test.YtlfcijpkdhdmeaaA6
namespace Go.Proofs.Ytlfcijpkdhdmeaa
open Go.RowKit Go.By
def dropAt {α : Type} (ps : List α) (i : Nat) : List α := ps.take i ++ ps.drop (i + 1)
def putAt {α : Type} (ps : List α) (k : Nat) (p : α) : List α := ps.take k ++ p :: ps.drop k
theorem dropAt_length {α : Type} {ps : List α} {i : Nat} (h : i < ps.length) : (dropAt ps i).length = ps.length - 1 := by unfold dropAt; rw [List.length_append, List.length_take, List.length_drop]; omega
theorem dropAt_map {α β : Type} (f : α → β) (ps : List α) (i : Nat) : (dropAt ps i).map f = dropAt (ps.map f) i := by simp [dropAt, List.map_take, List.map_drop]
theorem putAt_map {α β : Type} (f : α → β) (ps : List α) (i : Nat) (p : α) : (putAt ps i p).map f = putAt (ps.map f) i (f p) := by simp [putAt, List.map_take, List.map_drop]
theorem dropAt_sub {α : Type} (ps : List α) (i : Nat) : (dropAt ps i).Sublist ps := by
  have h2 := List.Sublist.append (List.Sublist.refl (ps.take i)) (List.drop_sublist 1 (ps.drop i))
  rw [List.drop_drop, List.take_append_drop] at h2
  exact h2
theorem dropAt_perm {α : Type} {ps : List α} {i : Nat} {p : α} (h : ps[i]? = some p) : (p :: dropAt ps i).Perm ps := by
  obtain ⟨hi, h⟩ := List.getElem?_eq_some_iff.1 h
  have e : ps = ps.take i ++ p :: ps.drop (i + 1) := by
    conv => lhs; rw [← List.take_append_drop i ps, List.drop_eq_getElem_cons hi, h]
  conv => rhs; rw [e]
  exact List.perm_middle.symm
theorem putAt_perm {α : Type} (ps : List α) (k : Nat) (p : α) : (putAt ps k p).Perm (p :: ps) := by
  unfold putAt
  have := List.perm_middle (a := p) (l₁ := ps.take k) (l₂ := ps.drop k)
  rwa [List.take_append_drop] at this
theorem par_cells {w : World} {base n c g i : Nat} {ts : List Par} {t : Par} (h : PL w base (.slice (some ⟨g, 0, none⟩) n c) n ts) (ht : ts[i]? = some t) :
    w.cell? ⟨g, i * 2, none⟩ = some t.1 ∧ w.cell? ⟨g, i * 2 + 1, none⟩ = some (.int .i64 t.2.1) := by
  have hi : i < n := by have := (List.getElem?_eq_some_iff.1 ht).1; rw [h.len] at this; exact this
  have hp := pcs_at (us := ts.map parOf) (i := i) (u := parOf t) (by rw [List.getElem?_map, ht]; rfl)
  exact ⟨by rw [h.own.cellAt _ (by omega)]; exact hp.1, by rw [h.own.cellAt _ (by omega)]; exact hp.2⟩
set_option maxRecDepth 100000 in
set_option maxHeartbeats 2000000 in
theorem move_any (base n i j : Nat) (v : Value) (ts : List Par) (t : Par) (d b : Int) (av : Value) (w : World) (h : PL w base v n ts) (ht : ts[i]? = some t) (hbase : base ≤ w.heap.size) (hj : j ≤ 9223372036854775807) :
    Calls Try.prog 48 #[actV d i j b av, v] w (RetP base w (putAt (dropAt (ts.map parIs) i) (min j (n - 1)) (parIs t))) := by
  have hi : i < n := by have := (List.getElem?_eq_some_iff.1 ht).1; rw [h.len] at this; exact this
  obtain ⟨q, c, rfl⟩ : ∃ q c, v = .slice q n c := by
    rcases h.own.2 with ⟨h1, h0⟩ | ⟨g, cap, cur, hv, _⟩
    · omega
    · exact ⟨_, _, hv⟩
  obtain ⟨g, cur, rfl, hg, hh, hnc, hcm, hcl, hct⟩ := owns2_open h.own (by omega)
  unfold maxLen at hcm
  have hgs : g < w.heap.size := lt_of_cell (par_cells h ht).1
  obtain ⟨q1, m1, c1, ht1, hto⟩ := h.row t (List.mem_of_getElem? ht)
  obtain ⟨t1, k1, xs⟩ := t
  simp only at ht1 hto
  subst ht1
  obtain ⟨d0, d1⟩ := par_cells h ht
  simp only at d0 d1
  have D0 : ∀ o, (w.alloc o).cell? ⟨g, i * 2, none⟩ = some (.slice q1 m1 c1) := fun o => calloc d0
  have D1 : ∀ o, (w.alloc o).cell? ⟨g, i * 2 + 1, none⟩ = some (.int .i64 k1) := fun o => calloc d1
  have i1 : (i : Int) < (n : Int) := by omega
  have hB := fun o1 o2 => al (o := o2) (al (o := o1) (Below.refl w.heap.size w) (Nat.le_refl _)) (by simp)
  have hB2 := fun o1 o2 => al (o := o2) (al (o := o1) (Below.refl base w) hbase) (by simp; omega)
  have H := Lib.hid h; have HT := Lib.hid ht
  have HB := Lib.hid hB; have HB2 := Lib.hid hB2
  clear h hh hct hcl d0 d1 ht hto hB hB2
  go_enter Try.func48, Try.ntmps48
  go_wp2_with fail
  refine Calls.mono (Delete_any base g n c i (ts.map parOf) _ (H.out.keep (HB.out _ _)).own hi (H.out.ones)) ?_
  rintro e w' ⟨rfl, ho, hgr⟩
  have e1 : i + (n - (i + 1)) = n - 1 := by omega
  rw [e1]
  have x1 : w'.heap[w.heap.size]? = some (.cells #[.int .i64 d, .int .i64 i, .int .i64 j, .int .u32 b, av] 39 (0, 0)) := by
    rw [hgr.block _ (by simp; omega) (by simp; omega)]; exact hal (hnew rfl)
  have x2 : w'.heap[w.heap.size + 1]? = some (.cells #[.slice q1 m1 c1, .int .i64 k1] 71 (0, 0)) := by
    rw [hgr.block _ (by simp) (by simp; omega)]; exact hnew (by simp)
  have y2 : w'.cell? ⟨w.heap.size, 2, none⟩ = some (.int .i64 j) := cell_of_row _ _ 2 _ _ _ x1
  have z0 : w'.cell? ⟨w.heap.size + 1, 0, none⟩ = some (.slice q1 m1 c1) := cell_of_row _ _ 0 _ _ _ x2
  have z1 : w'.cell? ⟨w.heap.size + 1, 1, none⟩ = some (.int .i64 k1) := cell_of_row _ _ 1 _ _ _ x2
  have s1 := hgr.size
  have P1 : Hid (PL w' base (.slice (some ⟨g, 0, none⟩) (n - 1) c) (n - 1) (dropAt ts i) ∧ (∀ t, t ∈ ts → Bt 5 w' base t.1 t.2.2) ∧ Below base w w') := by
    refine ⟨(H.out.keep (HB.out _ _)).turn ne_types (fun t ht => (dropAt_sub ts i).subset ht) (H.out.dis.sublist (blks_sub (dropAt_sub ts i))) ?_ ?_ hgr, fun t ht => ?_, (HB2.out _ _).grown hgr (by simp; omega) (fun k hk => by cases hk; exact hg)⟩
    · rw [dropAt_length (by rw [H.out.len]; exact hi), H.out.len]
    · unfold dropAt; rw [List.map_append, List.map_take, List.map_drop]; exact ho
    · exact ((H.out.keep (HB.out _ _)).row t ht).grown ne_types (H.out.keep (HB.out _ _)).own hgr
  have hgs' : g < w'.heap.size := by simp at s1; omega
  have hws : w.heap.size ≤ w'.heap.size := by simp at s1; omega
  clear ho hgr e1 x1 x2 D0 D1 s1
  obtain ⟨n1, hn1⟩ : ∃ n1, n1 = n - 1 := ⟨_, rfl⟩
  have F : ∀ (o : Obj) (k : Nat) (w2 : World), o = .cells #[.slice q1 m1 c1, .int .i64 k1] 71 → k = min j n1 → ∀ (u : Value), u = .slice (some ⟨g, 0, none⟩) (n1 + 1) c →
      w2.ownsRow base 71 2 u (n1 + 1) (pcs (putAt ((dropAt ts i).map parOf) k (.slice q1 m1 c1, k1))) → (w'.alloc o).grownBy w2 (some g) → PL w2 base u n (putAt (dropAt ts i) k (.slice q1 m1 c1, k1, xs)) ∧ Below base w w2 := by
    intro o k w2 ho hk u hu how hgr
    have hb : Below w'.heap.size w' (w'.alloc o) := al (Below.refl _ _) (Nat.le_refl _)
    have hpm : (putAt (dropAt ts i) k (.slice q1 m1 c1, k1, xs)).Perm ts := (putAt_perm _ _ _).trans (dropAt_perm HT.out)
    refine ⟨⟨?_, ?_, fun t ht => ?_, ?_⟩, ?_⟩
    · rw [hpm.length_eq, H.out.len]
    · rw [show n = n1 + 1 by omega, putAt_map]; exact how
    · exact ((P1.out.2.1 t (hpm.subset ht)).keep hb).grown ne_types ((P1.out.1.keep hb).own) hgr
    · exact (hpm.filterMap _).nodup_iff.2 H.out.dis
    · exact (P1.out.2.2.trans (hb.mono (by omega))).grown hgr (by simp; omega) (fun k hk => by cases hk; exact hg)
  have HF := Lib.hid F
  have hvb : w'.heap.size ≠ g := by omega
  have HO : Hid (∀ o, (w'.alloc o).ownsRow base 71 2 (.slice (some ⟨g, 0, none⟩) n1 c) n1 (pcs ((dropAt ts i).map parOf))) := fun o => by
    rw [hn1]; exact (P1.out.1.keep (al (Below.refl _ _) (Nat.le_refl _))).own
  have HM : Hid (∀ x, x ∈ (dropAt ts i).map parOf → x.1.oneCell' = true) := P1.out.1.ones
  rw [← hn1]
  have hn1c : n1 + 1 ≤ c := by omega
  have HN := Lib.hid hn1
  clear hn1 F
  by_cases hjn : j < n1
  · have j1 : (j : Int) < (n1 : Int) := by omega
    have hmn := Lib.hid (show min j n1 = j by omega)
    go_wp2_with fail
    rw [show min (j : Int) (n1 : Int) = (j : Int) by omega]
    refine Calls.mono (InsertMid_any base g n1 c j w'.heap.size ((dropAt ts i).map parOf) (.slice q1 m1 c1, k1) _ (HO.out _) hjn hn1c HM.out rfl (hnew rfl) hvb) ?_
    rintro e w2 ⟨rfl, how, hgr2⟩
    have FIN := Lib.hid (HF.out _ j w2 rfl hmn.out.symm _ rfl how hgr2)
    clear how hgr2
    go_wp2
    go_ret
    refine RetP.of FIN.out.1 FIN.out.2 ?_
    rw [putAt_map, dropAt_map, ← HN.out, hmn.out]
  · have j1 : (n1 : Int) ≤ (j : Int) := by omega
    have hmn := Lib.hid (show min j n1 = n1 by omega)
    go_wp2_with fail
    rw [show min (j : Int) (n1 : Int) = (n1 : Int) by omega]
    refine Calls.mono (InsertEnd_any base g n1 c w'.heap.size ((dropAt ts i).map parOf) (.slice q1 m1 c1, k1) _ (HO.out _) hn1c rfl (hnew rfl)) ?_
    rintro e w2 ⟨rfl, how, hgr2⟩
    have FIN : Hid _ := Lib.hid (HF.out _ n1 w2 rfl hmn.out.symm _ rfl (by
      have hl : ((dropAt ts i).map parOf).length = n1 := by rw [List.length_map, dropAt_length (by rw [H.out.len]; exact hi), H.out.len, HN.out]
      unfold putAt
      rw [List.take_of_length_le (by omega), List.drop_eq_nil_of_le (by omega)]
      exact how) hgr2)
    clear how hgr2
    go_wp2
    go_ret
    refine RetP.of FIN.out.1 FIN.out.2 ?_
    rw [putAt_map, dropAt_map, ← HN.out, hmn.out]
end Go.Proofs.Ytlfcijpkdhdmeaa
