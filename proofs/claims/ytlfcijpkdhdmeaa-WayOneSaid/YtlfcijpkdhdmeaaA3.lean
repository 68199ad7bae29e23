/- The contract of slices.Insert at parcels: one more, where there is room. -/
import Derived.Test.YtlfcijpkdhdmeaaA2
import Derived.Shelf.Spec.SlicesInsert
import Derived.Lib.AppendZeros
namespace Go.Proofs.Ytlfcijpkdhdmeaa
open Go.RowKit Go.By
theorem owns2_some {w : World} {base T n c g : Nat} {L : List Value} (h : w.ownsRow base T 2 (.slice (some ⟨g, 0, none⟩) n c) n L) :
    ∃ cur, base ≤ g ∧ w.heap[g]? = some (.cells (List.toArray cur) T (0, 0)) ∧ n ≤ c ∧ c ≤ maxLen ∧ cur.length = c * 2 ∧ cur.take (n * 2) = L := by
  rcases h.2 with ⟨h1, _⟩ | ⟨g', cap, cur, hv, hg, hh, h1, h2, h3, h4⟩
  · simp at h1
  · obtain ⟨rfl, rfl⟩ : g = g' ∧ c = cap := by simpa using hv
    exact ⟨cur.toList, hg, by simpa using hh, h1, h2, by simpa using h3, by simpa using h4⟩
set_option maxRecDepth 100000 in
set_option maxHeartbeats 2000000 in
theorem InsertEnd_any (base g n c vb : Nat) (us : List (Value × Int)) (u : Value × Int) (w : World) (h : w.ownsRow base 71 2 (.slice (some ⟨g, 0, none⟩) n c) n (pcs us)) (hroom : n + 1 ≤ c) (hu : u.1.oneCell' = true)
    (hv : w.heap[vb]? = some (.cells #[u.1, .int .i64 u.2] 71 (0, 0))) :
    Calls Try.prog 61 #[.slice (some ⟨g, 0, none⟩) n c, .int .i64 n, .slice (some ⟨vb, 0, none⟩) 1 1] w fun e w' =>
      e = .returned (.slice (some ⟨g, 0, none⟩) (n + 1) c) ∧ w'.ownsRow base 71 2 (.slice (some ⟨g, 0, none⟩) (n + 1) c) (n + 1) (pcs (us ++ [u])) ∧ w.grownBy w' (some g) := by
  obtain ⟨i0, hi0, hz0, hz1, hz2⟩ := info_parts info_parcel
  obtain ⟨cur, hg, hh, hnc, hcm, hcl, hct⟩ := owns2_some h
  have hr := fun ty => run_append_room_cells (P := Try.prog) (w := w) 68 ty 71 i0 Try.underlying68 hi0 g 0 n c ⟨vb, 0, none⟩ 1 1 [u.1, .int .i64 u.2] (by rw [hz1]; rfl)
    (fun j x hj => by
      rw [Addr.add_lit, Nat.zero_add, cell_of_row _ _ j _ _ _ hv]
      match j with
      | 0 => simpa using hj
      | 1 => simpa using hj
      | j + 2 => simp at hj)
    (by intro x hx; simp at hx; rcases hx with rfl | rfl; exact hu; rfl) hroom
    (fun j hj => by rw [hz1, cell_arr hh, List.getElem?_eq_getElem (by simp at hj; omega)]; rfl) (fun j hj => frozen_arr hh _)
  rw [hz1, Nat.zero_add] at hr
  have HR := Lib.hid hr
  have FIN : Hid ((w.setCells g (n * 2) [u.1, .int .i64 u.2]).ownsRow base 71 2 (.slice (some ⟨g, 0, none⟩) (n + 1) c) (n + 1) (pcs (us ++ [u])) ∧ w.grownBy (w.setCells g (n * 2) [u.1, .int .i64 u.2]) (some g)) := by
    refine ⟨owns2_shut hg (heap_setCells _ _ _ _ hh (by simp; omega)) hroom hcm ?_ ?_, grownBy_setCells g _ _ _⟩
    · simp only [List.length_append, List.length_take, List.length_drop, hcl, List.length_cons, List.length_nil]; omega
    · rw [pcs_append, ← hct, List.take_append_of_le_length (by simp only [List.length_append, List.length_take, List.length_cons, List.length_nil]; omega), List.take_of_length_le (by simp only [List.length_append, List.length_take, List.length_cons, List.length_nil]; omega)]
      rfl
  unfold maxLen at hcm
  clear h hh hct hr hv hcl hu
  go_enter Try.func61, Try.ntmps61
  go_wp2_with (at_builtin; refine Lib.wpList_append_run _ rfl _ _ _ _ rfl _ _ rfl rfl _ _ (HR.out _) ?_)
  go_ret
  exact ⟨rfl, FIN.out.1, FIN.out.2⟩
set_option maxRecDepth 100000 in
set_option maxHeartbeats 4000000 in
theorem InsertMid_any (base g n c i vb : Nat) (us : List (Value × Int)) (u : Value × Int) (w : World) (h : w.ownsRow base 71 2 (.slice (some ⟨g, 0, none⟩) n c) n (pcs us)) (hi : i < n) (hroom : n + 1 ≤ c) (h1 : ∀ x, x ∈ us → x.1.oneCell' = true) (hu : u.1.oneCell' = true)
    (hv : w.heap[vb]? = some (.cells #[u.1, .int .i64 u.2] 71 (0, 0))) (hvb : vb ≠ g) :
    Calls Try.prog 61 #[.slice (some ⟨g, 0, none⟩) n c, .int .i64 i, .slice (some ⟨vb, 0, none⟩) 1 1] w fun e w' =>
      e = .returned (.slice (some ⟨g, 0, none⟩) (n + 1) c) ∧ w'.ownsRow base 71 2 (.slice (some ⟨g, 0, none⟩) (n + 1) c) (n + 1) (pcs (us.take i ++ u :: us.drop i)) ∧ w.grownBy w' (some g) := by
  obtain ⟨i0, hi0, hz0, hz1, hz2⟩ := info_parts info_parcel
  have hul : us.length = n := by have := h.1; rw [pcs_length] at this; omega
  obtain ⟨cur, hg, hh, hnc, hcm, hcl, hct⟩ := owns2_some h
  have hsz : (Try.prog.info? 71).map (·.size) = some 2 := by rw [hi0]; simp [hz1]
  have hov : ∀ lb cb, (callFunc 66 #[.slice (some ⟨vb, 0, none⟩) 1 1, .slice (some ⟨g, (i + 1) * 2, none⟩) lb cb]).run Try.prog w = .ok (.value (.bool false)) w := fun lb cb => by
    rw [run_callFunc_extern Try.func66 (by kernel_rfl) (by kernel_rfl) (by kernel_rfl) (e := Extern.SlicesOverlaps.overlaps #[68, 68] #[4]) (by kernel_rfl),
      Lib.run_overlaps_apart w 68 4 71 Try.underlying68 2 (fun w => by simp [Go.sizeOf, typeInfo, hi0, hz1]) ⟨vb, 0, none⟩ ⟨g, (i + 1) * 2, none⟩ 1 1 lb cb hvb 71 71 2 (c * 2)
        (by simp [World.shape?, hv]) (by simp [World.shape?, hh, hcl]) (by omega) (frozen_of_row _ _ 0 _ _ hv) (frozen_of_row _ _ 2 _ _ hv)]
    rfl
  have hw1 : IntKind.i64.wrap ((i : Int) + 1) = (i : Int) + 1 := by rw [IntKind.wrap_i64]; unfold maxLen at hcm; omega
  have hb1 : (0 : Int) ≤ (i : Int) + 1 := by omega
  have htn : ((i : Int) + 1).toNat = i + 1 := by omega
  have hb2 : ¬ (c = i + 1) := by omega
  have hb4 : ¬ (c = i) := by omega
  have hb5 : (i : Int) + 1 ≤ (n : Int) + 1 := by omega
  have hb6 : (i : Int) ≤ (n : Int) + 1 := by omega
  have hb7 : i + 1 ≤ n + 1 := by omega
  have hb8 : i ≤ n + 1 := by omega
  have hz2' : ((i : Int) == (n : Int)) = false := by simp; omega
  obtain ⟨mv, hmv⟩ : ∃ mv, mv = pcs (us.drop i) := ⟨_, rfl⟩
  have hml : mv.length = (n - i) * 2 := by rw [hmv, pcs_length, List.length_drop, hul]
  have hmc : ∀ j v, mv[j]? = some v → cur[i * 2 + j]? = some v := by
    intro j v hj
    rw [hmv, pcs_drop, ← hct, List.getElem?_drop, List.getElem?_take] at hj
    split at hj
    · exact hj
    · cases hj
  have hcp1 : ∀ ty dc sc, (Builtin.copy_ #[68, 68] ty #[.slice (some ⟨g, (i + 1) * 2, none⟩) (n - i) dc, .slice (some ⟨g, i * 2, none⟩) (n + 1 - i) sc]).run Try.prog w.drew = .ok (goInt ((n - i : Nat) : Int)) (w.drew.setCells g ((i + 1) * 2) mv) := fun ty dc sc => by
    have hmin : Nat.min (n + 1 - i) (n - i) = n - i := by simp only [Nat.min_def]; split <;> omega
    have := run_copy_two (P := Try.prog) w.drew 68 68 ty 71 g ((i + 1) * 2) (n - i) dc ⟨g, i * 2, none⟩ (n + 1 - i) sc mv Try.underlying68 hsz (by rw [hmin]; exact hml)
      (fun j v hj => by rw [Addr.add_lit]; show w.cell? _ = _; rw [cell_arr hh]; exact hmc j v hj)
      (fun j hj => by show (w.cell? _).isSome = true; rw [cell_arr hh, List.getElem?_eq_getElem (by omega)]; rfl) (fun j hj => frozen_arr (w := w) hh _)
      (by rw [hmv]; exact pcs_one (fun x hx => h1 x (List.mem_of_mem_drop hx)))
    rw [hmin] at this
    exact this
  obtain ⟨W1, hW1⟩ : ∃ W1, W1 = w.drew.setCells g ((i + 1) * 2) mv := ⟨_, rfl⟩
  have hh1 : W1.heap[g]? = some (.cells (cur.take ((i + 1) * 2) ++ mv ++ cur.drop ((i + 1) * 2 + mv.length)).toArray 71 (0, 0)) := by
    rw [hW1]; exact heap_setCells mv ((i + 1) * 2) w.drew cur hh (by omega)
  have hgr1 : w.grownBy W1 (some g) := by rw [hW1]; exact grown_trans (grownBy_drew w _) (grownBy_setCells g _ _ _)
  have hvw : W1.heap[vb]? = some (.cells #[u.1, .int .i64 u.2] 71 (0, 0)) := by
    rw [hgr1.block vb (lt_of_cell (cell_of_row _ _ 0 _ _ _ hv)) (by simpa using hvb)]; exact hv
  have hlen1 : (cur.take ((i + 1) * 2) ++ mv ++ cur.drop ((i + 1) * 2 + mv.length)).length = c * 2 := by
    simp only [List.length_append, List.length_take, List.length_drop]; omega
  obtain ⟨cur1, hcur1⟩ : ∃ cur1, cur1 = cur.take ((i + 1) * 2) ++ mv ++ cur.drop ((i + 1) * 2 + mv.length) := ⟨_, rfl⟩
  rw [← hcur1] at hh1 hlen1
  have hcp2 : ∀ ty dc, (Builtin.copy_ #[68, 68] ty #[.slice (some ⟨g, i * 2, none⟩) (n + 1 - i) dc, .slice (some ⟨vb, 0, none⟩) 1 1]).run Try.prog W1 = .ok (goInt 1) (W1.setCells g (i * 2) [u.1, .int .i64 u.2]) := fun ty dc => by
    have hmin : Nat.min 1 (n + 1 - i) = 1 := by simp only [Nat.min_def]; split <;> omega
    have := run_copy_two (P := Try.prog) W1 68 68 ty 71 g (i * 2) (n + 1 - i) dc ⟨vb, 0, none⟩ 1 1 [u.1, .int .i64 u.2] Try.underlying68 hsz (by rw [hmin]; rfl)
      (fun j x hj => by
        rw [Addr.add_lit, Nat.zero_add, cell_of_row _ _ j _ _ _ hvw]
        match j with
        | 0 => simpa using hj
        | 1 => simpa using hj
        | j + 2 => simp at hj)
      (fun j hj => by rw [cell_arr hh1, List.getElem?_eq_getElem (by simp at hj; omega)]; rfl) (fun j hj => frozen_arr hh1 _)
      (by intro x hx; simp at hx; rcases hx with rfl | rfl; exact hu; rfl)
    rw [hmin] at this
    exact this
  rw [← hW1] at hcp1
  have FIN : Hid ((W1.setCells g (i * 2) [u.1, .int .i64 u.2]).ownsRow base 71 2 (.slice (some ⟨g, 0, none⟩) (n + 1) c) (n + 1) (pcs (us.take i ++ u :: us.drop i)) ∧ w.grownBy (W1.setCells g (i * 2) [u.1, .int .i64 u.2]) (some g)) := by
    refine ⟨owns2_shut hg (heap_setCells _ _ _ _ hh1 (by rw [hlen1]; simp; omega)) hroom hcm ?_ ?_, grown_trans hgr1 (grownBy_setCells g _ _ _)⟩
    · simp only [List.length_append, List.length_take, List.length_drop, hlen1, List.length_cons, List.length_nil]; omega
    · have e1 : cur1.take (i * 2) = cur.take (i * 2) := by
        rw [hcur1, List.append_assoc, List.take_append_of_le_length (by rw [List.length_take]; omega), List.take_take, show min (i * 2) ((i + 1) * 2) = i * 2 by omega]
      have e2 : cur1.drop (i * 2 + [u.1, Value.int .i64 u.2].length) = mv ++ cur.drop ((i + 1) * 2 + mv.length) := by
        rw [hcur1, List.append_assoc]
        exact List.drop_left' (by rw [List.length_take, List.length_cons, List.length_cons, List.length_nil]; omega)
      rw [e1, e2, ← List.append_assoc, List.take_left' (by simp only [List.length_append, List.length_take, List.length_cons, List.length_nil, hml]; omega), pcs_append, pcs_cons, pcs_take, ← hmv, ← hct, List.take_take, show min (i * 2) (n * 2) = i * 2 by omega]
      simp
  unfold maxLen at hcm
  have HC1 := Lib.hid hcp1; have HC2 := Lib.hid hcp2
  clear h hh hct hv hcl hu hcp1 hcp2 hh1 hgr1 hvw hcur1 hlen1 hW1 hmv hml hmc h1 hul hg
  go_enter Try.func61, Try.ntmps61
  go_wp2_with (simp only [hov])
  go_region_law (refine step_copy_runI rfl _ _ 68 68 rfl _ _ (by simp [Act.eval, Act.put]) (by simp [Act.eval, Act.put]) (HC1.out _ (c - (i + 1)) (c - i)) ?_)
  have hc2 := HC2.out 3 (c - i)
  go_wp2
  go_ret
  exact ⟨rfl, FIN.out.1, FIN.out.2⟩
end Go.Proofs.Ytlfcijpkdhdmeaa
