/- The contracts of slices.Delete and slices.Insert at parcels. -/
import Derived.Test.YtlfcijpkdhdmeaaS1
import Derived.Test.YtlfcijpkdhdmeaaA1
import Derived.Deep.RegionLaw
import Derived.Lib.Overlaps
namespace Go.Proofs.Ytlfcijpkdhdmeaa
open Go.RowKit Go.By
theorem info_parcel : (Try.prog.info? 71).map (fun i => (i.zero, i.size, i.bytes)) = some (some (.agg #[.slice none 0 0, .int .i64 0]), 2, 32) := by kernel_rfl
theorem zero_parcel : ∀ w, (zeroValue 71).run Try.prog w = .ok (.agg #[.slice none 0 0, .int .i64 0]) w := fun w => by
  obtain ⟨i0, hi, hz0, hz1, hz2⟩ := info_parts info_parcel
  simp [zeroValue, typeInfo, hi, hz0]
set_option maxRecDepth 100000 in
set_option maxHeartbeats 2000000 in
theorem Delete_any (base g n c i : Nat) (us : List (Value × Int)) (w : World) (h : w.ownsRow base 71 2 (.slice (some ⟨g, 0, none⟩) n c) n (pcs us)) (hi : i < n) (h1 : ∀ u, u ∈ us → u.1.oneCell' = true) :
    Calls Try.prog 60 #[.slice (some ⟨g, 0, none⟩) n c, .int .i64 i, .int .i64 ((i : Int) + 1)] w fun e w' =>
      e = .returned (.slice (some ⟨g, 0, none⟩) (i + (n - (i + 1))) c) ∧ w'.ownsRow base 71 2 (.slice (some ⟨g, 0, none⟩) (n - 1) c) (n - 1) (pcs (us.take i ++ us.drop (i + 1))) ∧ w.grownBy w' (some g) := by
  obtain ⟨i0, hi0, hz0, hz1, hz2⟩ := info_parts info_parcel
  have hul : us.length = n := by have := h.1; rw [pcs_length] at this; omega
  obtain ⟨g', cur, hq, hg, hh, hnc, hcm, hcl, hct⟩ := owns2_open h (by omega)
  cases hq
  unfold maxLen at hcm
  have hic : i ≤ c := by omega
  have hjc : i + 1 ≤ c := by omega
  have hwr : IntKind.i64.wrap ((i : Int) + 1) = (i : Int) + 1 := by rw [IntKind.wrap_i64]; omega
  have hp0 : (0 : Int) ≤ (i : Int) + 1 := by omega
  have hp1 : (i : Int) + 1 ≤ (n : Int) := by omega
  have hp2 : ((i : Int) + 1).toNat = i + 1 := by omega
  have hne : ((i : Int) == (i : Int) + 1) = false := by simp; omega
  obtain ⟨news, hnews⟩ : ∃ news, news = pcs (us.drop (i + 1)) := ⟨_, rfl⟩
  have hlen : news.length = (n - (i + 1)) * 2 := by rw [hnews, pcs_length, List.length_drop, hul]
  have hcut : cur.take (n * 2) = pcs us := hct
  have hnc2 : ∀ j v, news[j]? = some v → cur[(i + 1) * 2 + j]? = some v := by
    intro j v hj
    rw [hnews, pcs_drop, ← hcut, List.getElem?_drop, List.getElem?_take] at hj
    split at hj
    · exact hj
    · cases hj
  obtain ⟨A, hA, hsrc⟩ : ∃ A : Addr, (if c = i + 1 then some (⟨g, 0, none⟩ : Addr) else some ⟨g, (i + 1) * 2, none⟩) = some A ∧ Hid (∀ t u, news[t]? = some u → w.drew.cell? (A.add t) = some u) := by
    by_cases h : c = i + 1
    · refine ⟨⟨g, 0, none⟩, by simp [h], fun t u hu => ?_⟩
      have h0 : news.length = 0 := by rw [hlen]; omega
      rw [List.length_eq_zero_iff.1 h0] at hu
      simp at hu
    · refine ⟨⟨g, (i + 1) * 2, none⟩, by simp [h], fun t u hu => ?_⟩
      rw [Addr.add_lit]
      show w.cell? _ = _
      rw [cell_arr hh]
      exact hnc2 t u hu
  have s1 : Hid (news.length = (n - (i + 1)) * 2) := hlen
  have s2 : Hid (∀ u ∈ news, u.oneCell' = true) := by
    intro u hu
    rw [hnews] at hu
    exact pcs_one (fun x hx => h1 x (List.mem_of_mem_drop hx)) u hu
  have s3 : Hid (∀ t, t < news.length → (w.drew.cell? ⟨g, 0 + i * 2 + t, none⟩).isSome = true ∧ w.drew.frozen? ⟨g, 0 + i * 2 + t, none⟩ = false) := by
    intro t ht
    rw [hlen] at ht
    exact ⟨by show (w.cell? _).isSome = true; rw [cell_arr hh, List.getElem?_eq_getElem (by omega)]; rfl, frozen_arr (w := w) hh _⟩
  obtain ⟨W1, hW1⟩ : ∃ W1, W1 = w.drew.setCells g (0 + i * 2) news := ⟨_, rfl⟩
  have hh1 : W1.heap[g]? = some (.cells (cur.take (i * 2) ++ news ++ cur.drop (i * 2 + news.length)).toArray 71 (0, 0)) := by
    rw [hW1, Nat.zero_add]; exact heap_setCells news (i * 2) w.drew cur hh (by omega)
  have hgr1 : w.grownBy W1 (some g) := by rw [hW1]; exact grown_trans (grownBy_drew w _) (grownBy_setCells g _ _ _)
  have hlen1 : (cur.take (i * 2) ++ news ++ cur.drop (i * 2 + news.length)).length = c * 2 := by
    simp only [List.length_append, List.length_take, List.length_drop]; omega
  obtain ⟨cur1, hcur1⟩ : ∃ cur1, cur1 = cur.take (i * 2) ++ news ++ cur.drop (i * 2 + news.length) := ⟨_, rfl⟩
  rw [← hcur1] at hh1 hlen1
  have hclr : ∀ ty cc, (Builtin.clear_ #[68] ty #[.slice (some ⟨g, (i + (n - (i + 1))) * 2, none⟩) (n - (i + (n - (i + 1)))) cc]).run Try.prog W1 = .ok (.tuple #[]) (W1.setCells g ((n - 1) * 2) [.slice none 0 0, .int .i64 0]) := fun ty cc => by
    have e1 : n - (i + (n - (i + 1))) = 1 := by omega
    have e2 : i + (n - (i + 1)) = n - 1 := by omega
    rw [e1, e2]
    exact run_clear_two W1 _ _ ty _ _ _ Try.underlying68 zero_parcel rfl rfl rfl g ((n - 1) * 2) cc (fun j hj => by rw [cell_arr hh1, List.getElem?_eq_getElem (by omega)]; rfl) (fun j hj => frozen_arr hh1 _)
  have hW : Hid (W1 = w.drew.setCells g (0 + i * 2) news) := hW1
  have FIN : Hid ((W1.setCells g ((n - 1) * 2) [.slice none 0 0, .int .i64 0]).ownsRow base 71 2 (.slice (some ⟨g, 0, none⟩) (n - 1) c) (n - 1) (pcs (us.take i ++ us.drop (i + 1))) ∧ w.grownBy (W1.setCells g ((n - 1) * 2) [.slice none 0 0, .int .i64 0]) (some g)) := by
    refine ⟨owns2_shut hg (heap_setCells _ _ _ _ hh1 (by rw [hlen1]; simp; omega)) (by omega) (by unfold maxLen; omega) ?_ ?_, grown_trans hgr1 (grownBy_setCells g _ _ _)⟩
    · simp only [List.length_append, List.length_take, List.length_drop, hlen1, List.length_cons, List.length_nil]; omega
    · rw [List.append_assoc, List.take_append_of_le_length (by rw [List.length_take, hlen1]; omega), List.take_take, Nat.min_self, hcur1, List.append_assoc, pcs_append, pcs_take, ← hcut, List.take_take, show min (i * 2) (n * 2) = i * 2 by omega,
        List.take_append, List.take_take, List.length_take, show min ((n - 1) * 2) (i * 2) = i * 2 by omega, show (n - 1) * 2 - min (i * 2) cur.length = news.length by omega, List.take_append_of_le_length (Nat.le_refl _), List.take_length, hnews]
  clear h hh hh1 hcut hct hnews hlen hnc2 hgr1 hcur1 hlen1 hW1 hul hg hcl h1
  go_enter Try.func60, Try.ntmps60
  go_wp2_with fail
  go_region_law (refine step_append_room rfl (.tmp 22) (.tmp 25) 68 rfl 71 i0 2 Try.underlying68 hi0 hz1 g 0 i c (by simp [Act.eval, Act.put]) A (n - (i + 1)) (c - (i + 1)) news (by simp [Act.eval, Act.put]) s1.out hsrc.out s2.out (by omega) s3.out ?_; rw [← hW.out])
  go_wp2
  go_ret
  exact ⟨rfl, FIN.out.1, FIN.out.2⟩
end Go.Proofs.Ytlfcijpkdhdmeaa
