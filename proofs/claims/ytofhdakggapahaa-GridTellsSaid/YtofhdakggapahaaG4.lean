/- The contracts of grid.Of where rows fit, or are uneven. -/
import Derived.Test.YtofhdakggapahaaG3
import Derived.Deep.RegionWith
namespace Go.Proofs.Ytofhdakggapahaa
open Go.RowKit Go.By
set_option maxRecDepth 100000 in
set_option maxHeartbeats 2000000 in
theorem GOf_good (wd : Nat) (p : Option Addr) (m c : Nat) (xss : List (List UInt8)) (w : World) (h : Sl2 w p m c xss) (h1 : wd ≤ 65536) (h2 : m ≤ 65536) (h3 : m * wd ≤ 65536) (hall : xss.all (fun y => decide (y.length = wd)) = true) :
    Calls Try.prog 11 #[.int .i64 wd, .slice p m c] w (RetG2 5 w m wd xss.flatten 0) := by
  have hinfo := info_grid
  obtain ⟨k, hk⟩ : ∃ k, k = m * wd := ⟨_, rfl⟩
  have wm : IntKind.i64.wrap ((m : Int) * (wd : Int)) = ((k : Nat) : Int) := by rw [hk, ← Int.natCast_mul]; exact Go.IntWalk.i64_in _ (by omega)
  have hfl : xss.flatten.length = m * wd := by
    have : ∀ l : List (List UInt8), (∀ x, x ∈ l → x.length = wd) → l.flatten.length = l.length * wd := by
      intro l
      induction l with
      | nil => simp
      | cons x l ih => intro hx; rw [List.flatten_cons, List.length_append, ih (fun y hy => hx y (by simp [hy])), hx x (by simp), List.length_cons, Nat.add_mul]; omega
    rw [this xss (fun x hx => by simpa using List.all_eq_true.1 hall x hx), h.len]
  have hmb := h.bound
  obtain ⟨vs, hvs, hvv⟩ := h.vals
  have hax := any_vals (n := wd) (hvs.len.trans h.len.symm) hvv
  rw [hall] at hax
  rw [← hk] at h3 hfl
  have H := Lib.hid h; have HV := Lib.hid hvs; have HVV := Lib.hid hvv; have HA := Lib.hid hax
  have HR : Hid (Room xss.flatten.length) := by show Room _; unfold Room; omega
  have HFL := Lib.hid hfl; have HK := Lib.hid hk
  have HB : Hid (∀ o1 o2, Below w.heap.size w ((w.alloc o1).alloc o2)) := fun o1 o2 => al (al (Below.refl _ _) (Nat.le_refl _)) (by simp)
  have hX0 : ∀ o2, ((w.alloc (.cells #[.int .i64 wd] 3)).alloc o2).heap[w.heap.size]? = some (.cells #[.int .i64 wd] 3 (0, 0)) := fun o2 => hal (hnew rfl)
  have HX0 := Lib.hid hX0
  have HX1 : Hid (∀ o1, ((w.alloc o1).alloc (.cells #[.int .i64 0, .int .i64 0, .slice none 0 0] 27)).heap[w.heap.size + 1]? = some (.cells #[.int .i64 0, .int .i64 0, .slice none 0 0] 27 (0, 0))) := fun o1 => hnew (by simp)
  clear h hvs hvv hax hfl hk hX0 hall
  go_enter Try.func11, Try.ntmps11
  go_wp2_with fail
  refine (ContainsFuncBB_any id (lenNe wd) 53 _ enters_of1 p m c vs _ (HV.out.keep (HB.out _ _)) ?_).mono ?_
  · intro v hv
    obtain ⟨i, hi, e⟩ := List.getElem_of_mem hv
    obtain ⟨xs, q, c', hx, rfl, hs⟩ := HVV.out i v (by rw [List.getElem?_eq_getElem hi, e])
    exact Of1_any q _ c' _ wd _ (cell_of_row _ _ 0 _ _ _ (HX0.out _))
  rintro e w' ⟨rfl, rfl⟩
  rw [HA.out]
  go_wp2_with fail
  go_region_with (go_at_call 55; refine (Concat_any p m c xss _ (H.out.keep (HB.out _ _).drew) HR.out).mono ?_; rintro e w2 ⟨q, m', c', hm, rfl, ho, hb2⟩; have E0 := Lib.hid ((hb2.block _ (by simp; omega)).trans (HX0.out _)); have E1 := Lib.hid ((hb2.block _ (by simp)).trans (HX1.out _)); have c0 := cell_of_row _ _ 0 _ _ _ E0.out; obtain ⟨f0, f1, f2⟩ := cells3 E1.out; have g0 := frozen_of_row _ _ 0 _ _ E1.out; have g1 := frozen_of_row _ _ 1 _ _ E1.out; have g2 := frozen_of_row _ _ 2 _ _ E1.out; have HO := Lib.hid ho; have HB2 := Lib.hid hb2; clear ho hb2)
  all_goals
    go_wp2
    refine bodyPost_ret (results_cell_tmp rfl _ _ _ 27 #[.int .i64 m, .int .i64 wd, .slice q m' c'] (0, 0) _ (.int .i64 0) rfl (hss (hss (hss E1.out))) rfl Try.underlying27 rfl hinfo) rfl ⟨q, m', c', by rw [← hm.out, HFL.out, HK.out], rfl, ?_, (((bl (HB.out _ _).drew HB2.out (by simp; omega)).setCell (by simp) _).setCell (by simp) _).setCell (by simp) _⟩
    exact owns_mono (owns_set (owns_set (owns_set HO.out (by simp)) (by simp)) (by simp)) (by simp; omega)
set_option maxRecDepth 100000 in
set_option maxHeartbeats 2000000 in
theorem GOf_uneven (wd : Nat) (p : Option Addr) (m c : Nat) (xss : List (List UInt8)) (w : World) (h : Sl2 w p m c xss) (h1 : wd ≤ 65536) (h2 : m ≤ 65536) (h3 : m * wd ≤ 65536) (hall : xss.all (fun y => decide (y.length = wd)) = false) :
    Calls Try.prog 11 #[.int .i64 wd, .slice p m c] w (RetG2 5 w 0 0 [] 4) := by
  have hinfo := info_grid
  obtain ⟨k, hk⟩ : ∃ k, k = m * wd := ⟨_, rfl⟩
  have wm : IntKind.i64.wrap ((m : Int) * (wd : Int)) = ((k : Nat) : Int) := by rw [hk, ← Int.natCast_mul]; exact Go.IntWalk.i64_in _ (by omega)
  have hmb := h.bound
  obtain ⟨vs, hvs, hvv⟩ := h.vals
  have hax := any_vals (n := wd) (hvs.len.trans h.len.symm) hvv
  rw [hall] at hax
  rw [← hk] at h3
  have HV := Lib.hid hvs; have HVV := Lib.hid hvv; have HA := Lib.hid hax
  have HB : Hid (∀ o1 o2, Below w.heap.size w ((w.alloc o1).alloc o2)) := fun o1 o2 => al (al (Below.refl _ _) (Nat.le_refl _)) (by simp)
  have hX0 : ∀ o2, ((w.alloc (.cells #[.int .i64 wd] 3)).alloc o2).heap[w.heap.size]? = some (.cells #[.int .i64 wd] 3 (0, 0)) := fun o2 => hal (hnew rfl)
  have HX0 := Lib.hid hX0
  have HX1 : Hid (∀ o1, ((w.alloc o1).alloc (.cells #[.int .i64 0, .int .i64 0, .slice none 0 0] 27)).heap[w.heap.size + 1]? = some (.cells #[.int .i64 0, .int .i64 0, .slice none 0 0] 27 (0, 0))) := fun o1 => hnew (by simp)
  clear h hvs hvv hax hk hX0 hall
  go_enter Try.func11, Try.ntmps11
  go_wp2_with fail
  refine (ContainsFuncBB_any id (lenNe wd) 53 _ enters_of1 p m c vs _ (HV.out.keep (HB.out _ _)) ?_).mono ?_
  · intro v hv
    obtain ⟨i, hi, e⟩ := List.getElem_of_mem hv
    obtain ⟨xs, q, c', hx, rfl, hs⟩ := HVV.out i v (by rw [List.getElem?_eq_getElem hi, e])
    exact Of1_any q _ c' _ wd _ (cell_of_row _ _ 0 _ _ _ (HX0.out _))
  rintro e w' ⟨rfl, rfl⟩
  rw [HA.out]
  go_wp2
  refine bodyPost_ret (results_cell_tmp rfl _ _ _ 27 #[.int .i64 0, .int .i64 0, .slice none 0 0] (0, 0) _ (.int .i64 4) rfl (HX1.out _) rfl Try.underlying27 rfl hinfo) rfl (RetG2.zero (HB.out _ _))
end Go.Proofs.Ytofhdakggapahaa
