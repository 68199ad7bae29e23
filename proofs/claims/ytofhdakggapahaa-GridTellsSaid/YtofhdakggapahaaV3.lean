/- The contracts of the rows' functions: Less. -/
import Derived.Test.YtofhdakggapahaaV2
namespace Go.Proofs.Ytofhdakggapahaa
open Go.RowKit Go.By
theorem results_cell_tmp {P : Program} {fn : Func} {p u : Tmp} {ty : TypeId} (h : fn.results = #[.cell p ty, .tmp u]) (tmps : Array Value) (w : World) (g : Nat) (t : TypeId) (cs : Array Value) (fr : Nat × Nat) (d : TypeDesc) (v : Value)
    (hp : tmps.getD p undef = .pointer (some ⟨g, 0, none⟩)) (hg : w.heap[g]? = some (.cells cs t fr)) (hv : tmps.getD u undef = v)
    (hu : P.underlying ty = some d) (hd : (match d with | .struct _ | .array _ _ => true | _ => false) = true) (hi : (P.info? ty).map (·.size) = some cs.size) :
    (results fn tmps).run P w = .ok (.tuple #[.agg cs, v]) w := by
  have hp' : tmps[p]?.getD undef = .pointer (some ⟨g, 0, none⟩) := by simpa using hp
  have hv' : tmps[u]?.getD undef = v := by simpa using hv
  simp [results, h, hp', hv', asAddr, run_loadVar_row w g t ty cs fr d hg hu hd hi]
/-- two results: a row in new memory, and a code -/
def RetR2 (T : TypeId) (w : World) (r : List UInt8 × List UInt8) (code : Int) (e : Ending) (w' : World) : Prop :=
  ∃ q1 m1 c1 q2 m2 c2, Hid (r.1.length = m1) ∧ Hid (r.2.length = m2) ∧ e = .returned (.tuple #[.agg #[.slice q1 m1 c1, .slice q2 m2 c2], .int .i64 code]) ∧
    w'.ownsRow w.heap.size T 1 (.slice q1 m1 c1) m1 (r.1.map B8) ∧ w'.ownsRow w.heap.size T 1 (.slice q2 m2 c2) m2 (r.2.map B8) ∧ Below w.heap.size w w'
def lessS (r : List UInt8 × List UInt8) (c : UInt8) (o : List UInt8 × List UInt8) : (List UInt8 × List UInt8) × Int :=
  if o.1.length = r.1.length ∧ o.2.length = r.2.length then ((axpy c o.1 r.1, axpy c o.2 r.2), 0) else (([], []), 4)
theorem axpyS_yes {c : UInt8} {x y : List UInt8} (h : x.length = y.length) : axpyS c x y = (axpy c x y, 0) := by simp [axpyS, h]
theorem axpyS_no {c : UInt8} {x y : List UInt8} (h : x.length ≠ y.length) : axpyS c x y = ([], 4) := by simp [axpyS, h]
set_option maxRecDepth 100000 in
set_option maxHeartbeats 1000000 in
theorem Less_any (p1 p2 p3 p4 : Option Addr) (n1 c1 n2 c2 n3 c3 n4 c4 : Nat) (v d x y : List UInt8) (c : UInt8) (w : World) (h1 : Sl B8 w p1 n1 c1 v) (h2 : Sl B8 w p2 n2 c2 d) (h3 : Sl B8 w p3 n3 c3 x) (h4 : Sl B8 w p4 n4 c4 y) (r1 : Room n1) (r2 : Room n2) :
    Calls Try.prog 60 #[.agg #[.slice p1 n1 c1, .slice p2 n2 c2], B8 c, .agg #[.slice p3 n3 c3, .slice p4 n4 c4]] w (RetR2 5 w (lessS (v, d) c (x, y)).1 (lessS (v, d) c (x, y)).2) := by
  have hi := info_row
  have H1 := Lib.hid h1; have H2 := Lib.hid h2; have H3 := Lib.hid h3; have H4 := Lib.hid h4
  have hB : ∀ o1 o2 o3, Below w.heap.size w (((w.alloc o1).alloc o2).alloc o3) := fun o1 o2 o3 => al (al (al (Below.refl _ _) (Nat.le_refl _)) (by simp)) (by simp; omega)
  have F : ∀ (w1 : World), (Below (w.heap.size + 3) (((w.alloc (.cells #[.slice p1 n1 c1, .slice p2 n2 c2] 61)).alloc (.cells #[.slice p3 n3 c3, .slice p4 n4 c4] 61)).alloc (.cells #[.slice none 0 0, .slice none 0 0] 61)) w1) →
      w1.heap[w.heap.size]? = some (.cells #[.slice p1 n1 c1, .slice p2 n2 c2] 61 (0, 0)) ∧ w1.heap[w.heap.size + 1]? = some (.cells #[.slice p3 n3 c3, .slice p4 n4 c4] 61 (0, 0)) ∧ w1.heap[w.heap.size + 1 + 1]? = some (.cells #[.slice none 0 0, .slice none 0 0] 61 (0, 0)) := fun w1 h =>
    ⟨(h.block _ (by omega)).trans (hal (hal (hnew rfl))), (h.block _ (by omega)).trans (hal (hnew (by simp))), (h.block _ (by omega)).trans (hnew (by simp))⟩
  have C1 := Lib.hid (fun W a b => Axpy_any c p3 p1 n3 n1 c3 c1 x v W a b r1)
  have C2 := Lib.hid (fun W a b => Axpy_any c p4 p2 n4 n2 c4 c2 y d W a b r2)
  by_cases e1 : n3 = n1
  · have E1 : Hid (axpyS c x v = (axpy c x v, 0)) := axpyS_yes (h3.len.trans (e1.trans h1.len.symm))
    have E1' : Hid (x.length = v.length) := h3.len.trans (e1.trans h1.len.symm)
    have HF := Lib.hid F
    clear F h1 h2 h3 h4 e1
    go_enter Try.func60, Try.ntmps60
    go_wp2_with fail
    refine (C1.out _ (H3.out.keep (hB _ _ _)) (H1.out.keep (hB _ _ _))).mono ?_; rintro e w1 ⟨q1, m1, c1', g1, rfl, ho1, hb1⟩
    rw [E1.out] at ho1 g1 ⊢
    have HO1 := Lib.hid ho1; clear ho1
    have k1 := hb1.mono (show w.heap.size + 3 ≤ _ by simp)
    obtain ⟨f0, f1, f2⟩ := HF.out w1 k1
    have l0 : w1.cell? ⟨w.heap.size, 1, none⟩ = some (.slice p2 n2 c2) := cell_of_row _ _ 1 _ _ _ f0
    have l1 : w1.cell? ⟨w.heap.size + 1, 1, none⟩ = some (.slice p4 n4 c4) := cell_of_row _ _ 1 _ _ _ f1
    have hw1 := bl (hB _ _ _) hb1 (by simp; omega)
    have hs1 := hb1.size
    have f0 := trivial; have f1 := trivial
    clear f2
    go_wp2_with fail
    refine (C2.out w1 (H4.out.keep hw1) (H2.out.keep hw1)).mono ?_; rintro e w2 ⟨q2, m2, c2', g2, rfl, ho2, hb2⟩
    have k2 := k1.trans (hb2.mono (by simp at hs1; omega))
    obtain ⟨_, _, f2⟩ := HF.out w2 k2
    have t0 : w2.cell? ⟨w.heap.size + 1 + 1, 0, none⟩ = some (.slice none 0 0) := cell_of_row _ _ 0 _ _ _ f2
    have t1 : w2.cell? ⟨w.heap.size + 1 + 1, 1, none⟩ = some (.slice none 0 0) := cell_of_row _ _ 1 _ _ _ f2
    have z0 : w2.frozen? ⟨w.heap.size + 1 + 1, 0, none⟩ = false := frozen_of_row _ _ 0 _ _ f2
    have z1 : w2.frozen? ⟨w.heap.size + 1 + 1, 1, none⟩ = false := frozen_of_row _ _ 1 _ _ f2
    have E2 := Lib.hid f2; clear f2
    by_cases e2 : n4 = n2
    · have E3 : Hid (axpyS c y d = (axpy c y d, 0)) := axpyS_yes (H4.out.len.trans (e2.trans H2.out.len.symm))
      have HR : Hid (lessS (v, d) c (x, y) = ((axpy c x v, axpy c y d), 0)) := if_pos ⟨E1'.out, H4.out.len.trans (e2.trans H2.out.len.symm)⟩
      rw [E3.out] at ho2 g2 ⊢
      have HO2 := Lib.hid ho2; clear ho2
      clear e2
      go_wp2
      rw [HR.out]
      refine bodyPost_ret (results_cell_tmp rfl _ _ _ 61 #[.slice q1 m1 c1', .slice q2 m2 c2'] (0, 0) _ (.int .i64 0) rfl (hss (hss E2.out)) rfl Try.underlying61 rfl hi) rfl ⟨q1, m1, c1', q2, m2, c2', g1, g2, rfl, ?_, ?_, ((bl hw1 hb2 hw1.size).setCell (by simp; omega) _).setCell (by simp; omega) _⟩
      · exact owns_mono (owns_set (owns_set (owns_keep HO1.out hb2) (by simp)) (by simp)) (by simp; omega)
      · exact owns_mono (owns_set (owns_set HO2.out (by simp at hs1; omega)) (by simp at hs1; omega)) hw1.size
    · have E3 : Hid (axpyS c y d = ([], 4)) := axpyS_no (by rw [H4.out.len, H2.out.len]; exact e2)
      have HR : Hid (lessS (v, d) c (x, y) = (([], []), 4)) := if_neg (fun h => e2 (H4.out.len.symm.trans (h.2.trans H2.out.len)))
      rw [E3.out] at ho2 g2 ⊢
      clear e2 ho2
      go_wp2
      rw [HR.out]
      refine bodyPost_ret (results_cell_tmp rfl _ _ _ 61 #[.slice none 0 0, .slice none 0 0] (0, 0) _ (.int .i64 4) rfl (hss (hss E2.out)) rfl Try.underlying61 rfl hi) rfl ⟨none, 0, 0, none, 0, 0, rfl, rfl, rfl, World.ownsRow_nil _ _ _ _, World.ownsRow_nil _ _ _ _, ((bl hw1 hb2 hw1.size).setCell (by simp; omega) _).setCell (by simp; omega) _⟩
  · have E1 : Hid (axpyS c x v = ([], 4)) := axpyS_no (by rw [h3.len, h1.len]; exact e1)
    have HR : Hid (lessS (v, d) c (x, y) = (([], []), 4)) := if_neg (fun h => e1 (h3.len.symm.trans (h.1.trans h1.len)))
    have HF := Lib.hid F
    clear F h1 h2 h3 h4 e1
    go_enter Try.func60, Try.ntmps60
    go_wp2_with fail
    refine (C1.out _ (H3.out.keep (hB _ _ _)) (H1.out.keep (hB _ _ _))).mono ?_; rintro e w1 ⟨q1, m1, c1', g1, rfl, ho1, hb1⟩
    rw [E1.out] at ho1 g1 ⊢
    clear ho1
    have k1 := hb1.mono (show w.heap.size + 3 ≤ _ by simp)
    obtain ⟨_, _, f2⟩ := HF.out w1 k1
    have t0 : w1.cell? ⟨w.heap.size + 1 + 1, 0, none⟩ = some (.slice none 0 0) := cell_of_row _ _ 0 _ _ _ f2
    have t1 : w1.cell? ⟨w.heap.size + 1 + 1, 1, none⟩ = some (.slice none 0 0) := cell_of_row _ _ 1 _ _ _ f2
    have z0 : w1.frozen? ⟨w.heap.size + 1 + 1, 0, none⟩ = false := frozen_of_row _ _ 0 _ _ f2
    have z1 : w1.frozen? ⟨w.heap.size + 1 + 1, 1, none⟩ = false := frozen_of_row _ _ 1 _ _ f2
    have E2 := Lib.hid f2; clear f2
    have hw1 := bl (hB _ _ _) hb1 (by simp; omega)
    go_wp2
    rw [HR.out]
    refine bodyPost_ret (results_cell_tmp rfl _ _ _ 61 #[.slice none 0 0, .slice none 0 0] (0, 0) _ (.int .i64 4) rfl (hss (hss E2.out)) rfl Try.underlying61 rfl hi) rfl ⟨none, 0, 0, none, 0, 0, rfl, rfl, rfl, World.ownsRow_nil _ _ _ _, World.ownsRow_nil _ _ _ _, (hw1.setCell (by simp; omega) _).setCell (by simp; omega) _⟩
end Go.Proofs.Ytofhdakggapahaa
