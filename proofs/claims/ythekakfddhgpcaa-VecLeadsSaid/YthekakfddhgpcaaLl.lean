/- The walk of the law VecLeads, whole. -/
import Derived.Test.YthekakfddhgpcaaLi
import Derived.Test.YthekakfddhgpcaaLj
import Derived.Test.YthekakfddhgpcaaLk
namespace Go.Proofs.Ythekakfddhgpcaa
open Go.RowKit Go.By
set_option maxRecDepth 100000 in
set_option maxHeartbeats 400000 in
theorem VecLeads_any (p1 : Option Addr) (n1 c1 : Nat) (v : List UInt8) (p2 : Option Addr) (n2 c2 : Nat) (d : List UInt8) (p3 : Option Addr) (n3 c3 : Nat) (x : List UInt8) (p4 : Option Addr) (n4 c4 : Nat) (y : List UInt8) (w : World)
    (h1 : Sl B8 w p1 n1 c1 v) (h2 : Sl B8 w p2 n2 c2 d) (h3 : Sl B8 w p3 n3 c3 x) (h4 : Sl B8 w p4 n4 c4 y) :
    Calls Try.prog 8 #[.agg #[.slice p1 n1 c1, .slice p2 n2 c2], .agg #[.slice p3 n3 c3, .slice p4 n4 c4]] w fun e w' => e = .returned (.bool true) ∧ Below w.heap.size w w' := by
  by_cases hb : (n1 ≤ 100 ∧ n2 ≤ 100) ∧ (n3 ≤ 100 ∧ n4 ≤ 100)
  · obtain ⟨⟨b1, b2⟩, b3, b4⟩ := hb
    by_cases hL : leadS v < 0
    · exact VL_neg _ _ _ _ _ _ _ _ _ _ _ _ v d x y w h1 h2 h3 h4 b1 b2 b3 b4 hL
    have hL := Int.not_lt.1 hL
    by_cases hx : leadS x = leadS v
    · by_cases hn : n1 = n3 ∧ n2 = n4
      · exact VL_yes _ _ _ _ _ _ _ _ _ _ _ _ v d x y w h1 h2 h3 h4 b1 b2 b3 b4 hL hx hn
      · exact VL_no _ _ _ _ _ _ _ _ _ _ _ _ v d x y w h1 h2 h3 h4 b1 b2 b3 b4 hL hx hn
    · exact VL_other _ _ _ _ _ _ _ _ _ _ _ _ v d x y w h1 h2 h3 h4 b1 b2 b3 b4 hL hx
  have B1 := h1.bound; have B2 := h2.bound; have B3 := h3.bound; have B4 := h4.bound
  have B : Hid (n1 ≤ 9223372036854775807 ∧ n2 ≤ 9223372036854775807 ∧ n3 ≤ 9223372036854775807 ∧ n4 ≤ 9223372036854775807) := ⟨B1, B2, B3, B4⟩
  have hB : ∀ o1 o2, Below w.heap.size w ((w.alloc o1).alloc o2) := fun o1 o2 => al (al (Below.refl _ _) (Nat.le_refl _)) (by simp)
  have F : ∀ (w1 : World), Below (w.heap.size + 2) ((w.alloc (.cells #[.slice p1 n1 c1, .slice p2 n2 c2] 52)).alloc (.cells #[.slice p3 n3 c3, .slice p4 n4 c4] 52)) w1 →
      w1.heap[w.heap.size]? = some (.cells #[.slice p1 n1 c1, .slice p2 n2 c2] 52 (0, 0)) ∧ w1.heap[w.heap.size + 1]? = some (.cells #[.slice p3 n3 c3, .slice p4 n4 c4] 52 (0, 0)) := fun w1 h =>
    ⟨(h.block _ (by omega)).trans (hal (hnew rfl)), (h.block _ (by omega)).trans (hnew (by simp))⟩
  have HF := Lib.hid F; have HB := Lib.hid hB
  have F12 : Hid (few3 n1 n2 = true → few3 n3 n4 = false) := by
    intro e1
    simp [few3] at e1 ⊢
    omega
  clear F hB h1 h2 h3 h4 hb B1 B2 B3 B4
  go_enter Try.func8, Try.ntmps8
  go_wp2_with fail
  refine (awake03 _).mono ?_; rintro e w1 ⟨rfl, hw1⟩
  have k1 : Below (w.heap.size + 2) _ w1 := hw1.mono (by simp)
  have i1 := bl (HB.out _ _) hw1 (by simp; omega)
  obtain ⟨f0, f1⟩ := HF.out w1 k1
  obtain ⟨f00, f01⟩ := cells2 f0; obtain ⟨f10, f11⟩ := cells2 f1; clear f0 f1
  have s1 := hw1.size
  simp at s1
  go_wp2_with fail
  refine (OFew_any _ _ _ _ _ _ _ B.out.1 B.out.2.1).mono ?_; rintro e w2 ⟨rfl, hw2⟩
  have k2 := k1.trans (hw2.mono (by omega))
  have i2 := bl i1 hw2 i1.size
  have s2 : w.heap.size + 2 ≤ w2.heap.size := Nat.le_trans s1 hw2.size
  obtain ⟨f0, f1⟩ := HF.out w2 k2
  obtain ⟨f00, f01⟩ := cells2 f0; obtain ⟨f10, f11⟩ := cells2 f1; clear f0 f1
  cases e1 : few3 n1 n2 with
  | true =>
    have E2 := Lib.hid (F12.out e1); clear e1
    go_wp2_with fail
    refine (OFew_any _ _ _ _ _ _ _ B.out.2.2.1 B.out.2.2.2).mono ?_; rintro e w3 ⟨rfl, hw3⟩
    rw [E2.out]
    go_wp2_with fail
    go_ret
    exact ⟨rfl, bl i2 hw3 i2.size⟩
  | false =>
    clear e1
    go_wp2_with fail
    go_ret
    exact ⟨rfl, i2⟩
end Go.Proofs.Ythekakfddhgpcaa
