/- Proof of 'Rows.VecLeadsSaid': the law VecLeads returns true for every input, and every argument reads behind the call as it read before. No condition. -/
import Derived.Test.YthekakfddhgpcaaRows
import Derived.Test.YthekakfddhgpcaaLl
import Derived.Test.YthekakfddhgpcaaB5
import Derived.WalkKit
import Derived.ProofKit
import Derived.OpenShut
import Derived.ShutString
import Derived.ChangeOld
import Derived.Below
import Derived.Deep.Matrix
import Derived.Lib.SmallJoins
namespace Go.Proofs.Ythekakfddhgpcaa.vecLeads
open Go.ChangeShapes Go.WideShapes Go.ChangeAt Go.RowKit
open Go.ChangeMaps (open_string shut_string)
set_option linter.unusedVariables false
theorem own : ownKnob Try.prog.godebug = none := by kernel_rfl
theorem laidOut : laidOutB Try.prog = true := by kernel_rfl
set_option maxRecDepth 100000 in
theorem lifted (os : Os) (started : os.Started) (H : Type) (enc : TypeId × Value → H) :
    ReturnsInHanded {} Try.checked os 8 .any (Rows.vecLeadsSpec.pre6 enc Try.prog Try.f8 Rows.vecLeadsRow.domain false) (Rows.vecLeadsSpec.post enc Try.prog Try.f8 false true false false) := by
  refine returnsInHanded_of_change (C := Try.checked) own started (by kernel_rfl) Try.func8
    (ChangeSpec.witness6 (enc := enc) (C := Try.checked) false ⟨#[], #[.agg #[.slice none 0 0, .slice none 0 0], .agg #[.slice none 0 0, .slice none 0 0]], []⟩ 8 (by kernel_rfl) (by kernel_rfl) (by kernel_rfl) (by kernel_rfl)) ?_
  intro W base args ds gs before hval0 hW hcnd _
  have hval : ∀ (j : Nat) t v, Try.f8.params[j]? = some t → args[j]? = some v → Value.okWide Try.prog W .any base t v := hval0
  have hW' := hW
  obtain ⟨p, q, hA0, hV, rfl, hfz, hnd⟩ := hW
  have hA : DataW.TrodAll enc Try.prog W 0 (fun _ => true) true Try.f8.params.toList args.toList ds p := hA0
  rw [Try.params8] at hA hval
  obtain ⟨v0, vs0, d0, ds0, p0, q0, hargs, rfl, rfl, h0, r0⟩ := trodAll_cons hA
  obtain ⟨v1, vs1, d1, ds1, p1, q1, rfl, rfl, rfl, h1, r1⟩ := trodAll_cons r0
  obtain ⟨rfl, rfl, rfl⟩ := trodAll_nil r1
  obtain rfl : args = #[v0, v1] := by cases args; simp_all
  obtain ⟨rfl, rfl⟩ := trodVars_none hV
  have k0 := h0
  have lt0 : ∀ x ∈ p0, x.block < W.heap.size := by obtain ⟨m, hm⟩ := k0; exact DataW.trod_lt m _ _ _ hm
  obtain ⟨s00, s01, y00, y01, m0, rfl, -, -, hy00, hy01⟩ := Joins.open_agg2 Try.underlying52 (by kernel_rfl) (by kernel_rfl) (hval 0 52 v0 rfl rfl) h0
  obtain ⟨a00, n00, c00, xx0, rfl, w00⟩ : ∃ a n c xs, s00 = .slice a n c ∧ By.Sl By.B8 W a n c xs := by
    rcases open_ints Try.underlying22 Try.underlying5 (by kernel_rfl) hy00 with ⟨hcs, _⟩ | ⟨x, l, c, zs, hcs, _, hl, hm, hz, _, hcell, hwz⟩
    · simp at hcs
      exact ⟨none, 0, 0, [], hcs, By.Sl.nil0 _ _⟩
    · simp at hcs
      obtain ⟨xs, hx⟩ := By.sl_of_row (.inr ⟨_, rfl, hl, hm, by simpa using hz, hcell, hwz⟩)
      exact ⟨_, _, _, xs, hcs, hx⟩
  obtain ⟨a01, n01, c01, xx1, rfl, w01⟩ : ∃ a n c xs, s01 = .slice a n c ∧ By.Sl By.B8 W a n c xs := by
    rcases open_ints Try.underlying22 Try.underlying5 (by kernel_rfl) hy01 with ⟨hcs, _⟩ | ⟨x, l, c, zs, hcs, _, hl, hm, hz, _, hcell, hwz⟩
    · simp at hcs
      exact ⟨none, 0, 0, [], hcs, By.Sl.nil0 _ _⟩
    · simp at hcs
      obtain ⟨xs, hx⟩ := By.sl_of_row (.inr ⟨_, rfl, hl, hm, by simpa using hz, hcell, hwz⟩)
      exact ⟨_, _, _, xs, hcs, hx⟩
  have k1 := h1
  have lt1 : ∀ x ∈ p1, x.block < W.heap.size := by obtain ⟨m, hm⟩ := k1; exact DataW.trod_lt m _ _ _ hm
  obtain ⟨s10, s11, y10, y11, m1, rfl, -, -, hy10, hy11⟩ := Joins.open_agg2 Try.underlying52 (by kernel_rfl) (by kernel_rfl) (hval 1 52 v1 rfl rfl) h1
  obtain ⟨a10, n10, c10, yy0, rfl, w10⟩ : ∃ a n c xs, s10 = .slice a n c ∧ By.Sl By.B8 W a n c xs := by
    rcases open_ints Try.underlying22 Try.underlying5 (by kernel_rfl) hy10 with ⟨hcs, _⟩ | ⟨x, l, c, zs, hcs, _, hl, hm, hz, _, hcell, hwz⟩
    · simp at hcs
      exact ⟨none, 0, 0, [], hcs, By.Sl.nil0 _ _⟩
    · simp at hcs
      obtain ⟨xs, hx⟩ := By.sl_of_row (.inr ⟨_, rfl, hl, hm, by simpa using hz, hcell, hwz⟩)
      exact ⟨_, _, _, xs, hcs, hx⟩
  obtain ⟨a11, n11, c11, yy1, rfl, w11⟩ : ∃ a n c xs, s11 = .slice a n c ∧ By.Sl By.B8 W a n c xs := by
    rcases open_ints Try.underlying22 Try.underlying5 (by kernel_rfl) hy11 with ⟨hcs, _⟩ | ⟨x, l, c, zs, hcs, _, hl, hm, hz, _, hcell, hwz⟩
    · simp at hcs
      exact ⟨none, 0, 0, [], hcs, By.Sl.nil0 _ _⟩
    · simp at hcs
      obtain ⟨xs, hx⟩ := By.sl_of_row (.inr ⟨_, rfl, hl, hm, by simpa using hz, hcell, hwz⟩)
      exact ⟨_, _, _, xs, hcs, hx⟩
  clear hA0 hval0
  have walk := VecLeads_any a00 n00 c00 xx0 a01 n01 c01 xx1 a10 n10 c10 yy0 a11 n11 c11 yy1 W w00 w01 w10 w11
  refine walk.mono fun e W' ⟨he, bel⟩ => ?_
  subst he
  exact ⟨_, rfl, _, _, _, [], _, [], hW', trodAll_mk1 (shut_bool Try.underlying4 _), (trodAll_cons_mk (Below.trod laidOut (by kernel_rfl) (of_decide_eq_true (by kernel_rfl)) k0 bel lt0) (trodAll_cons_mk (Below.trod laidOut (by kernel_rfl) (of_decide_eq_true (by kernel_rfl)) k1 bel lt1) trodAll_mk0)), rfl, bel.frame _, fun h => by cases h⟩
theorem over : Rows.vecLeadsRow.holds Try.pinned (OpenSpec.ofChange Rows.vecLeadsSpec) :=
  OpenClaim.holds_of_wide 8 Try.f8 rfl rfl rfl rfl rfl rfl rfl ⟨rfl, rfl, rfl, rfl, rfl⟩ rfl rfl rfl rfl rfl (by kernel_rfl) Try.func8 (by kernel_rfl)
    (of_decide_eq_true (by kernel_rfl)) (by unfold Func.isWrapper; first | (rw [if_pos (by decide +kernel)]; kernel_rfl) | (rw [if_neg (by decide +kernel)]; exact ⟨rfl, rfl⟩))
    (fun os started H enc _ => lifted os started H enc)
theorem proved : Rows.VecLeadsSaid := over
#print axioms proved
end Go.Proofs.Ythekakfddhgpcaa.vecLeads
