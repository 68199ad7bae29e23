/- The chapter's example (plan). -/
import Derived.Test.YtnlfohbmdmeodaaDoorQD
namespace Go.Proofs.YtnlfohbmdmeodaaDoor
open Go.RowKit Go.By
set_option maxRecDepth 100000 in
set_option maxHeartbeats 1000000 in
theorem awake10 (w : World) : Calls Tryd.prog 6 #[] w fun e w' => e = .returned (.bool true) ∧ Below w.heap.size w w' := by
  have H1 : Hid (∀ w, Calls Tryd.prog 7 #[.int .i64 5, .int .i64 2, .int .u32 7] w fun e w' => e = .returned (.tuple #[.agg #[.int .i64 5, .int .i64 2, .int .i64 3, .int .u32 7], .int .i64 0]) ∧ Below w.heap.size w w') := fun w => POf_any 5 2 7 w (by omega)
  have H2 : Hid (∀ w, Calls Tryd.prog 7 #[.int .i64 0, .int .i64 2, .int .u32 7] w fun e w' => e = .returned (.tuple #[.agg #[.int .i64 0, .int .i64 2, .int .i64 1, .int .u32 7], .int .i64 0]) ∧ Below w.heap.size w w') := fun w => POf_any 0 2 7 w (by omega)
  have H3 : Hid (∀ w, Calls Tryd.prog 14 #[.agg #[.int .i64 5, .int .i64 2, .int .i64 3, .int .u32 7]] w fun e w' => e = .returned (.int .i64 1) ∧ Below w.heap.size w w') := fun w => PPad_any 5 2 3 7 w (by omega)
  have H4 : Hid (∀ w, Calls Tryd.prog 14 #[.agg #[.int .i64 0, .int .i64 2, .int .i64 1, .int .u32 7]] w fun e w' => e = .returned (.int .i64 2) ∧ Below w.heap.size w w') := fun w => PPad_any 0 2 1 7 w (by omega)
  go_enter Tryd.func6, Tryd.ntmps6
  go_wp2_with fail
  refine (H1.out _).mono ?_; rintro e w1 ⟨rfl, hb1⟩
  have k1 := Lib.hid hb1; clear hb1
  go_wp2_with fail
  refine use_wq (fun W => PC4 w1.heap.size 24 5 2 3 7 W ∧ Below w.heap.size w W) ⟨hnew rfl, al k1.out k1.out.size⟩ ?_
  rintro W2 ⟨x1, k2⟩
  refine (H2.out _).mono ?_; rintro e w2 ⟨rfl, hb2⟩
  have X1 := Lib.hid (x1.keep hb2)
  have K2 : Hid (Below w.heap.size w w2) := bl k2 hb2 k2.size
  clear x1 k2 hb2 k1
  obtain ⟨b1, hb1⟩ : ∃ b1, b1 = w1.heap.size := ⟨_, rfl⟩
  rw [← hb1] at X1 ⊢
  clear hb1
  have X1a : Hid (∀ o, PC4 b1 24 5 2 3 7 (w2.alloc o)) := fun o => hal X1.out
  have q2 := fun o => (X1a.out o).cells.2.2.1
  have q0 := fun o => (X1a.out o).cells.1
  have q1 := fun o => (X1a.out o).cells.2.1
  have q3 := fun o => (X1a.out o).cells.2.2.2
  go_wp2_with fail
  refine use_wq (fun W => PC4 w2.heap.size 24 0 2 1 7 W ∧ Below w.heap.size w W) ⟨hnew rfl, al K2.out K2.out.size⟩ ?_
  rintro W3 ⟨x2, k3⟩
  refine (H3.out _).mono ?_; rintro e w3 ⟨rfl, hb3⟩
  obtain ⟨c0, c1, c2, c3⟩ := (x2.keep hb3).cells
  have K3 : Hid (Below w.heap.size w w3) := bl k3 hb3 k3.size
  clear x2 k3 hb3 q0 q1 q2 q3
  go_wp2_with fail
  refine (H4.out _).mono ?_; rintro e w4 ⟨rfl, hb4⟩
  have K4 : Hid (Below w.heap.size w w4) := bl K3.out hb4 K3.out.size
  clear hb4
  go_wp2
  go_ret
  exact ⟨rfl, K4.out⟩
end Go.Proofs.YtnlfohbmdmeodaaDoor
