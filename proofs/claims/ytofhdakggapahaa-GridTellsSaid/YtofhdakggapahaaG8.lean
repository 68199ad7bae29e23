/- The example of chapter 7. -/
import Derived.Test.YtofhdakggapahaaG4
import Derived.Test.YtofhdakggapahaaG7
import Derived.Test.YtofhdakggapahaaG1
namespace Go.Proofs.Ytofhdakggapahaa
open Go.RowKit Go.By
theorem use_w {P : Program} {f : FuncId} {args : Array Value} {W : World} {Q : Ending → World → Prop} (I : World → Prop) (h : I W) (k : ∀ W', I W' → Calls P f args W' Q) : Calls P f args W Q := k W h
set_option maxRecDepth 100000 in
set_option maxHeartbeats 2000000 in
theorem awake07 (w : World) : Calls Try.prog 9 #[] w fun e w' => e = .returned (.bool true) ∧ Below w.heap.size w w' := by
  have R1 : (kF 2 [1, 2, 2, 4] 2).length = 1 := by decide +kernel
  have R2 : (kF 2 [1, 2, 2, 5] 2).length = 2 := by decide +kernel
  have O1 : Hid (∀ W q c, Sl2 W q 2 c [[1, 2], [2, 4]] → Calls Try.prog 11 #[.int .i64 2, .slice q 2 c] W (RetG2 5 W 2 2 [1, 2, 2, 4] 0)) := fun W q c h => GOf_good 2 q 2 c [[1, 2], [2, 4]] W h (by omega) (by omega) (by omega) (by decide)
  have O2 : Hid (∀ W q c, Sl2 W q 2 c [[1, 2], [2, 5]] → Calls Try.prog 11 #[.int .i64 2, .slice q 2 c] W (RetG2 5 W 2 2 [1, 2, 2, 5] 0)) := fun W q c h => GOf_good 2 q 2 c [[1, 2], [2, 5]] W h (by omega) (by omega) (by omega) (by decide)
  have K1 : Hid (∀ W q c, Sl B8 W q 4 c [1, 2, 2, 4] → Calls Try.prog 20 #[.agg #[.int .i64 2, .int .i64 2, .slice q 4 c]] W fun e w' => e = .returned (.int .i64 1) ∧ Below W.heap.size W w') := fun W q c h => by
    have := Rank_any 2 2 q 4 c [1, 2, 2, 4] W h rfl (by unfold Room; omega) (by omega)
    rw [R1] at this; exact this
  have K2 : Hid (∀ W q c, Sl B8 W q 4 c [1, 2, 2, 5] → Calls Try.prog 20 #[.agg #[.int .i64 2, .int .i64 2, .slice q 4 c]] W fun e w' => e = .returned (.int .i64 2) ∧ Below W.heap.size W w') := fun W q c h => by
    have := Rank_any 2 2 q 4 c [1, 2, 2, 5] W h rfl (by unfold Room; omega) (by omega)
    rw [R2] at this; exact this
  clear R1 R2
  go_enter Try.func9, Try.ntmps9
  go_wp2_with fail
  refine use_w (fun W => Sl2 W (some ⟨w.heap.size + 1 + 1, 0, none⟩) 2 2 [[1, 2], [2, 4]] ∧ Below w.heap.size w W) ⟨sl2_pair (hnew (by simp)) (sl_block [1, 2] 2 (hal (hal (hnew rfl))) rfl rfl (by simp [maxLen])) (sl_block [2, 4] 2 (hal (hnew (by simp))) rfl rfl (by simp [maxLen])), al (al (al (Below.refl _ _) (Nat.le_refl _)) (by simp)) (by simp; omega)⟩ ?_
  rintro W1 ⟨s1, b1⟩
  refine Calls.mono (O1.out _ _ _ s1) ?_
  rintro e w2 ⟨q1, n1, c1, rfl, rfl, o1, hb1⟩
  have S1 := Lib.hid (Sl.of_owns o1)
  have B1 := Lib.hid (bl b1 hb1 b1.size)
  clear s1 b1 o1 hb1 O1
  go_wp2_with fail
  refine use_w (fun W => Sl2 W (some ⟨w2.heap.size + 1 + 1 + 1, 0, none⟩) 2 2 [[1, 2], [2, 5]] ∧ Below w2.heap.size w2 W ∧ W.heap[w2.heap.size]? = some (.cells #[.int .i64 2, .int .i64 2, .slice q1 4 c1] 27 (0, 0))) ⟨sl2_pair (hnew (by simp)) (sl_block [1, 2] 2 (hal (hal (hnew (by simp)))) rfl rfl (by simp [maxLen])) (sl_block [2, 5] 2 (hal (hnew (by simp))) rfl rfl (by simp [maxLen])), al (al (al (al (Below.refl _ _) (Nat.le_refl _)) (by simp)) (by simp; omega)) (by simp; omega), hal (hal (hal (hnew rfl)))⟩ ?_
  rintro W3 ⟨s2, b2, x2⟩
  refine Calls.mono (O2.out _ _ _ s2) ?_
  rintro e w4 ⟨q2, n2, c2, rfl, rfl, o2, hb2⟩
  have S2 := Lib.hid (Sl.of_owns o2)
  have b24 := bl b2 hb2 b2.size
  have S1' := Lib.hid (S1.out.keep b24)
  have X4 : Hid (w4.heap[w2.heap.size]? = some (.cells #[.int .i64 2, .int .i64 2, .slice q1 4 c1] 27 (0, 0))) := (hb2.block _ (blk_lt x2)).trans x2
  have B4 := Lib.hid (bl B1.out b24 B1.out.size)
  clear s2 b2 o2 hb2 O2 x2 S1 B1 b24
  obtain ⟨f0, f1, f2⟩ := cells3 (hal (o := .cells #[.int .i64 2, .int .i64 2, .slice q2 4 c2] 27) X4.out)
  have bal : ∀ (W : World) (o : Obj), Below W.heap.size W (W.alloc o) := fun W o => al (Below.refl _ _) (Nat.le_refl _)
  have HBAL := Lib.hid bal
  clear bal
  go_wp2_with fail
  refine use_w (fun W => Below w4.heap.size w4 W ∧ W.heap[w4.heap.size]? = some (.cells #[.int .i64 2, .int .i64 2, .slice q2 4 c2] 27 (0, 0))) ⟨HBAL.out _ _, hnew rfl⟩ ?_
  rintro W5 ⟨b5, x5⟩
  refine Calls.mono (K1.out _ _ _ (S1'.out.keep b5)) ?_
  rintro e w6 ⟨rfl, hb6⟩
  have S2' := Lib.hid (S2.out.keep (bl b5 hb6 b5.size))
  have X6 := (hb6.block _ (blk_lt x5)).trans x5
  have B6 := Lib.hid (bl B4.out (bl b5 hb6 b5.size) B4.out.size)
  clear f0 f1 f2 S1' S2 X4 B4 b5 x5 hb6 K1 HBAL
  obtain ⟨f0, f1, f2⟩ := cells3 X6
  clear X6
  go_wp2_with fail
  refine Calls.mono (K2.out _ _ _ S2'.out) ?_
  rintro e w7 ⟨rfl, hb7⟩
  have B7 := Lib.hid (bl B6.out hb7 B6.out.size)
  clear f0 f1 f2 S2' B6 hb7 K2
  go_wp2
  go_ret
  exact ⟨rfl, B7.out⟩
end Go.Proofs.Ytofhdakggapahaa
