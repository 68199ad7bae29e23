/- The walk of the law PlanReads. -/
import Derived.Test.YtnlfohbmdmeodaaDoorQN
import Derived.Test.YtnlfohbmdmeodaaDoorQK
namespace Go.Proofs.YtnlfohbmdmeodaaDoor
open Go.RowKit Go.By
theorem parseV_form (l : List UInt8) : ∃ L S N d f : Int, parseV l = .tuple #[.agg #[.int .i64 L, .int .i64 S, .int .i64 N, .int .u32 d], .int .i64 f] := by
  unfold parseV
  split
  · split
    · exact ⟨_, _, _, _, _, rfl⟩
    · exact ⟨_, _, _, _, _, rfl⟩
  · exact ⟨_, _, _, _, _, rfl⟩
set_option maxRecDepth 100000 in
set_option maxHeartbeats 4000000 in
theorem PlanReads_any (s : ByteArray) (w : World) (ws : s.size ≤ maxLen) (hE : ErrI w) (hM : MaxI w) :
    Calls Tryd.prog 4 #[.string s] w fun e w' => e = .returned (.bool true) ∧ Below w.heap.size w w' := by
  obtain ⟨l, hl⟩ : ∃ l, s = strB l := ⟨_, strB_of s⟩
  obtain ⟨n, hn⟩ : ∃ n, n = s.size := ⟨_, rfl⟩
  have hsz : s.size = n := hn.symm
  have hnl : n = l.length := by rw [hn, hl, strB_size]
  have hmx : (n : Int) ≤ 9223372036854775807 := by have : maxLen = 9223372036854775807 := rfl; omega
  clear ws hn
  by_cases h3 : (300 : Int) < (n : Int)
  · clear hl hnl hE hM
    go_enter Tryd.func4, Tryd.ntmps4
    go_wp2_with fail
    refine Calls.mono (awake10 _) ?_
    rintro e w1 ⟨rfl, hb⟩
    have B1 := Lib.hid hb; clear hb
    go_wp2
    go_ret
    exact ⟨rfl, B1.out⟩
  · have hll : l.length ≤ 1000000 := by omega
    have HP : Hid (∀ W, MaxI W → ErrI W → Calls Tryd.prog 15 #[.string s] W fun e w' => e = .returned (parseV l) ∧ Below W.heap.size W w') := fun W a b => by rw [hl]; exact PParse_any l W hll a b
    have HR : Hid (∀ W, Calls Tryd.prog 16 #[.string s] W fun e w' => e = .returned (parseV l) ∧ Below W.heap.size W w') := fun W => by rw [hl]; exact RParse_any l W hll
    obtain ⟨L, S, N, d, f, hV⟩ := parseV_form l
    rw [hV] at HP HR
    have HE := Lib.hid hE; have HM := Lib.hid hM
    clear hl hnl hll hE hM hV
    go_enter Tryd.func4, Tryd.ntmps4
    go_wp2_with fail
    refine Calls.mono (awake10 _) ?_
    rintro e w1 ⟨rfl, hb⟩
    have B1 := Lib.hid hb; clear hb
    go_wp2_with fail
    refine Calls.mono (HP.out _ (HM.out.keep B1.out) (HE.out.keep B1.out)) ?_
    rintro e w2 ⟨rfl, hb⟩
    have B2 : Hid (Below w.heap.size w w2) := bl B1.out hb B1.out.size
    clear hb
    go_wp2_with fail
    refine use_wq (fun W => PC4 w2.heap.size 24 L S N d W ∧ Below w.heap.size w W) ⟨hnew rfl, al B2.out B2.out.size⟩ ?_
    rintro W3 ⟨x3, k3⟩
    refine Calls.mono (HR.out _) ?_
    rintro e w3 ⟨rfl, hb⟩
    have X3 := Lib.hid (x3.keep hb)
    have B3 : Hid (Below w.heap.size w w3) := bl k3 hb k3.size
    clear x3 k3 hb
    have X3a : Hid (∀ o, PC4 w2.heap.size 24 L S N d (w3.alloc o)) := fun o => hal X3.out
    have q0 := fun o => (X3a.out o).cells.1
    have q1 := fun o => (X3a.out o).cells.2.1
    have q2 := fun o => (X3a.out o).cells.2.2.1
    have q3 := fun o => (X3a.out o).cells.2.2.2
    go_wp2
    go_ret
    exact ⟨by simp, al B3.out B3.out.size⟩
end Go.Proofs.YtnlfohbmdmeodaaDoor
