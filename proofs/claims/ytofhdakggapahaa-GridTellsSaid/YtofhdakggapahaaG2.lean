/- The contracts of a grid's parts: blank, row, Width, Height, Same. -/
import Derived.Test.YtofhdakggapahaaG0
import Derived.Test.YtofhdakggapahaaR5
namespace Go.By
open Go.RowKit
theorem cells3 {w : World} {b T : Nat} {u v x : Value} (h : w.heap[b]? = some (.cells #[u, v, x] T (0, 0))) : w.cell? ⟨b, 0, none⟩ = some u ∧ w.cell? ⟨b, 1, none⟩ = some v ∧ w.cell? ⟨b, 2, none⟩ = some x :=
  ⟨cell_of_row _ _ 0 _ _ _ h, cell_of_row _ _ 1 _ _ _ h, cell_of_row _ _ 2 _ _ _ h⟩
theorem Sl.mid {α : Type} {enc : α → Value} {w : World} {b o n c k m : Nat} {xs : List α} (h : Sl enc w (some ⟨b, o, none⟩) n c xs) (hk : k + m ≤ n) : Sl enc w (some ⟨b, o + k, none⟩) m (c - k) ((xs.drop k).take m) := by
  have h1 := h.len; have h2 := h.le; have h3 := h.max
  refine ⟨by rw [List.length_take, List.length_drop]; omega, by omega, by omega, fun e => (by cases e), ?_⟩
  intro i hi
  have hi' : k + i < xs.length := by rw [List.length_take, List.length_drop] at hi; omega
  obtain ⟨b', o', hp, hc⟩ := h.rs (k + i) hi'
  cases hp
  exact ⟨b, o + k, rfl, by rw [show o + k + i = o + (k + i) by omega, hc]; simp⟩
theorem Sl.empty {α : Type} {enc : α → Value} {w : World} {p : Option Addr} {n c : Nat} {xs : List α} (h : Sl enc w p n c xs) : Sl enc w p 0 c ([] : List α) :=
  ⟨rfl, Nat.zero_le _, h.max, fun e => ⟨rfl, (h.nil e).2⟩, Rs.nil⟩
end Go.By
namespace Go.Proofs.Ytofhdakggapahaa
open Go.RowKit Go.By
theorem info_grid : (Try.prog.info? 27).map (·.size) = some 3 := by kernel_rfl
def rowF (wd : Nat) (cells : List UInt8) (i : Nat) : List UInt8 := (cells.drop (i * wd)).take wd
/-- a row, not copied -/
def RetRow (w : World) (p : Option Addr) (wd i : Nat) (cells : List UInt8) (e : Ending) (w' : World) : Prop :=
  ∃ q c', e = .returned (.slice q wd c') ∧ Sl B8 w' q wd c' (rowF wd cells i) ∧ (0 < wd → ∀ g o, p = some ⟨g, o, none⟩ → q = some ⟨g, o + i * wd, none⟩) ∧ Below w.heap.size w w'
set_option maxRecDepth 100000 in
set_option maxHeartbeats 1000000 in
theorem row_any (h wd i : Nat) (p : Option Addr) (n c : Nat) (cells : List UInt8) (w : World) (hs : Sl B8 w p n c cells) (hn : n = h * wd) (hi : i < h) (hb : h ≤ 9223372036854775807) :
    Calls Try.prog 57 #[.agg #[.int .i64 h, .int .i64 wd, .slice p n c], .int .i64 i] w (RetRow w p wd i cells) := by
  have hB : ∀ o, Below w.heap.size w (w.alloc o) := fun o => al (Below.refl _ _) (Nat.le_refl _)
  have HB := Lib.hid hB
  have hmul : (i + 1) * wd ≤ n := by rw [hn]; exact Nat.mul_le_mul_right _ hi
  have hmul2 : (i + 1) * wd = i * wd + wd := Nat.succ_mul _ _
  have hbd := hs.bound
  have w1 : IntKind.i64.wrap ((i : Int) * (wd : Int)) = ((i * wd : Nat) : Int) := by rw [← Int.natCast_mul]; exact Go.IntWalk.i64_in _ (by omega)
  have w2 : IntKind.i64.wrap (((i : Int) + 1) * (wd : Int)) = ((i * wd + wd : Nat) : Int) := by
    rw [← hmul2, Int.natCast_mul, Int.natCast_add]; exact Go.IntWalk.i64_in _ (by rw [← Int.natCast_one, ← Int.natCast_add, ← Int.natCast_mul]; omega)
  have hle := hs.le
  have HS := Lib.hid hs
  have HN := Lib.hid hn
  obtain ⟨k, hk⟩ : ∃ k, k = i * wd := ⟨_, rfl⟩
  rw [← hk] at w1 w2 hmul2
  have HK := Lib.hid hk
  have hk2 : k + wd ≤ n := by omega
  by_cases hw0 : wd = 0
  · subst hw0
    have hk0 : k = 0 := by rw [hk]; simp
    subst hk0
    have HE : Hid (rowF 0 cells i = []) := by show rowF 0 cells i = []; simp [rowF]
    cases p with
    | none =>
      obtain ⟨rfl, rfl⟩ := hs.nil rfl
      clear hs hn hB hk hmul hmul2 hle hk2
      go_enter Try.func57, Try.ntmps57
      go_wp2
      go_ret
      exact ⟨none, 0, rfl, by rw [HE.out]; exact Sl.nil0 _ _, fun h => by omega, HB.out _⟩
    | some ad =>
      clear hs hn hB hk hmul hmul2
      by_cases hc0 : c = 0
      · subst hc0
        go_enter Try.func57, Try.ntmps57
        go_wp2
        go_ret
        exact ⟨_, _, rfl, by rw [HE.out]; simpa using (HS.out.keep (HB.out _)).empty, fun h => by omega, HB.out _⟩
      · have hcp : 0 < c := by omega
        go_enter Try.func57, Try.ntmps57
        go_wp2
        go_ret
        refine ⟨_, _, rfl, by rw [HE.out]; exact ⟨rfl, Nat.zero_le _, by have := HS.out.max; omega, fun e => (by cases e), Rs.nil⟩, fun h => by omega, HB.out _⟩
  · cases p with
    | none => have := hs.nil rfl; omega
    | some ad =>
      obtain ⟨b, o, hp, hc0⟩ := hs.rs 0 (by rw [hs.len]; omega)
      obtain rfl : ad = ⟨b, o, none⟩ := by simpa using hp
      clear hc0 hs hn hB hk hmul hmul2
      have hkc : k < c := by omega
      go_enter Try.func57, Try.ntmps57
      go_wp2
      go_ret
      refine ⟨some ⟨b, o + k, none⟩, c - k, rfl, ?_, fun _ g o' e => by cases e; rw [HK.out], HB.out _⟩
      unfold rowF
      rw [← HK.out]
      exact (HS.out.keep (HB.out _)).mid hk2
set_option maxHeartbeats 400000 in
theorem Width_any (h wd : Nat) (v : Value) (w : World) : Calls Try.prog 14 #[.agg #[.int .i64 h, .int .i64 wd, v]] w fun e w' => e = .returned (.int .i64 wd) ∧ Below w.heap.size w w' := by
  go_enter Try.func14, Try.ntmps14
  go_wp2
  go_ret
  exact ⟨rfl, al (Below.refl _ _) (Nat.le_refl _)⟩
set_option maxHeartbeats 400000 in
theorem Height_any (h wd : Nat) (v : Value) (w : World) : Calls Try.prog 15 #[.agg #[.int .i64 h, .int .i64 wd, v]] w fun e w' => e = .returned (.int .i64 h) ∧ Below w.heap.size w w' := by
  go_enter Try.func15, Try.ntmps15
  go_wp2
  go_ret
  exact ⟨rfl, al (Below.refl _ _) (Nat.le_refl _)⟩
set_option maxRecDepth 100000 in
set_option maxHeartbeats 1000000 in
theorem GSame_any (h1 w1 h2 w2 : Nat) (p1 p2 : Option Addr) (n1 c1 n2 c2 : Nat) (xs ys : List UInt8) (w : World) (s1 : Sl B8 w p1 n1 c1 xs) (s2 : Sl B8 w p2 n2 c2 ys) :
    Calls Try.prog 18 #[.agg #[.int .i64 h1, .int .i64 w1, .slice p1 n1 c1], .agg #[.int .i64 h2, .int .i64 w2, .slice p2 n2 c2]] w fun e w' => e = .returned (.bool (decide (w1 = w2 ∧ h1 = h2 ∧ xs = ys))) ∧ Below w.heap.size w w' := by
  have hB : ∀ o1 o2, Below w.heap.size w ((w.alloc o1).alloc o2) := fun o1 o2 => al (al (Below.refl _ _) (Nat.le_refl _)) (by simp)
  have HB := Lib.hid hB; have S1 := Lib.hid s1; have S2 := Lib.hid s2
  clear hB s1 s2
  by_cases e1 : w1 = w2
  · by_cases e2 : h1 = h2
    · subst e1; subst e2
      have HE : Hid (decide (w1 = w1 ∧ h1 = h1 ∧ xs = ys) = decide (xs = ys)) := by simp [Hid]
      go_enter Try.func18, Try.ntmps18
      go_wp2_with fail
      refine (EqualB_d _ _ _ _ _ _ xs ys _ (S1.out.keep (HB.out _ _)) (S2.out.keep (HB.out _ _))).mono ?_; rintro e w1 ⟨rfl, q, rfl⟩
      generalize decide (xs = ys) = z at HE ⊢
      go_wp2
      go_ret
      exact ⟨by rw [HE.out]; rfl, bdn (HB.out _ _)⟩
    · have HE : Hid (decide (w1 = w2 ∧ h1 = h2 ∧ xs = ys) = false) := by simp [Hid, e2]
      have d1 : ((w1 : Int) == (w2 : Int)) = true := by simp [e1]
      have d2 : ((h1 : Int) == (h2 : Int)) = false := by simp; omega
      clear e1 e2
      go_enter Try.func18, Try.ntmps18
      go_wp2
      go_ret
      exact ⟨by rw [HE.out]; rfl, HB.out _ _⟩
  · have HE : Hid (decide (w1 = w2 ∧ h1 = h2 ∧ xs = ys) = false) := by simp [Hid, e1]
    have d1 : ((w1 : Int) == (w2 : Int)) = false := by simp; omega
    clear e1
    go_enter Try.func18, Try.ntmps18
    go_wp2
    go_ret
    exact ⟨by rw [HE.out]; rfl, HB.out _ _⟩
/-- a grid in new memory -/
def RetG (T : TypeId) (w : World) (h wd : Nat) (cells : List UInt8) (e : Ending) (w' : World) : Prop :=
  ∃ q n c, n = h * wd ∧ e = .returned (.agg #[.int .i64 h, .int .i64 wd, .slice q n c]) ∧ w'.ownsRow w.heap.size T 1 (.slice q n c) n (cells.map B8) ∧ Below w.heap.size w w'
/-- a grid in new memory, and a code -/
def RetG2 (T : TypeId) (w : World) (h wd : Nat) (cells : List UInt8) (code : Int) (e : Ending) (w' : World) : Prop :=
  ∃ q n c, n = h * wd ∧ e = .returned (.tuple #[.agg #[.int .i64 h, .int .i64 wd, .slice q n c], .int .i64 code]) ∧ w'.ownsRow w.heap.size T 1 (.slice q n c) n (cells.map B8) ∧ Below w.heap.size w w'
set_option maxRecDepth 100000 in
set_option maxHeartbeats 1000000 in
theorem blank_any (h wd : Nat) (w : World) (hn : Room (h * wd)) (b1 : h ≤ 9223372036854775807) (b2 : wd ≤ 9223372036854775807) :
    Calls Try.prog 56 #[.int .i64 h, .int .i64 wd] w (RetG 5 w h wd (List.replicate (h * wd) 0)) := by
  obtain ⟨i0, hi, hz0, hz1, hz2⟩ := info_parts info_u8
  have hinfo := info_grid
  obtain ⟨n, hN⟩ : ∃ n, n = h * wd := ⟨_, rfl⟩
  rw [← hN] at hn ⊢
  unfold Room at hn
  have wm : IntKind.i64.wrap ((h : Int) * (wd : Int)) = ((n : Nat) : Int) := by rw [hN, ← Int.natCast_mul]; exact Go.IntWalk.i64_in _ (by rw [← hN]; omega)
  have HM1 : Hid (n ≤ maxLen) := by show n ≤ maxLen; unfold maxLen; omega
  have HM2 : Hid (1 * n ≤ 281474976710656) := by show 1 * n ≤ _; omega
  have HNN := Lib.hid hN
  have HB : Hid (∀ o, Below w.heap.size w (w.alloc o)) := fun o => al (Below.refl _ _) (Nat.le_refl _)
  clear hN
  go_enter Try.func56, Try.ntmps56
  go_wp2_with (at_make; refine wpList_make_full _ rfl _ _ 25 rfl (w.heap.size + 1) 5 i0 (.int .u8 0) 1 Try.underlying25 hi hz0 hz1 .i64 .i64 _ _ n rfl rfl rfl rfl (by rw [hz2]; exact HM2.out) HM1.out (by simp) ?_)
  intro w1 ho hg
  have ho' : w1.ownsRow (w.heap.size + 1) 5 1 (.slice (some ⟨w.heap.size + 1, 0, none⟩) n n) n ((List.replicate n (0 : UInt8)).map B8) := by
    have e : (madeCells #[Value.int .u8 0] n).toList = (List.replicate n (0 : UInt8)).map B8 := by
      rw [List.map_replicate]; exact toList_madeCells_one _ _
    rw [← e]; simpa using ho
  have hb : Below w.heap.size w w1 := (HB.out _).grown hg (by simp) (by simp)
  have e2 : w1.heap[w.heap.size]? = some (.cells #[.int .i64 0, .int .i64 0, .slice none 0 0] 27 (0, 0)) := by
    rw [hg.block _ (by simp) (by simp)]; exact hnew rfl
  obtain ⟨f0, f1, f2⟩ := cells3 e2
  have g0 : w1.frozen? ⟨w.heap.size, 0, none⟩ = false := frozen_of_row _ _ 0 _ _ e2
  have g1 : w1.frozen? ⟨w.heap.size, 1, none⟩ = false := frozen_of_row _ _ 1 _ _ e2
  have g2 : w1.frozen? ⟨w.heap.size, 2, none⟩ = false := frozen_of_row _ _ 2 _ _ e2
  have E2 := Lib.hid e2; have HO := Lib.hid ho'; have HBB := Lib.hid hb
  clear e2 ho ho' hg hb
  go_wp2
  refine bodyPost_ret (results_cell_row rfl _ _ _ 27 #[.int .i64 h, .int .i64 wd, .slice (some ⟨w.heap.size + 1, 0, none⟩) n n] (0, 0) _ rfl (hss (hss (hss E2.out))) Try.underlying27 rfl hinfo) rfl ⟨_, n, n, HNN.out, rfl, ?_, ((HBB.out.setCell (Nat.le_refl _) _).setCell (Nat.le_refl _) _).setCell (Nat.le_refl _) _⟩
  exact owns_mono (owns_set (owns_set (owns_set HO.out (by simp)) (by simp)) (by simp)) (by simp)
end Go.Proofs.Ytofhdakggapahaa
