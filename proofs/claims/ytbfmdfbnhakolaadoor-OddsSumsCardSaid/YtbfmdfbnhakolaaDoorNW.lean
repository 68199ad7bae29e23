/- The laws of numbers: what they carry along. -/
import Derived.Test.YtbfmdfbnhakolaaDoorNT
import Derived.Test.YtbfmdfbnhakolaaDoorR5
namespace Go.By
open Go.RowKit
theorem powW_eq (k : Nat) : powW k = 256 ^ (8 * k) := by
  unfold powW
  rw [show (18446744073709551616 : Nat) = 256 ^ 8 from rfl, ← Nat.pow_mul]
theorem capN_eq {j k : Nat} (hj : j = 512) (hk : k = 8 * j) : capN = 256 ^ k := by
  show powW 512 = _
  rw [← hj, powW_eq, hk]
theorem lt_cap {N k : Nat} (h : N < 256 ^ k) (hk : k ≤ 4096) : N < capN := by
  obtain ⟨j, hj⟩ : ∃ j, j = 512 := ⟨_, rfl⟩
  obtain ⟨i, hi⟩ : ∃ i, i = 8 * j := ⟨_, rfl⟩
  rw [capN_eq hj hi]
  exact Nat.lt_of_lt_of_le h (Nat.pow_le_pow_right (by decide) (by omega))
theorem add_lt256 {M N k : Nat} (h1 : M < 256 ^ k) (h2 : N < 256 ^ k) : M + N < 256 ^ (k + 1) := by
  rw [Nat.pow_succ]; omega
theorem mul_lt256 {M N j k : Nat} (h1 : M < 256 ^ j) (h2 : N < 256 ^ k) : M * N < 256 ^ (j + k) := by
  rw [Nat.pow_add]
  exact Nat.mul_lt_mul'' h1 h2
theorem up256 {N j k : Nat} (h : N < 256 ^ j) (hk : j ≤ k) : N < 256 ^ k := Nat.lt_of_lt_of_le h (Nat.pow_le_pow_right (by decide) hk)
theorem pow_lt256 {N j : Nat} (h : N < 256 ^ j) : ∀ k, N ^ k < 256 ^ (j * k + 1)
  | 0 => by simp
  | k + 1 => by
    have h1 := pow_lt256 h k
    rw [Nat.pow_succ, show j * (k + 1) + 1 = (j * k + 1) + j by rw [Nat.mul_add]; omega]
    exact mul_lt256 h1 h
theorem RetW.ok {T : TypeId} {w w' : World} {N k : Nat} {e : Ending} (h : RetW T w N k e w') (hN : ∀ j, j ≤ k → N ^ j < capN) : RetN T w (N ^ k) e w' := by
  rcases h with h | ⟨⟨j, hj, hc⟩, _⟩
  · exact h.2
  · have := hN j hj; omega
theorem RetD.ok {T : TypeId} {w w' : World} {M N : Nat} {e : Ending} (h : RetD T w M N e w') (hN : N ≤ M) : RetN T w (M - N) e w' := by
  rcases h with h | h
  · exact h.2
  · omega
theorem RetD.less {T : TypeId} {w w' : World} {M N : Nat} {e : Ending} (h : RetD T w M N e w') (hN : M < N) : Ret0 w 2 e w' := by
  rcases h with h | h
  · omega
  · exact h.2
theorem ba1 (w : World) (o : Obj) : Below w.heap.size w (w.alloc o) := al (Below.refl _ _) (Nat.le_refl _)
theorem ba2 (w : World) (o o2 : Obj) : Below w.heap.size w ((w.alloc o).alloc o2) := bl (ba1 w o) (ba1 _ o2) (ba1 w o).size
/-- a box that holds a number -/
def NBox (T U : TypeId) (W : World) (b N : Nat) : Prop := ∃ q n c, W.heap[b]? = some (.cells #[.slice q n c] T (0, 0)) ∧ Ws U W q n c N
theorem NBox.keep {T U : TypeId} {w w' : World} {b N : Nat} (h : NBox T U w b N) (hb : Below w.heap.size w w') : NBox T U w' b N := by
  obtain ⟨q, n, c, k, hw⟩ := h
  exact ⟨q, n, c, (hb.block _ (blk_lt k)).trans k, hw.keep hb⟩
theorem NBox.new {T U : TypeId} {w : World} {q : Option Addr} {n c N : Nat} (h : Ws U w q n c N) : NBox T U (w.alloc (.cells #[.slice q n c] T)) w.heap.size N :=
  ⟨q, n, c, hnew rfl, h.keep (al (Below.refl _ _) (Nat.le_refl _))⟩
/-- what the laws carry along: the numbers' boxes -/
structure NS (T U : TypeId) (w0 : World) (L : List (Nat × Nat)) (W : World) : Prop where
  bel : Below w0.heap.size w0 W
  box : ∀ b N, (b, N) ∈ L → NBox T U W b N
theorem NS.keep {T U : TypeId} {w0 W W' : World} {L : List (Nat × Nat)} (h : NS T U w0 L W) (hb : Below W.heap.size W W') : NS T U w0 L W' := ⟨bl h.bel hb h.bel.size, fun b N hm => (h.box b N hm).keep hb⟩
theorem NS.more {T U : TypeId} {w0 W W' : World} {L : List (Nat × Nat)} {b N : Nat} (h : NS T U w0 L W) (hb : Below W.heap.size W W') (hn : NBox T U W' b N) : NS T U w0 ((b, N) :: L) W' :=
  ⟨bl h.bel hb h.bel.size, fun b' N' hm => by
    rcases List.mem_cons.1 hm with e | hm
    · cases e; exact hn
    · exact (h.box b' N' hm).keep hb⟩
theorem NS.new {T U : TypeId} {w0 w : World} {L : List (Nat × Nat)} {q : Option Addr} {n c N : Nat} (h : NS T U w0 L w) (hw : Ws U w q n c N) : NS T U w0 ((w.heap.size, N) :: L) (w.alloc (.cells #[.slice q n c] T)) :=
  h.more (al (Below.refl _ _) (Nat.le_refl _)) (NBox.new hw)
/-- a call behind a new box and a new block -/
theorem NS.on {T U : TypeId} {w0 w w' : World} {L : List (Nat × Nat)} {q : Option Addr} {n c N : Nat} {o : Obj} (h : NS T U w0 L w) (hw : Ws U w q n c N) (hb : Below ((w.alloc (.cells #[.slice q n c] T)).alloc o).heap.size ((w.alloc (.cells #[.slice q n c] T)).alloc o) w') : NS T U w0 ((w.heap.size, N) :: L) w' :=
  ((h.new hw).keep (al (Below.refl _ _) (Nat.le_refl _))).keep hb
theorem NS.on1 {T U : TypeId} {w0 w w' : World} {L : List (Nat × Nat)} {q : Option Addr} {n c N : Nat} (h : NS T U w0 L w) (hw : Ws U w q n c N) (hb : Below (w.alloc (.cells #[.slice q n c] T)).heap.size (w.alloc (.cells #[.slice q n c] T)) w') : NS T U w0 ((w.heap.size, N) :: L) w' :=
  (h.new hw).keep hb
theorem Ws.on {T : TypeId} {w : World} {q : Option Addr} {n c N : Nat} (h : Ws T w q n c N) {o o2 : Obj} : Ws T ((w.alloc o).alloc o2) q n c N := (h.keep (al (Below.refl _ _) (Nat.le_refl _))).keep (al (Below.refl _ _) (Nat.le_refl _))
theorem Ws.on1 {T : TypeId} {w : World} {q : Option Addr} {n c N : Nat} (h : Ws T w q n c N) {o : Obj} : Ws T (w.alloc o) q n c N := h.keep (al (Below.refl _ _) (Nat.le_refl _))
theorem NS.three {T U : TypeId} {w0 w w' : World} {q1 q2 q3 : Option Addr} {n1 c1 n2 c2 n3 c3 A B C : Nat} {o : Obj} (h : Below w0.heap.size w0 w) (h1 : Ws U w q1 n1 c1 A) (h2 : Ws U w q2 n2 c2 B) (h3 : Ws U w q3 n3 c3 C)
    (hb : Below ((((w.alloc (.cells #[.slice q1 n1 c1] T)).alloc (.cells #[.slice q2 n2 c2] T)).alloc (.cells #[.slice q3 n3 c3] T)).alloc o).heap.size ((((w.alloc (.cells #[.slice q1 n1 c1] T)).alloc (.cells #[.slice q2 n2 c2] T)).alloc (.cells #[.slice q3 n3 c3] T)).alloc o) w') :
    NS T U w0 [(w.heap.size + 1 + 1, C), (w.heap.size + 1, B), (w.heap.size, A)] w' := by
  have s0 : NS T U w0 [] w := ⟨h, fun b N hm => by cases hm⟩
  have s1 := s0.new h1
  have s2 := s1.new h2.on1
  have s3 := s2.on h3.on hb
  simpa using s3
theorem use_wn {P : Program} {f : FuncId} {args : Array Value} {W : World} {Q : Ending → World → Prop} (I : World → Prop) (h : I W) (k : ∀ W', I W' → Calls P f args W' Q) : Calls P f args W Q := k W h
theorem cmpN_self (N : Nat) : cmpN N N = 0 := cmpN_eq rfl
end Go.By
namespace Go.Proofs.YtbfmdfbnhakolaaDoor
open Go.RowKit Go.By
theorem Add2_ok {p : Option Addr} {c M N : Nat} {w : World} (h : Nsl 34 w p 2 c [M, N]) (hc : M + N < capN) : Calls Tryd.prog 13 #[.slice p 2 c] w (RetN 34 w (M + N)) :=
  (Add_any p 2 c _ w h).mono fun e w' hr => by
    have e2 : [M, N].sum = M + N := by simp
    rw [e2] at hr; exact hr.ok hc
theorem Add3_ok {p : Option Addr} {c M N K : Nat} {w : World} (h : Nsl 34 w p 3 c [M, N, K]) (hc : M + N + K < capN) : Calls Tryd.prog 13 #[.slice p 3 c] w (RetN 34 w (M + N + K)) :=
  (Add_any p 3 c _ w h).mono fun e w' hr => by
    have e2 : [M, N, K].sum = M + N + K := by simp [Nat.add_assoc]
    rw [e2] at hr; exact hr.ok hc
theorem Mul2_ok {p : Option Addr} {c M N : Nat} {w : World} (h : Nsl 34 w p 2 c [M, N]) (h1 : M < capN) (hc : M * N < capN) : Calls Tryd.prog 14 #[.slice p 2 c] w (RetN 34 w (M * N)) :=
  (Mul_nat p 2 c _ w h).mono fun e w' hr => (hr.two h1).ok hc
theorem Mul3_ok {p : Option Addr} {c M N K : Nat} {w : World} (h : Nsl 34 w p 3 c [M, N, K]) (h1 : M < capN) (h2 : M * N < capN) (hc : M * N * K < capN) : Calls Tryd.prog 14 #[.slice p 3 c] w (RetN 34 w (M * N * K)) :=
  (Mul_nat p 3 c _ w h).mono fun e w' hr => hr.three h1 h2 hc
theorem Pow_ok {p : Option Addr} {m c N k : Nat} {w : World} (h : Ws 34 w p m c N) (hk : k ≤ 65536) (hN : ∀ j, j ≤ k → N ^ j < capN) : Calls Tryd.prog 44 #[.agg #[.slice p m c], .int .i64 k] w (RetN 34 w (N ^ k)) :=
  (Pow_any p m c N k w h hk).mono fun e w' hr => hr.ok hN
theorem Sub_ok {p q : Option Addr} {n c m d M N : Nat} {w : World} (h1 : Ws 34 w p n c M) (h2 : Ws 34 w q m d N) (hN : N ≤ M) : Calls Tryd.prog 39 #[.agg #[.slice p n c], .agg #[.slice q m d]] w (RetN 34 w (M - N)) :=
  (Sub_nat p q n c m d M N w h1 h2).mono fun e w' hr => hr.ok hN
theorem Cmp_same {p q : Option Addr} {n c m d M N : Nat} {w : World} (h1 : Ws 34 w p n c M) (h2 : Ws 34 w q m d N) (h : M = N) : Calls Tryd.prog 11 #[.agg #[.slice p n c], .agg #[.slice q m d]] w fun e w' => e = .returned (.int .i64 0) ∧ Below w.heap.size w w' := by
  have := Cmp_any p q n c m d M N w h1 h2
  rwa [cmpN_eq h] at this
end Go.Proofs.YtbfmdfbnhakolaaDoor
