/- Numbers: Len, Cmp; the library's sums and products of words. -/
import Derived.Test.YtbfmdfbnhakolaaDoorNG
import Derived.Test.YtbfmdfbnhakolaaDoorShelf
import Derived.Shelf.Spec.BitsCarry
namespace Go.By
open Go.RowKit
/-- which is greater -/
def cmpN (M N : Nat) : Int := if M < N then -1 else if N < M then 1 else 0
theorem cmpN_lt {M N : Nat} (h : M < N) : cmpN M N = -1 := by unfold cmpN; rw [if_pos h]
theorem cmpN_gt {M N : Nat} (h : N < M) : cmpN M N = 1 := by unfold cmpN; rw [if_neg (by omega), if_pos h]
theorem cmpN_eq {M N : Nat} (h : M = N) : cmpN M N = 0 := by unfold cmpN; rw [if_neg (by omega), if_neg (by omega)]
theorem valW_shorter {xs ys : List UInt64} (h : NormW ys) (hl : xs.length < ys.length) : valW xs < valW ys :=
  val_len (by decide) (words_lt xs) (by
    rw [List.getLast?_map]
    cases e : ys.getLast? with
    | none => simp
    | some x =>
      intro hx
      have : x.toNat = 0 := by simpa using hx
      have : x = 0 := UInt64.toNat_inj.1 (by simpa using this)
      exact h (by rw [e, this])) (by simpa using hl)
theorem drop_cons {α : Type} {xs : List α} {j : Nat} {x : α} (h : xs[j]? = some x) : xs.drop j = x :: xs.drop (j + 1) := by
  obtain ⟨hj, e⟩ := List.getElem?_eq_some_iff.1 h
  rw [← e, List.getElem_cons_drop hj]
/-- the highest unlike word decides -/
theorem valW_top {xs ys : List UInt64} {j : Nat} {x y : UInt64} (hl : xs.length = ys.length) (hx : xs[j]? = some x) (hy : ys[j]? = some y) (hs : xs.drop (j + 1) = ys.drop (j + 1)) (h : x.toNat < y.toNat) : valW xs < valW ys := by
  have hj := (List.getElem?_eq_some_iff.1 hx).1
  have hj' := (List.getElem?_eq_some_iff.1 hy).1
  have e1 : xs = xs.take j ++ x :: xs.drop (j + 1) := by rw [← drop_cons hx, List.take_append_drop]
  have e2 : ys = ys.take j ++ y :: xs.drop (j + 1) := by rw [hs, ← drop_cons hy, List.take_append_drop]
  rw [e1, e2]
  unfold valW
  rw [List.map_append, List.map_append, List.map_cons, List.map_cons]
  refine val_top (by decide) (fun a ha => ?_) (by simp; omega) h
  exact words_lt (xs.take j) a ha
theorem W64_eq {n : Int} {x : UInt64} (h : n = (x.toNat : Int)) : Value.int .u64 n = W64 x := by rw [h]
theorem bdn {B : Nat} {a w : World} (h : Below B a w) {n : Nat} : Below B a (w.drewN n) := ⟨h.os, h.tape, h.output, h.size, h.block⟩
end Go.By
namespace Go.Proofs.YtbfmdfbnhakolaaDoor
open Go.RowKit Go.By
theorem Len_any (q : Option Addr) (n c N : Nat) (w : World) (h : Ws 34 w q n c N) :
    Calls Tryd.prog 22 #[.agg #[.slice q n c]] w fun e w' => e = .returned (.int .i64 (bytesN N).length) ∧ Below w.heap.size w w' := by
  obtain ⟨ws, hs, hnorm, rfl⟩ := h.ex
  have hle := h.le
  have hnc := hs.le
  have HB : Hid (∀ o, Below w.heap.size w (w.alloc o)) := fun o => al (Below.refl _ _) (Nat.le_refl _)
  rcases Nat.eq_zero_or_pos n with h0 | h0
  · subst h0
    have : ws = [] := List.eq_nil_of_length_eq_zero hs.len
    subst this
    clear h hs hnorm
    go_enter Tryd.func22, Tryd.ntmps22
    go_wp2
    go_ret
    exact ⟨by rw [show valW [] = 0 from rfl, bytesN_zero]; rfl, HB.out _⟩
  · obtain ⟨k, rfl⟩ : ∃ k, n = k + 1 := ⟨n - 1, by omega⟩
    obtain ⟨b, o, x, rfl, hc, hx⟩ := hs.at k (by omega)
    have hc' : ∀ ob, (w.alloc ob).cell? ⟨b, o + k, none⟩ = some (W64 x) := fun ob => (World.cell?_of_block (a := ⟨b, o + k, none⟩) (hal_eq (lt_of_cell hc))).trans hc
    obtain ⟨e1, e2, e3⟩ := normW_bytes hnorm hs.len hx.out
    have hx1 : (x.toNat : Int) ≤ 18446744073709551615 := by have := x.toNat_lt; omega
    obtain ⟨L, hL⟩ : ∃ L, L = Lib.bitLen x.toNat := ⟨_, rfl⟩
    rw [← hL] at e1 e2 e3
    have HL := Lib.hid hL
    have HE := Lib.hid e1
    clear h hs hnorm hc hL e1 h0 hx
    go_enter Tryd.func22, Tryd.ntmps22
    go_wp2_with fail
    refine Calls.mono (Tryd.bits_Len64 _ _ (Int.natCast_nonneg _) hx1) ?_
    rintro e w' ⟨rfl, rfl⟩
    rw [Int.toNat_natCast, ← HL.out]
    go_wp2
    go_ret
    refine ⟨?_, HB.out _⟩
    rw [bytesN_len, HE.out]
    exact congrArg (fun z => Ending.returned (Value.int .i64 z)) (by omega)
set_option maxRecDepth 100000 in
set_option maxHeartbeats 1000000 in
theorem Cmp_any (p q : Option Addr) (n c m d M N : Nat) (w : World) (h1 : Ws 34 w p n c M) (h2 : Ws 34 w q m d N) :
    Calls Tryd.prog 11 #[.agg #[.slice p n c], .agg #[.slice q m d]] w fun e w' => e = .returned (.int .i64 (cmpN M N)) ∧ Below w.heap.size w w' := by
  obtain ⟨xs, hs1, hn1, hv1⟩ := h1.ex
  obtain ⟨ys, hs2, hn2, hv2⟩ := h2.ex
  have hl1 := hs1.len; have hl2 := hs2.len
  have b1 := h1.le; have b2 := h2.le
  have HB : Hid (∀ o o2, Below w.heap.size w ((w.alloc o).alloc o2)) := fun o o2 => al (al (Below.refl _ _) (Nat.le_refl _)) (by simp)
  rcases Nat.lt_trichotomy n m with hlt | heq | hgt
  · have HC : Hid (cmpN M N = -1) := cmpN_lt (by rw [← hv1, ← hv2]; exact valW_shorter hn2 (by omega))
    have hnm : (n : Int) < (m : Int) := by omega
    clear h1 h2 hs1 hs2 hn1 hn2 hl1 hl2 hv1 hv2 hlt
    go_enter Tryd.func11, Tryd.ntmps11
    go_wp2
    go_ret
    exact ⟨by rw [HC.out]; rfl, HB.out _ _⟩
  · subst heq
    have H1 := Lib.hid hs1; have H2 := Lib.hid hs2
    have HV : Hid (valW xs = M ∧ valW ys = N) := ⟨hv1, hv2⟩
    have HLL : Hid (xs.length = n ∧ ys.length = n) := ⟨hl1, hl2⟩
    clear h1 h2 hs1 hs2 hn1 hn2 hv1 hv2 hl1 hl2
    obtain ⟨W, hW⟩ : ∃ W, W = (w.alloc (.cells #[.slice p n c] 29)).alloc (.cells #[.slice q n d] 29) := ⟨_, rfl⟩
    have hbW : Below w.heap.size w W := by rw [hW]; exact HB.out _ _
    have S1 : Hid (Sl W64 W p n c xs) := H1.out.keep hbW
    have S2 : Hid (Sl W64 W q n d ys) := H2.out.keep hbW
    have f1 : W.cell? ⟨w.heap.size, 0, none⟩ = some (.slice p n c) := by rw [hW]; exact cell_of_row _ _ 0 _ _ _ (hal (hnew rfl))
    have f2 : W.cell? ⟨w.heap.size + 1, 0, none⟩ = some (.slice q n d) := by rw [hW]; exact cell_of_row _ _ 0 _ _ _ (hnew (by simp))
    have HBW := Lib.hid hbW; clear hbW
    have HW := Lib.hid hW; clear hW
    go_enter Tryd.func11, Tryd.ntmps11
    go_wp2
    rw [← HW.out]
    go_loopw [25] (fun i wr => ∃ k u : Nat, k ≤ n ∧ i = .int .i64 k ∧ wr = W.drewN u ∧ Hid (xs.drop (n - k) = ys.drop (n - k))) (fun i _ => n - (intOf i).toNat)
    case atStart => exact ⟨0, 0, Nat.zero_le _, rfl, rfl, by show xs.drop _ = ys.drop _; rw [List.drop_of_length_le (by have := HLL.out.1; omega), List.drop_of_length_le (by have := HLL.out.2; omega)]⟩
    case round =>
      obtain ⟨k, u, hk, rfl, rfl, hj⟩ := hrel
      by_cases hlt : k < n
      · obtain ⟨j, hjk⟩ : ∃ j, n = j + k + 1 := ⟨n - 1 - k, by omega⟩
        obtain ⟨b, o, x, rfl, hc, hx⟩ := S1.out.at j (by omega)
        obtain ⟨b', o', y, rfl, hc', hy⟩ := S2.out.at j (by omega)
        have hidx : (n : Int) - 1 - (k : Int) = (j : Int) := by omega
        have hjn : (j : Int) < (n : Int) := by omega
        have hlt' : (k : Int) < (n : Int) := by omega
        have hj' : Hid (xs.drop (j + 1) = ys.drop (j + 1)) := by have := hj.out; rwa [show n - k = j + 1 by omega] at this
        rcases Nat.lt_trichotomy x.toNat y.toNat with h | h | h
        · have HC : Hid (cmpN M N = -1) := cmpN_lt (by rw [← HV.out.1, ← HV.out.2]; exact valW_top (HLL.out.1.trans HLL.out.2.symm) hx.out hy.out hj'.out h)
          have h' : (x.toNat : Int) < (y.toNat : Int) := by omega
          clear h hj hjk hlt
          go_wp2
          go_quiet (fail)
          go_wp2
          go_ret
          exact ⟨by rw [HC.out]; rfl, bdn HBW.out⟩
        · have HN : Hid (xs.drop j = ys.drop j) := by
            have : x = y := UInt64.toNat_inj.1 h
            show xs.drop j = ys.drop j
            rw [drop_cons hx.out, drop_cons hy.out, hj'.out, this]
          have h1 : ¬ (x.toNat : Int) < (y.toNat : Int) := by omega
          have h2 : ¬ (y.toNat : Int) < (x.toNat : Int) := by omega
          have HJ := Lib.hid hjk
          clear h hj hjk hlt
          go_wp2
          go_quiet (fail)
          go_wp2
          go_roundw
          case rel => exact ⟨k + 1, _, by have := HJ.out; omega, by go_num, rfl, by have := HN.out; rwa [show j = n - (k + 1) by have := HJ.out; omega] at this⟩
          case measure => simp [intOf]; have := HJ.out; omega
        · have HC : Hid (cmpN M N = 1) := cmpN_gt (by rw [← HV.out.1, ← HV.out.2]; exact valW_top (HLL.out.2.trans HLL.out.1.symm) hy.out hx.out hj'.out.symm h)
          have h1 : ¬ (x.toNat : Int) < (y.toNat : Int) := by omega
          have h2 : (y.toNat : Int) < (x.toNat : Int) := by omega
          clear h hj hjk hlt
          go_wp2
          go_quiet (fail)
          go_wp2
          go_ret
          exact ⟨by rw [HC.out]; rfl, bdn HBW.out⟩
      · have hkn : k = n := by omega
        subst hkn
        have HC : Hid (cmpN M N = 0) := cmpN_eq (by
          have := hj.out
          rw [Nat.sub_self, List.drop_zero, List.drop_zero] at this
          rw [← HV.out.1, ← HV.out.2, this])
        clear hlt hj
        go_wp2
        go_ret
        exact ⟨by rw [HC.out]; rfl, bdn HBW.out⟩
  · have HC : Hid (cmpN M N = 1) := cmpN_gt (by rw [← hv1, ← hv2]; exact valW_shorter hn1 (by omega))
    have hnm : ¬ (n : Int) < (m : Int) := by omega
    have hnm2 : (m : Int) < (n : Int) := by omega
    clear h1 h2 hs1 hs2 hn1 hn2 hl1 hl2 hv1 hv2 hgt
    go_enter Tryd.func11, Tryd.ntmps11
    go_wp2
    go_ret
    exact ⟨by rw [HC.out]; rfl, HB.out _ _⟩
theorem add64_run (x y c : Int) (hx : 0 ≤ x) (hy : 0 ≤ y) (hc0 : 0 ≤ c) (hc : c ≤ 1) (w : World) : (callFunc 64 #[.int .u64 x, .int .u64 y, .int .u64 c]).run Tryd.prog w =
    .ok (.value (.tuple #[.int .u64 ((x + y + c) % 18446744073709551616), .int .u64 ((x + y + c) / 18446744073709551616)])) w := by
  obtain ⟨x, rfl⟩ := Int.eq_ofNat_of_zero_le hx
  obtain ⟨y, rfl⟩ := Int.eq_ofNat_of_zero_le hy
  obtain ⟨c, rfl⟩ := Int.eq_ofNat_of_zero_le hc0
  rw [run_callFunc_extern Tryd.func64 (by kernel_rfl) (by kernel_rfl) (by kernel_rfl) (e := add64Entry) (by kernel_rfl), run_add64 x y c (by omega) (by omega) (by omega) (by omega)]
  simp only [Result.andThen]
/-- one word of a sum, its parts known -/
theorem add64_ex (x y c : Nat) (hc : c ≤ 1) (hx : x < 18446744073709551616) (hy : y < 18446744073709551616) : ∃ (s : UInt64) (c' : Nat), (∀ w, (callFunc 64 #[.int .u64 x, .int .u64 y, .int .u64 c]).run Tryd.prog w = .ok (.value (.tuple #[W64 s, .int .u64 c'])) w) ∧ c' ≤ 1 ∧ Hid (s.toNat = (x + y + c) % 18446744073709551616 ∧ c' = (x + y + c) / 18446744073709551616) := by
  have e : (UInt64.ofNat ((x + y + c) % 18446744073709551616)).toNat = (x + y + c) % 18446744073709551616 := by
    simp
  refine ⟨UInt64.ofNat ((x + y + c) % 18446744073709551616), (x + y + c) / 18446744073709551616, fun w => ?_, by omega, e, rfl⟩
  rw [add64_run _ _ _ (by omega) (by omega) (by omega) (by omega)]
  have e2 : W64 (UInt64.ofNat ((x + y + c) % 18446744073709551616)) = .int .u64 (((x + y + c) % 18446744073709551616 : Nat) : Int) := by show Value.int .u64 _ = _; rw [e]
  rw [e2]
  congr 5
end Go.Proofs.YtbfmdfbnhakolaaDoor
