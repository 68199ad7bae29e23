/- Numbers: Len, Cmp; the library's sums and products of words. The library: FormatUint of base 16. Texts as lists of bytes; builders. Numbers: plus. Numbers: times. Numbers: Add of any. Numbers: Mul of any; Pow. Numbers: Text. The library: ParseUint of base 16, of texts that are numbers of at most sixteen letters. Numbers: Parse. The reference's numbers: Trim, Text. Numbers: Pow, Sub. Numbers: Sub. The laws' small parts on numbers: To, Is, awake. The laws of numbers: what they carry along. A region that draws its order, with one store into a box of one cell of its own (a number): each operation has a shape that lasts. Counts of grids by rank: plain laws. Counts of grids: what their functions carry along. What equations say together: Judge. What equations say together: Judge, where one doesn't fit. Counts of grids: power, Spare, All, without. Counts of grids: Full, Fails. How many solutions there are: Count. The reference's Vectors. The reference's Wide. The reference's Judge. A region with two appends of rows: what stays. The law's Rows: what its region leaves. The law's Rows. Whether chapter 9 is awake. SolveJudges: the walk. SolveJudges: sizes out of range. SolveJudges: sizes within bounds. SolveJudges: whole. Whether symbols hold for equations: Holds. Equations that symbols solve: there is a solution; how many: plain laws. The theorems through the layers: plain law of TopCounts. Arrays of numbers in memory. Counts of grids: OfRank. OddsSums: the walk. OddsSpare: the walk. How many rows of a first byte are combinations of two rows of two bytes: plain law. The theorems through the layers: plain law of TopOdds: draws as vectors; how many of 256 draws add nothing. The theorems through the layers: a sender that is asked for a row of its own, beside a taker. As text RE, of any quiet operation that may slip behind the store. The theorems through the layers: small, few. The theorems through the layers: sent: the packets of an object. The theorems through the layers: ranks: a taker's rank behind draws of an object. OddsSpare: whole. The theorems through the layers: awake. -/
import Derived.Test.YtfbmdlfkipipfaaGreatDoorZd7
import Derived.Shelf.Spec.BitsCarry
import Derived.Lib.ItoaWalk
import Derived.Laws.IdiomStrings
import Derived.Lib.Strings
import Derived.Lib.UnsafeStr
import Derived.Lib.AppendStr
import Derived.Lib.Builder
import Derived.OwnWalk
import Derived.Lib.Repeat
import Derived.Lib.AtoiAllMem
import Derived.Lib.ConvBytes
import Derived.Lib.Walk
import Derived.Laws.Strings3
import Derived.Laws.Closers25
import Derived.Laws.Closers25b
import Derived.BigCall
import Derived.BigGuard
import Derived.Laws.Concat
import Derived.WalkKit
import Derived.IntWalk
import Derived.Deep.RegionLawGrows
namespace Go.By
open Go.RowKit
/-- which is greater -/
def cmpN (M N : Nat) : Int := if M < N then -1 else if N < M then 1 else 0
theorem cmpN_lt {M N : Nat} (h : M < N) : cmpN M N = -1 := by unfold cmpN; rw [if_pos h]
theorem cmpN_gt {M N : Nat} (h : N < M) : cmpN M N = 1 := by unfold cmpN; rw [if_neg (by omega), if_pos h]
theorem cmpN_eq {M N : Nat} (h : M = N) : cmpN M N = 0 := by unfold cmpN; rw [if_neg (by omega), if_neg (by omega)]
theorem valW_shorter {xs ys : List UInt64} (h : NormW ys) (hl : xs.length < ys.length) : valW xs < valW ys :=
  val_len (by decide) (words_lt xs) (by
    rw [List.getLast?_map]
    cases e : ys.getLast? with
    | none => simp
    | some x =>
      intro hx
      have : x.toNat = 0 := by simpa using hx
      have : x = 0 := UInt64.toNat_inj.1 (by simpa using this)
      exact h (by rw [e, this])) (by simpa using hl)
theorem drop_cons {α : Type} {xs : List α} {j : Nat} {x : α} (h : xs[j]? = some x) : xs.drop j = x :: xs.drop (j + 1) := by
  obtain ⟨hj, e⟩ := List.getElem?_eq_some_iff.1 h
  rw [← e, List.getElem_cons_drop hj]
/-- the highest unlike word decides -/
theorem valW_top {xs ys : List UInt64} {j : Nat} {x y : UInt64} (hl : xs.length = ys.length) (hx : xs[j]? = some x) (hy : ys[j]? = some y) (hs : xs.drop (j + 1) = ys.drop (j + 1)) (h : x.toNat < y.toNat) : valW xs < valW ys := by
  have hj := (List.getElem?_eq_some_iff.1 hx).1
  have hj' := (List.getElem?_eq_some_iff.1 hy).1
  have e1 : xs = xs.take j ++ x :: xs.drop (j + 1) := by rw [← drop_cons hx, List.take_append_drop]
  have e2 : ys = ys.take j ++ y :: xs.drop (j + 1) := by rw [hs, ← drop_cons hy, List.take_append_drop]
  rw [e1, e2]
  unfold valW
  rw [List.map_append, List.map_append, List.map_cons, List.map_cons]
  refine val_top (by decide) (fun a ha => ?_) (by simp; omega) h
  exact words_lt (xs.take j) a ha
theorem W64_eq {n : Int} {x : UInt64} (h : n = (x.toNat : Int)) : Value.int .u64 n = W64 x := by rw [h]
theorem bdn {B : Nat} {a w : World} (h : Below B a w) {n : Nat} : Below B a (w.drewN n) := ⟨h.os, h.tape, h.output, h.size, h.block⟩
end Go.By
namespace Go.Proofs.YtfbmdlfkipipfaaGreatDoor
open Go.RowKit Go.By
set_option maxRecDepth 100000 in
set_option maxHeartbeats 1000000 in
theorem Cmp_any (p q : Option Addr) (n c m d M N : Nat) (w : World) (h1 : Ws 44 w p n c M) (h2 : Ws 44 w q m d N) :
    Calls Tryz.prog 22 #[.agg #[.slice p n c], .agg #[.slice q m d]] w fun e w' => e = .returned (.int .i64 (cmpN M N)) ∧ Below w.heap.size w w' := by
  obtain ⟨xs, hs1, hn1, hv1⟩ := h1.ex
  obtain ⟨ys, hs2, hn2, hv2⟩ := h2.ex
  have hl1 := hs1.len; have hl2 := hs2.len
  have b1 := h1.le; have b2 := h2.le
  have HB : Hid (∀ o o2, Below w.heap.size w ((w.alloc o).alloc o2)) := fun o o2 => al (al (Below.refl _ _) (Nat.le_refl _)) (by simp)
  rcases Nat.lt_trichotomy n m with hlt | heq | hgt
  · have HC : Hid (cmpN M N = -1) := cmpN_lt (by rw [← hv1, ← hv2]; exact valW_shorter hn2 (by omega))
    have hnm : (n : Int) < (m : Int) := by omega
    clear h1 h2 hs1 hs2 hn1 hn2 hl1 hl2 hv1 hv2 hlt
    go_enter Tryz.func22, Tryz.ntmps22
    go_wp2
    go_ret
    exact ⟨by rw [HC.out]; rfl, HB.out _ _⟩
  · subst heq
    have H1 := Lib.hid hs1; have H2 := Lib.hid hs2
    have HV : Hid (valW xs = M ∧ valW ys = N) := ⟨hv1, hv2⟩
    have HLL : Hid (xs.length = n ∧ ys.length = n) := ⟨hl1, hl2⟩
    clear h1 h2 hs1 hs2 hn1 hn2 hv1 hv2 hl1 hl2
    obtain ⟨W, hW⟩ : ∃ W, W = (w.alloc (.cells #[.slice p n c] 40)).alloc (.cells #[.slice q n d] 40) := ⟨_, rfl⟩
    have hbW : Below w.heap.size w W := by rw [hW]; exact HB.out _ _
    have S1 : Hid (Sl W64 W p n c xs) := H1.out.keep hbW
    have S2 : Hid (Sl W64 W q n d ys) := H2.out.keep hbW
    have f1 : W.cell? ⟨w.heap.size, 0, none⟩ = some (.slice p n c) := by rw [hW]; exact cell_of_row _ _ 0 _ _ _ (hal (hnew rfl))
    have f2 : W.cell? ⟨w.heap.size + 1, 0, none⟩ = some (.slice q n d) := by rw [hW]; exact cell_of_row _ _ 0 _ _ _ (hnew (by simp))
    have HBW := Lib.hid hbW; clear hbW
    have HW := Lib.hid hW; clear hW
    go_enter Tryz.func22, Tryz.ntmps22
    go_wp2
    rw [← HW.out]
    go_loopw [25] (fun i wr => ∃ k u : Nat, k ≤ n ∧ i = .int .i64 k ∧ wr = W.drewN u ∧ Hid (xs.drop (n - k) = ys.drop (n - k))) (fun i _ => n - (intOf i).toNat)
    case atStart => exact ⟨0, 0, Nat.zero_le _, rfl, rfl, by show xs.drop _ = ys.drop _; rw [List.drop_of_length_le (by have := HLL.out.1; omega), List.drop_of_length_le (by have := HLL.out.2; omega)]⟩
    case round =>
      obtain ⟨k, u, hk, rfl, rfl, hj⟩ := hrel
      by_cases hlt : k < n
      · obtain ⟨j, hjk⟩ : ∃ j, n = j + k + 1 := ⟨n - 1 - k, by omega⟩
        obtain ⟨b, o, x, rfl, hc, hx⟩ := S1.out.at j (by omega)
        obtain ⟨b', o', y, rfl, hc', hy⟩ := S2.out.at j (by omega)
        have hidx : (n : Int) - 1 - (k : Int) = (j : Int) := by omega
        have hjn : (j : Int) < (n : Int) := by omega
        have hlt' : (k : Int) < (n : Int) := by omega
        have hj' : Hid (xs.drop (j + 1) = ys.drop (j + 1)) := by have := hj.out; rwa [show n - k = j + 1 by omega] at this
        rcases Nat.lt_trichotomy x.toNat y.toNat with h | h | h
        · have HC : Hid (cmpN M N = -1) := cmpN_lt (by rw [← HV.out.1, ← HV.out.2]; exact valW_top (HLL.out.1.trans HLL.out.2.symm) hx.out hy.out hj'.out h)
          have h' : (x.toNat : Int) < (y.toNat : Int) := by omega
          clear h hj hjk hlt
          go_wp2
          go_quiet (fail)
          go_wp2
          go_ret
          exact ⟨by rw [HC.out]; rfl, bdn HBW.out⟩
        · have HN : Hid (xs.drop j = ys.drop j) := by
            have : x = y := UInt64.toNat_inj.1 h
            show xs.drop j = ys.drop j
            rw [drop_cons hx.out, drop_cons hy.out, hj'.out, this]
          have h1 : ¬ (x.toNat : Int) < (y.toNat : Int) := by omega
          have h2 : ¬ (y.toNat : Int) < (x.toNat : Int) := by omega
          have HJ := Lib.hid hjk
          clear h hj hjk hlt
          go_wp2
          go_quiet (fail)
          go_wp2
          go_roundw
          case rel => exact ⟨k + 1, _, by have := HJ.out; omega, by go_num, rfl, by have := HN.out; rwa [show j = n - (k + 1) by have := HJ.out; omega] at this⟩
          case measure => simp [intOf]; have := HJ.out; omega
        · have HC : Hid (cmpN M N = 1) := cmpN_gt (by rw [← HV.out.1, ← HV.out.2]; exact valW_top (HLL.out.2.trans HLL.out.1.symm) hy.out hx.out hj'.out.symm h)
          have h1 : ¬ (x.toNat : Int) < (y.toNat : Int) := by omega
          have h2 : (y.toNat : Int) < (x.toNat : Int) := by omega
          clear h hj hjk hlt
          go_wp2
          go_quiet (fail)
          go_wp2
          go_ret
          exact ⟨by rw [HC.out]; rfl, bdn HBW.out⟩
      · have hkn : k = n := by omega
        subst hkn
        have HC : Hid (cmpN M N = 0) := cmpN_eq (by
          have := hj.out
          rw [Nat.sub_self, List.drop_zero, List.drop_zero] at this
          rw [← HV.out.1, ← HV.out.2, this])
        clear hlt hj
        go_wp2
        go_ret
        exact ⟨by rw [HC.out]; rfl, bdn HBW.out⟩
  · have HC : Hid (cmpN M N = 1) := cmpN_gt (by rw [← hv1, ← hv2]; exact valW_shorter hn1 (by omega))
    have hnm : ¬ (n : Int) < (m : Int) := by omega
    have hnm2 : (m : Int) < (n : Int) := by omega
    clear h1 h2 hs1 hs2 hn1 hn2 hl1 hl2 hv1 hv2 hgt
    go_enter Tryz.func22, Tryz.ntmps22
    go_wp2
    go_ret
    exact ⟨by rw [HC.out]; rfl, HB.out _ _⟩
theorem add64_run (x y c : Int) (hx : 0 ≤ x) (hy : 0 ≤ y) (hc0 : 0 ≤ c) (hc : c ≤ 1) (w : World) : (callFunc 118 #[.int .u64 x, .int .u64 y, .int .u64 c]).run Tryz.prog w =
    .ok (.value (.tuple #[.int .u64 ((x + y + c) % 18446744073709551616), .int .u64 ((x + y + c) / 18446744073709551616)])) w := by
  obtain ⟨x, rfl⟩ := Int.eq_ofNat_of_zero_le hx
  obtain ⟨y, rfl⟩ := Int.eq_ofNat_of_zero_le hy
  obtain ⟨c, rfl⟩ := Int.eq_ofNat_of_zero_le hc0
  rw [run_callFunc_extern Tryz.func118 (by kernel_rfl) (by kernel_rfl) (by kernel_rfl) (e := add64Entry) (by kernel_rfl), run_add64 x y c (by omega) (by omega) (by omega) (by omega)]
  simp only [Result.andThen]
/-- one word of a sum, its parts known -/
theorem add64_ex (x y c : Nat) (hc : c ≤ 1) (hx : x < 18446744073709551616) (hy : y < 18446744073709551616) : ∃ (s : UInt64) (c' : Nat), (∀ w, (callFunc 118 #[.int .u64 x, .int .u64 y, .int .u64 c]).run Tryz.prog w = .ok (.value (.tuple #[W64 s, .int .u64 c'])) w) ∧ c' ≤ 1 ∧ Hid (s.toNat = (x + y + c) % 18446744073709551616 ∧ c' = (x + y + c) / 18446744073709551616) := by
  have e : (UInt64.ofNat ((x + y + c) % 18446744073709551616)).toNat = (x + y + c) % 18446744073709551616 := by
    simp
  refine ⟨UInt64.ofNat ((x + y + c) % 18446744073709551616), (x + y + c) / 18446744073709551616, fun w => ?_, by omega, e, rfl⟩
  rw [add64_run _ _ _ (by omega) (by omega) (by omega) (by omega)]
  have e2 : W64 (UInt64.ofNat ((x + y + c) % 18446744073709551616)) = .int .u64 (((x + y + c) % 18446744073709551616 : Nat) : Int) := by show Value.int .u64 _ = _; rw [e]
  rw [e2]
  congr 5
end Go.Proofs.YtfbmdlfkipipfaaGreatDoor
namespace Go.By
open Go.RowKit
end Go.By
namespace Go.Proofs.YtfbmdlfkipipfaaGreatDoor
open Go.RowKit Go.By
end Go.Proofs.YtfbmdlfkipipfaaGreatDoor
namespace Go.By
open Go.RowKit
theorem BuilderAt.keep {T e : TypeId} {B b : Nat} {p : Value} {bs : List Value} {w w' : World} (h : Lib.BuilderAt T e B b p bs w) (hb : Below w.heap.size w w') : Lib.BuilderAt T e B b p bs w' := by
  obtain ⟨h1, v, h2, h3, h4⟩ := h
  obtain ⟨q, c, rfl⟩ := owns_shape h3
  exact ⟨h1, _, (hb.block _ (lt_of_block h2)).trans h2, owns_keep h3 hb, h4⟩
end Go.By
namespace Go.By
open Go.RowKit
theorem valW_take {xs : List UInt64} {k : Nat} {x : UInt64} (h : xs[k]? = some x) : valW (xs.take (k + 1)) = valW (xs.take k) + 18446744073709551616 ^ k * x.toNat := by
  unfold valW
  rw [List.map_take, List.map_take]
  exact valD_take (by rw [List.getElem?_map, h]; rfl)
theorem valW_take_none {xs : List UInt64} {k : Nat} (h : xs.length ≤ k) : valW (xs.take (k + 1)) = valW (xs.take k) := by
  rw [List.take_of_length_le (by omega), List.take_of_length_le h]
theorem valW_take_all {xs : List UInt64} {k : Nat} (h : xs.length ≤ k) : valW (xs.take k) = valW xs := by rw [List.take_of_length_le h]
theorem valW_set_take {S : List UInt64} {k : Nat} {s : UInt64} (h : k < S.length) : valW ((S.set k s).take (k + 1)) = valW (S.take k) + 18446744073709551616 ^ k * s.toNat := by
  rw [valW_take (k := k) (x := s) (by rw [List.getElem?_set, if_pos rfl, if_pos h])]
  rw [List.take_set_of_le (Nat.le_refl k)]
theorem valW_zeros (k : Nat) : valW (List.replicate k 0) = 0 := by
  unfold valW
  rw [List.map_replicate]
  exact valD_zeros _ k
/-- words in new memory -/
def RetWs (T : TypeId) (w : World) (n N : Nat) (e : Ending) (w' : World) : Prop :=
  ∃ S : List UInt64, e = .returned (.slice (some ⟨w.heap.size, 0, none⟩) n n) ∧ w'.ownsRow w.heap.size T 1 (.slice (some ⟨w.heap.size, 0, none⟩) n n) n (S.map W64) ∧ valW S = N ∧ Below w.heap.size w w'
theorem lies_of_owns {w : World} {base T n c : Nat} {q : Option Addr} {ys : List Value} (h : w.ownsRow base T 1 (.slice q n c) n ys) : Lies T w q := by
  intro a ha
  rcases h.2 with ⟨h2, _⟩ | ⟨g, cap, cur, hv, hb, hg, _⟩
  · rw [ha] at h2; cases h2
  · obtain ⟨rfl, rfl⟩ : q = some ⟨g, 0, none⟩ ∧ c = cap := by simpa using hv
    obtain rfl := Option.some.inj ha
    exact ⟨_, _, hg⟩
end Go.By
namespace Go.Proofs.YtfbmdlfkipipfaaGreatDoor
open Go.RowKit Go.By
end Go.Proofs.YtfbmdlfkipipfaaGreatDoor
namespace Go.By
open Go.RowKit
theorem valW_set {S : List UInt64} {k : Nat} {s p : UInt64} (h : S[k]? = some p) : valW (S.set k s) + 18446744073709551616 ^ k * p.toNat = valW S + 18446744073709551616 ^ k * s.toNat := by
  unfold valW
  rw [List.map_set]
  exact valD_set _ _ _ _ (by rw [List.getElem?_map, h]; rfl)
theorem mul_parts {a y p c hi lo l1 c1 l2 c2 : Nat} (h0 : hi * 18446744073709551616 + lo = a * y) (h1 : l1 = (lo + p + 0) % 18446744073709551616) (g1 : c1 = (lo + p + 0) / 18446744073709551616) (h2 : l2 = (l1 + c + 0) % 18446744073709551616) (g2 : c2 = (l1 + c + 0) / 18446744073709551616) :
    l2 = (a * y + p + c) % 18446744073709551616 ∧ hi + c1 + c2 = (a * y + p + c) / 18446744073709551616 := by
  rw [← h0]; omega
end Go.By
namespace Go.Proofs.YtfbmdlfkipipfaaGreatDoor
open Go.RowKit Go.By
theorem mul64_ex (x y : UInt64) : ∃ hi lo : UInt64, (∀ w, Calls Tryz.prog 117 #[W64 x, W64 y] w fun e w' => e = .returned (.tuple #[W64 hi, W64 lo]) ∧ w' = w) ∧ Hid (hi.toNat * 18446744073709551616 + lo.toNat = x.toNat * y.toNat) := by
  have hx := x.toNat_lt; have hy := y.toNat_lt
  have hxy : x.toNat * y.toNat < 18446744073709551616 * 18446744073709551616 := Nat.mul_lt_mul'' hx hy
  obtain ⟨z, hz⟩ : ∃ z, z = x.toNat * y.toNat := ⟨_, rfl⟩
  rw [← hz] at hxy ⊢
  have e1 : (UInt64.ofNat (z / 18446744073709551616)).toNat = z / 18446744073709551616 := by simp; omega
  have e2 : (UInt64.ofNat (z % 18446744073709551616)).toNat = z % 18446744073709551616 := by simp
  refine ⟨UInt64.ofNat (z / 18446744073709551616), UInt64.ofNat (z % 18446744073709551616), fun w => ?_, ?_⟩
  · refine (Tryz.bits_Mul64 x.toNat y.toNat hx hy w).mono ?_
    rintro e w' ⟨rfl, rfl⟩
    rw [← hz]
    exact ⟨by rw [← W64_eq (congrArg Int.ofNat e1.symm), ← W64_eq (congrArg Int.ofNat e2.symm)]; rfl, rfl⟩
  · show _ = z
    rw [e1, e2]; omega
set_option maxRecDepth 100000 in
set_option maxHeartbeats 2000000 in
theorem timesN_any (p q : Option Addr) (n c m d : Nat) (xs ys : List UInt64) (w : World) (h1 : Sl W64 w p n c xs) (h2 : Sl W64 w q m d ys) (hn : n ≤ 1000000) (hm : m ≤ 1000000) :
    Calls Tryz.prog 66 #[.slice p n c, .slice q m d] w (RetWs 44 w (n + m) (valW xs * valW ys)) := by
  obtain ⟨i0, hi, hz0, hz1, hz2⟩ := info_parts info_u64
  have HM1 : Hid (n + m ≤ maxLen) := by show n + m ≤ maxLen; unfold maxLen; omega
  have HM2 : Hid (8 * (n + m) ≤ 281474976710656) := by show 8 * (n + m) ≤ _; omega
  have HL : Hid (xs.length = n ∧ ys.length = m) := ⟨h1.len, h2.len⟩
  have H1 := Lib.hid h1; have H2 := Lib.hid h2
  clear h1 h2
  go_enter Tryz.func66, Tryz.ntmps66
  go_wp2_with (at_make; refine wpList_make_full _ rfl _ _ 38 rfl w.heap.size 44 i0 (.int .u64 0) 1 Tryz.underlying38 hi hz0 hz1 .i64 .i64 _ _ (n + m) rfl rfl (by simp) (by simp) (by rw [hz2]; exact HM2.out) HM1.out (Nat.le_refl _) ?_)
  intro w1 ho hg
  have HO : Hid (w1.ownsRow w.heap.size 44 1 (.slice (some ⟨w.heap.size, 0, none⟩) (n + m) (n + m)) (n + m) ((List.replicate (n + m) (0 : UInt64)).map W64)) := by
    have e : (madeCells #[Value.int .u64 0] (n + m)).toList = (List.replicate (n + m) (0 : UInt64)).map W64 := by rw [List.map_replicate]; exact toList_madeCells_one _ _
    show World.ownsRow _ _ _ _ _ _ _
    rw [← e]; simpa using ho
  have HB : Hid (Below w.heap.size w w1) := (Below.refl _ _).grown hg (Nat.le_refl _) (by simp)
  clear ho hg
  go_wp2
  go_loopw [20] (fun i wr => ∃ (k : Nat) (S : List UInt64), k ≤ n ∧ i = .int .i64 k ∧ Hid (S.length = n + m) ∧ Hid (wr.ownsRow w.heap.size 44 1 (.slice (some ⟨w.heap.size, 0, none⟩) (n + m) (n + m)) (n + m) (S.map W64)) ∧ Hid (valW S = valW (xs.take k) * valW ys) ∧ Hid (∀ j, k + m ≤ j → j < n + m → S[j]? = some 0) ∧ Hid (Below w.heap.size w wr)) (fun i _ => n - (intOf i).toNat)
  case atStart => exact ⟨0, _, Nat.zero_le _, rfl, by simp [Hid], HO.out, by show valW _ = valW (xs.take 0) * _; rw [valW_zeros, List.take_zero, show valW [] = 0 from rfl, Nat.zero_mul], fun j _ hj => List.getElem?_replicate_of_lt hj, HB.out⟩
  case round =>
    clear HO HB
    obtain ⟨k, S, hk, rfl, hSl, hO, hV, hZ, hB⟩ := hrel
    by_cases hlt : k < n
    · obtain ⟨b, o, x, rfl, hc, hx⟩ := H1.out.at k hlt
      have HC := Lib.hid hc
      obtain ⟨wo, hwo⟩ : ∃ wo : World, wo = wr := ⟨_, rfl⟩
      have hlt' : (k : Int) < (n : Int) := by omega
      have ST : Hid (S.length = n + m ∧ wr.ownsRow w.heap.size 44 1 (.slice (some ⟨w.heap.size, 0, none⟩) (n + m) (n + m)) (n + m) (S.map W64) ∧ valW S + 18446744073709551616 ^ (k + 0) * 0 = valW S + 18446744073709551616 ^ k * (x.toNat * valW (ys.take 0)) ∧ Below w.heap.size w wr) := ⟨hSl.out, hO.out, by rw [List.take_zero, show valW [] = 0 from rfl]; simp, hB.out⟩
      obtain ⟨V0, hV0⟩ : ∃ V0, V0 = valW S := ⟨_, rfl⟩
      have HV0 : Hid (V0 = valW (xs.take k) * valW ys) := hV0.trans hV.out
      have ST2 : Hid (∃ S' : List UInt64, S'.length = n + m ∧ wr.ownsRow w.heap.size 44 1 (.slice (some ⟨w.heap.size, 0, none⟩) (n + m) (n + m)) (n + m) (S'.map W64) ∧ valW S' + 18446744073709551616 ^ (k + 0) * 0 = V0 + 18446744073709551616 ^ k * (x.toNat * valW (ys.take 0)) ∧ (∀ j, k + m ≤ j → j < n + m → S'[j]? = some 0) ∧ Below w.heap.size w wr) := ⟨S, ST.out.1, ST.out.2.1, by rw [hV0]; exact ST.out.2.2.1, hZ.out, hB.out⟩
      clear hc hO hSl hB hV hZ ST hV0
      clear S
      go_wp2
      go_loopw [25, 7] (fun i cv wr => ∃ (j cy : Nat) (S : List UInt64), j ≤ m ∧ i = .int .i64 j ∧ cv = .int .u64 cy ∧ cy < 18446744073709551616 ∧ Hid (S.length = n + m) ∧ Hid (wr.ownsRow w.heap.size 44 1 (.slice (some ⟨w.heap.size, 0, none⟩) (n + m) (n + m)) (n + m) (S.map W64)) ∧ Hid (valW S + 18446744073709551616 ^ (k + j) * cy = V0 + 18446744073709551616 ^ k * (x.toNat * valW (ys.take j))) ∧ Hid (∀ j, k + m ≤ j → j < n + m → S[j]? = some 0) ∧ Hid (Below w.heap.size w wr)) (fun i _ _ => m - (intOf i).toNat)
      case atStart =>
        obtain ⟨S, g1, g2, g3, g4, g5⟩ := ST2.out
        exact ⟨0, 0, S, Nat.zero_le _, rfl, rfl, by decide, g1, g2, g3, g4, g5⟩
      case round =>
        clear ST2
        obtain ⟨j, cy, S, hj, rfl, rfl, hcy, hSl, hO, hV, hZ, hB⟩ := hrel
        by_cases hjm : j < m
        · obtain ⟨b', o', y, rfl, hcy2, hy⟩ := H2.out.at j hjm
          have cX := (hB.out.cell (p := ⟨b, o + k, none⟩) (lt_of_cell HC.out)).trans HC.out
          have cY := (hB.out.cell (p := ⟨b', o' + j, none⟩) (lt_of_cell hcy2)).trans hcy2
          obtain ⟨pr, hpr⟩ : ∃ pr, S[k + j]? = some pr := ⟨S[k + j]'(by rw [hSl.out]; omega), List.getElem?_eq_getElem _⟩
          have cP : wr.cell? ⟨w.heap.size, k + j, none⟩ = some (W64 pr) := by
            rw [hO.out.cellAt _ (by omega), List.getElem?_map, hpr]; rfl
          have zP : wr.frozen? ⟨w.heap.size, k + j, none⟩ = false := hO.out.frozenAt _
          obtain ⟨hi', lo, hmul, hml⟩ := mul64_ex x y
          obtain ⟨l1, c1, hr1, hc1, hs1⟩ := add64_ex lo.toNat pr.toNat 0 (by decide) lo.toNat_lt pr.toNat_lt
          obtain ⟨l2, c2, hr2, hc2, hs2⟩ := add64_ex l1.toNat cy 0 (by decide) l1.toNat_lt hcy
          obtain ⟨e1, e2⟩ := mul_parts hml.out hs1.out.1 hs1.out.2 hs2.out.1 hs2.out.2
          have hfit : hi'.toNat + c1 + c2 < 18446744073709551616 := by
            rw [e2]; exact mul_fits x.toNat_lt y.toNat_lt pr.toNat_lt hcy
          have hf1 : (hi'.toNat : Int) + (c1 : Int) < 18446744073709551616 := by omega
          have hf2 : (hi'.toNat : Int) + (c1 : Int) + (c2 : Int) < 18446744073709551616 := by omega
          have r1 : ∀ w, (callFunc 118 #[W64 lo, W64 pr, .int .u64 0]).run Tryz.prog w = .ok (.value (.tuple #[W64 l1, .int .u64 c1])) w := hr1
          have r2 : ∀ w, (callFunc 118 #[W64 l1, .int .u64 cy, .int .u64 0]).run Tryz.prog w = .ok (.value (.tuple #[W64 l2, .int .u64 c2])) w := hr2
          have F : Hid ((S.set (k + j) l2).length = n + m ∧ (∀ u, ((wr.drewN u).setCell ⟨w.heap.size, k + j, none⟩ (W64 l2)).ownsRow w.heap.size 44 1 (.slice (some ⟨w.heap.size, 0, none⟩) (n + m) (n + m)) (n + m) ((S.set (k + j) l2).map W64)) ∧ valW (S.set (k + j) l2) + 18446744073709551616 ^ (k + (j + 1)) * (hi'.toNat + c1 + c2) = V0 + 18446744073709551616 ^ k * (x.toNat * valW (ys.take (j + 1))) ∧ (∀ t, k + m ≤ t → t < n + m → (S.set (k + j) l2)[t]? = some 0) ∧ ∀ u, Below w.heap.size w ((wr.drewN u).setCell ⟨w.heap.size, k + j, none⟩ (W64 l2))) := by
            refine ⟨by rw [List.length_set]; exact hSl.out, fun u => ?_, ?_, fun t ht1 ht2 => by rw [List.getElem?_set, if_neg (by omega)]; exact hZ.out t ht1 ht2, fun u => (bdn hB.out).setCell (Nat.le_refl _) _⟩
            · rw [List.map_set]
              exact (World.ownsRow.stored (w := wr.drewN u) hO.out _ _).1
            · rw [valW_take hy.out]
              exact mul_step (b := 18446744073709551616) hV.out e1 e2 (valW_set hpr)
          have hjm' : (j : Int) < (m : Int) := by omega
          have hkj : (k : Int) + (j : Int) < (n : Int) + (m : Int) := by omega
          clear hcy2 hjm hlt hr1 hr2 e1 e2 hfit hml hs1 hs2 hpr hO hSl hV hZ hB
          go_wp2
          go_quiet ((go_at_call 117; exact Calls.quiet_of_same (hmul _)))
          go_wp2_with (first | simp only [r1] | simp only [r2])
          go_roundw
          case rel => exact ⟨j + 1, hi'.toNat + c1 + c2, _, by omega, by go_num, by go_num, by omega, F.out.1, F.out.2.1 _, F.out.2.2.1, F.out.2.2.2.1, F.out.2.2.2.2 _⟩
          case measure => simp [intOf]; omega
        · obtain rfl : j = m := by omega
          have hz0 := hZ.out (k + j) (by omega) (by omega)
          have cP : wr.cell? ⟨w.heap.size, k + j, none⟩ = some (W64 0) := by
            rw [hO.out.cellAt _ (by omega), List.getElem?_map, hz0]; rfl
          have zP : wr.frozen? ⟨w.heap.size, k + j, none⟩ = false := hO.out.frozenAt _
          have e : (UInt64.ofNat cy).toNat = cy := by simp; omega
          have e2 : Value.int .u64 (cy : Int) = W64 (UInt64.ofNat cy) := W64_eq (by rw [e])
          have F : Hid ((S.set (k + j) (UInt64.ofNat cy)).length = n + j ∧ (wr.setCell ⟨w.heap.size, k + j, none⟩ (.int .u64 (cy : Int))).ownsRow w.heap.size 44 1 (.slice (some ⟨w.heap.size, 0, none⟩) (n + j) (n + j)) (n + j) ((S.set (k + j) (UInt64.ofNat cy)).map W64) ∧ valW (S.set (k + j) (UInt64.ofNat cy)) = valW (xs.take (k + 1)) * valW ys ∧ (∀ t, k + 1 + j ≤ t → t < n + j → (S.set (k + j) (UInt64.ofNat cy))[t]? = some 0) ∧ Below w.heap.size w (wr.setCell ⟨w.heap.size, k + j, none⟩ (.int .u64 (cy : Int)))) := by
            refine ⟨by rw [List.length_set]; exact hSl.out, ?_, ?_, fun t ht1 ht2 => by rw [List.getElem?_set, if_neg (by omega)]; exact hZ.out t (by omega) ht2, hB.out.setCell (Nat.le_refl _) _⟩
            · rw [List.map_set, e2]
              exact (hO.out.stored _ _).1
            · rw [valW_take hx.out]
              have h1 := hV.out
              rw [valW_take_all (by have := HL.out.2; omega)] at h1
              have h2 := mul_row h1 (by have := valW_set (s := UInt64.ofNat cy) hz0; rw [e] at this; exact this)
              rw [h2, HV0.out]
              exact mul_next rfl
          have hkj : (k : Int) + (j : Int) < (n : Int) + (j : Int) := by omega
          clear hjm hlt hz0 e e2 hO hSl hV hZ hB
          go_wp2
          go_roundw
          case rel => exact ⟨k + 1, _, by omega, by go_num, F.out.1, F.out.2.1, F.out.2.2.1, F.out.2.2.2.1, F.out.2.2.2.2⟩
          case measure => simp [intOf]; omega
    · obtain rfl : k = n := by omega
      have F : Hid (wr.ownsRow w.heap.size 44 1 (.slice (some ⟨w.heap.size, 0, none⟩) (k + m) (k + m)) (k + m) (S.map W64) ∧ valW S = valW xs * valW ys ∧ Below w.heap.size w wr) := ⟨hO.out, by rw [hV.out, valW_take_all (by have := HL.out.1; omega)], hB.out⟩
      clear hO hSl hV hZ hB hlt
      go_wp2
      go_ret
      exact ⟨_, rfl, F.out.1, F.out.2.1, F.out.2.2⟩
end Go.Proofs.YtfbmdlfkipipfaaGreatDoor
namespace Go.By
open Go.RowKit
/-- a slice of numbers -/
structure Nsl (T : TypeId) (w : World) (p : Option Addr) (n c : Nat) (Ns : List Nat) : Prop where
  len : Ns.length = n
  max : n ≤ 9223372036854775807
  elt : ∀ i N, Ns[i]? = some N → ∃ b o q m d, p = some ⟨b, o, none⟩ ∧ w.cell? ⟨b, o + i, none⟩ = some (.slice q m d) ∧ Ws T w q m d N
theorem Nsl.keep {T : TypeId} {w w' : World} {p : Option Addr} {n c : Nat} {Ns : List Nat} (h : Nsl T w p n c Ns) (hb : Below w.heap.size w w') : Nsl T w' p n c Ns :=
  ⟨h.len, h.max, fun i N hi => by
    obtain ⟨b, o, q, m, d, hp, hc, hw⟩ := h.elt i N hi
    exact ⟨b, o, q, m, d, hp, (hb.cell (p := ⟨b, o + i, none⟩) (lt_of_cell hc)).trans hc, hw.keep hb⟩⟩
theorem Nsl.two {T T' : TypeId} {w : World} {g : Nat} {fr : Nat × Nat} {q1 q2 : Option Addr} {n1 c1 n2 c2 M N : Nat} (hg : w.heap[g]? = some (.cells #[.slice q1 n1 c1, .slice q2 n2 c2] T' fr)) (h1 : Ws T w q1 n1 c1 M) (h2 : Ws T w q2 n2 c2 N) : Nsl T w (some ⟨g, 0, none⟩) 2 2 [M, N] :=
  ⟨rfl, by omega, fun i N' hi => by
    match i, hi with
    | 0, hi => simp at hi; subst hi; exact ⟨g, 0, q1, n1, c1, rfl, cell_of_row _ _ 0 _ _ _ hg, h1⟩
    | 1, hi => simp at hi; subst hi; exact ⟨g, 0, q2, n2, c2, rfl, cell_of_row _ _ 1 _ _ _ hg, h2⟩
    | j + 2, hi => simp at hi⟩
theorem One.later {w : World} {g : Nat} {v : Value} {T : TypeId} (h : w.heap[g]? = some (.cells #[v] T (0, 0))) (g' i : Nat) (u : Value) (hne : g ≠ g' := by simp) : (w.setCell ⟨g', i, none⟩ u).cell? ⟨g, 0, none⟩ = some v ∧ (w.setCell ⟨g', i, none⟩ u).frozen? ⟨g, 0, none⟩ = false :=
  ⟨cell_of_row _ _ 0 _ _ _ (hsc h hne), frozen_of_row _ _ _ _ _ (hsc h hne)⟩
/-- two calls: a sum (or product) of words, and what is made of it -/
theorem RetWs.sl {T : TypeId} {w w' : World} {n N : Nat} {e : Ending} (h : RetWs T w n N e w') : ∃ S : List UInt64, e = .returned (.slice (some ⟨w.heap.size, 0, none⟩) n n) ∧ Sl W64 w' (some ⟨w.heap.size, 0, none⟩) n n S ∧ Lies T w' (some ⟨w.heap.size, 0, none⟩) ∧ valW S = N ∧ Below w.heap.size w w' := by
  obtain ⟨S, he, ho, hv, hb⟩ := h
  exact ⟨S, he, Sl.of_owns ho, lies_of_owns ho, hv, hb⟩
end Go.By
namespace Go.Proofs.YtfbmdlfkipipfaaGreatDoor
open Go.RowKit Go.By
/-- words, of which a number is made next -/
def RetThen (w : World) (N : Nat) (e : Ending) (w1 : World) : Prop :=
  ∃ g n, e = .returned (.slice (some ⟨g, 0, none⟩) n n) ∧ Below w.heap.size w w1 ∧ Hid (Calls Tryz.prog 60 #[.slice (some ⟨g, 0, none⟩) n n] w1 (RetMn 44 w1 N))
theorem times_then (p q : Option Addr) (n c m d M N : Nat) (w : World) (h1 : Ws 44 w p n c M) (h2 : Ws 44 w q m d N) :
    Calls Tryz.prog 66 #[.slice p n c, .slice q m d] w (RetThen w (M * N)) := by
  obtain ⟨xs, s1, n1, v1⟩ := h1.ex
  obtain ⟨ys, s2, n2, v2⟩ := h2.ex
  refine (timesN_any p q n c m d xs ys w s1 s2 (by have := h1.le; omega) (by have := h2.le; omega)).mono ?_
  rintro e w1 hr
  obtain ⟨S, rfl, hs, hl, hv, hb⟩ := hr.sl
  refine ⟨_, _, rfl, hb, ?_⟩
  have := made_any _ _ _ S w1 hs hl
  rw [hv, v1, v2] at this
  exact this
end Go.Proofs.YtfbmdlfkipipfaaGreatDoor
namespace Go.By
open Go.RowKit
def mulL : List Nat → Nat
  | [] => 1
  | x :: xs => x * mulL xs
theorem mulL_snoc : ∀ (xs : List Nat) (x : Nat), mulL (xs ++ [x]) = mulL xs * x
  | [], x => by simp [mulL]
  | y :: ys, x => by show y * mulL (ys ++ [x]) = y * mulL ys * x; rw [mulL_snoc ys x, Nat.mul_assoc]
theorem mulL_take {Ns : List Nat} {k N : Nat} (h : Ns[k]? = some N) : mulL (Ns.take (k + 1)) = mulL (Ns.take k) * N := by
  rw [List.take_add_one, h]; exact mulL_snoc _ _
/-- a product, or that one on the way is too great -/
def RetPn (T : TypeId) (w : World) (Ns : List Nat) (e : Ending) (w' : World) : Prop := ((∀ j, mulL (Ns.take j) < capN) ∧ RetN T w (mulL Ns) e w') ∨ ((∃ j, capN ≤ mulL (Ns.take j)) ∧ Ret0 w 16 e w')
end Go.By
namespace Go.Proofs.YtfbmdlfkipipfaaGreatDoor
open Go.RowKit Go.By
theorem Of_one (W : World) : Calls Tryz.prog 16 #[.int .u64 1] W (RetN1 44 W 1) := OfN_any 1 W
set_option maxRecDepth 100000 in
set_option maxHeartbeats 2000000 in
theorem Mul_nat (p : Option Addr) (k c : Nat) (Ns : List Nat) (w : World) (h : Nsl 44 w p k c Ns) :
    Calls Tryz.prog 21 #[.slice p k c] w (RetPn 44 w Ns) := by
  have hinfo := info_nat
  have hkm := h.max
  have H := Lib.hid h; clear h
  go_enter Tryz.func21, Tryz.ntmps21
  go_wp2_with fail
  refine Calls.mono (Of_one _) ?_
  rintro e w1 ⟨q1, n1, c1, rfl, hw1, hb1⟩
  have k0 : w1.heap[w.heap.size]? = some (.cells #[.slice none 0 0] 40 (0, 0)) := (hb1.block _ (by simp)).trans (hnew rfl)
  have HB : Hid (Below w.heap.size w w1) := bl (al (Below.refl _ _) (Nat.le_refl _)) hb1 (by simp)
  have K0 : Hid (∀ o, (w1.alloc o).heap[w.heap.size]? = some (.cells #[.slice none 0 0] 40 (0, 0))) := fun o => hal k0
  have HW1 : Hid (∀ o, Ws 44 (w1.alloc o) q1 n1 c1 1) := fun o => hw1.keep (al (Below.refl _ _) (Nat.le_refl _))
  have HG : Hid (w.heap.size ≠ w1.heap.size ∧ w.heap.size ≤ w1.heap.size) := ⟨by have := blk_lt k0; omega, by have := blk_lt k0; omega⟩
  clear k0 hw1 hb1
  go_wp2
  go_loopw [11] (fun i wr => ∃ (j : Nat) (q : Option Addr) (n d : Nat), j ≤ k ∧ i = .int .i64 j ∧ Hid (wr.heap[w.heap.size]? = some (.cells #[.slice none 0 0] 40 (0, 0))) ∧ Hid (wr.heap[w1.heap.size]? = some (.cells #[.slice q n d] 40 (0, 0))) ∧ Hid (Ws 44 wr q n d (mulL (Ns.take j))) ∧ Hid (∀ i, i ≤ j → mulL (Ns.take i) < capN) ∧ Hid (Below w.heap.size w wr)) (fun i _ => k - (intOf i).toNat)
  case atStart =>
    refine ⟨0, q1, n1, c1, Nat.zero_le _, rfl, K0.out _, hnew rfl, ?_, ?_, al HB.out HG.out.2⟩
    · show Ws _ _ _ _ _ (mulL (Ns.take 0))
      rw [List.take_zero]; exact HW1.out _
    · intro i hi
      obtain rfl : i = 0 := by omega
      rw [List.take_zero]; exact (HW1.out (.cells #[] 0)).lt
  case round =>
    obtain ⟨j, q, n, d, hj, rfl, h0, h1, hw, hcaps, hB⟩ := hrel
    obtain ⟨_, a1, a2, a3, a4⟩ := One.of h0.out
    obtain ⟨_, b1, b2, b3, b4⟩ := One.of h1.out
    have hsz := hB.out.size
    by_cases hlt : j < k
    · obtain ⟨N, hN⟩ : ∃ N, Ns[j]? = some N := ⟨Ns[j]'(by rw [H.out.len]; exact hlt), List.getElem?_eq_getElem _⟩
      obtain ⟨b, o, q2, m, d2, rfl, hc, hw2⟩ := H.out.elt j N hN
      have hcw := (hB.out.cell (p := ⟨b, o + j, none⟩) (lt_of_cell hc)).trans hc
      have hw2' : Hid (Ws 44 wr q2 m d2 N) := hw2.keep hB.out
      have hjk : (j : Int) < (k : Int) := by omega
      have HN := Lib.hid hN
      clear hc hw2 hN hlt
      go_wp2_with fail
      refine Calls.mono (times_then _ _ _ _ _ _ _ _ _ (hw.out.keep (al (Below.refl _ _) (Nat.le_refl _))) (hw2'.out.keep (al (Below.refl _ _) (Nat.le_refl _)))) ?_
      rintro e w4 ⟨g, nn, rfl, hb4, hmade⟩
      go_wp2_with fail
      refine Calls.mono hmade.out ?_
      rintro e w5 hr
      have hb45 : Below wr.heap.size w4 w5 → Below wr.heap.size wr w5 := fun h => (bl (al (Below.refl _ _) (Nat.le_refl _)) hb4 (by simp)).trans h
      have hsz4 := hb4.size
      simp at hsz4
      rcases hr with ⟨hcap, q5, n5, c5, rfl, hw5, hb5⟩ | ⟨hcap, rfl, hb5⟩
      · have hb6 := hb45 (hb5.mono (by omega))
        have k0 : w5.heap[w.heap.size]? = some (.cells #[.slice none 0 0] 40 (0, 0)) := (hb6.block _ (blk_lt h0.out)).trans h0.out
        have k1 : w5.heap[w1.heap.size]? = some (.cells #[.slice q n d] 40 (0, 0)) := (hb6.block _ (blk_lt h1.out)).trans h1.out
        obtain ⟨_, x1, x2, x3, x4⟩ := One.of k1
        have F : Hid ((w5.setCell ⟨w1.heap.size, 0, none⟩ (.slice q5 n5 c5)).heap[w.heap.size]? = some (.cells #[.slice none 0 0] 40 (0, 0)) ∧ (w5.setCell ⟨w1.heap.size, 0, none⟩ (.slice q5 n5 c5)).heap[w1.heap.size]? = some (.cells #[.slice q5 n5 c5] 40 (0, 0)) ∧ Ws 44 (w5.setCell ⟨w1.heap.size, 0, none⟩ (.slice q5 n5 c5)) q5 n5 c5 (mulL (Ns.take (j + 1))) ∧ (∀ i, i ≤ j + 1 → mulL (Ns.take i) < capN) ∧ Below w.heap.size w (w5.setCell ⟨w1.heap.size, 0, none⟩ (.slice q5 n5 c5))) :=
          ⟨hsc k0 HG.out.1, hss k1, by rw [mulL_take HN.out]; exact hw5.set k1 (by decide), fun i hi => by
            rcases Nat.lt_or_ge i (j + 1) with h | h
            · exact hcaps.out i (by omega)
            · obtain rfl : i = j + 1 := by omega
              rw [mulL_take HN.out]; exact hcap, ((hB.out.trans (hb6.mono (by omega)))).setCell HG.out.2 _⟩
        clear hb6 hb5 hb4 hw5 k0 k1 hb45 hcap hmade
        go_wp2
        go_roundw
        case rel => exact ⟨j + 1, _, _, _, by omega, by go_num, F.out.1, F.out.2.1, F.out.2.2.1, F.out.2.2.2.1, F.out.2.2.2.2⟩
        case measure => simp [intOf]; omega
      · have hb6 := hb45 (hb5.mono (by omega))
        have k0 : w5.heap[w.heap.size]? = some (.cells #[.slice none 0 0] 40 (0, 0)) := (hb6.block _ (blk_lt h0.out)).trans h0.out
        have k1 : w5.heap[w1.heap.size]? = some (.cells #[.slice q n d] 40 (0, 0)) := (hb6.block _ (blk_lt h1.out)).trans h1.out
        obtain ⟨_, x1, x2, x3, x4⟩ := One.of k1
        obtain ⟨y1, y2⟩ := One.later k0 w1.heap.size 0 (.slice none 0 0) HG.out.1
        have K0 := Lib.hid (hsc k0 (show w.heap.size ≠ (⟨w1.heap.size, 0, none⟩ : Addr).block from HG.out.1) (v := .slice none 0 0))
        have F : Hid (capN ≤ mulL (Ns.take (j + 1)) ∧ Below w.heap.size w ((w5.setCell ⟨w1.heap.size, 0, none⟩ (.slice none 0 0)).setCell ⟨w.heap.size, 0, none⟩ (.slice none 0 0))) :=
          ⟨by rw [mulL_take HN.out]; exact hcap, ((hB.out.trans (hb6.mono (by omega))).setCell HG.out.2 _).setCell (Nat.le_refl _) _⟩
        clear hb6 hb5 hb4 k0 k1 hb45 hcap hmade
        go_wp2
        exact bodyPost_ret (res_cell_tmp rfl _ _ _ 40 #[.slice none 0 0] (0, 0) _ (.int .i64 16) rfl (hss K0.out) rfl Tryz.underlying40 rfl hinfo) rfl (Or.inr ⟨⟨_, F.out.1⟩, rfl, F.out.2⟩)
    · obtain rfl : j = k := by omega
      have F : Hid (mulL (Ns.take j) = mulL Ns ∧ ∀ i, mulL (Ns.take i) < capN) := by
        have e : Ns.take j = Ns := List.take_of_length_le (by have := H.out.len; omega)
        refine ⟨by rw [e], fun i => ?_⟩
        rcases Nat.lt_or_ge i (j + 1) with h | h
        · exact hcaps.out i (by omega)
        · rw [List.take_of_length_le (by have := H.out.len; omega), ← e]; exact hcaps.out j (Nat.le_refl _)
      rw [F.out.1] at hw
      have HWE : Hid (Ws 44 (wr.setCell ⟨w.heap.size, 0, none⟩ (.slice q n d)) q n d (mulL Ns) ∧ (∀ i, mulL (Ns.take i) < capN) ∧ Below w.heap.size w (wr.setCell ⟨w.heap.size, 0, none⟩ (.slice q n d))) := ⟨hw.out.set h0.out (by decide), F.out.2, hB.out.setCell (Nat.le_refl _) _⟩
      clear hw hlt
      go_wp2
      exact bodyPost_ret (res_cell_tmp rfl _ _ _ 40 #[.slice q n d] (0, 0) _ (.int .i64 0) rfl (hss h0.out) rfl Tryz.underlying40 rfl hinfo) rfl (Or.inl ⟨HWE.out.2.1, _, _, _, rfl, HWE.out.1, HWE.out.2.2⟩)
end Go.Proofs.YtfbmdlfkipipfaaGreatDoor
namespace Go.By
open Go.RowKit
end Go.By
namespace Go.Proofs.YtfbmdlfkipipfaaGreatDoor
open Go.RowKit Go.By
end Go.Proofs.YtfbmdlfkipipfaaGreatDoor
namespace Go.By
open Go.RowKit
end Go.By
namespace Go.Proofs.YtfbmdlfkipipfaaGreatDoor
open Go.RowKit Go.By
end Go.Proofs.YtfbmdlfkipipfaaGreatDoor
namespace Go.By
open Go.RowKit
end Go.By
namespace Go.Proofs.YtfbmdlfkipipfaaGreatDoor
open Go.RowKit Go.By
end Go.Proofs.YtfbmdlfkipipfaaGreatDoor
namespace Go.By
open Go.RowKit
end Go.By
namespace Go.Proofs.YtfbmdlfkipipfaaGreatDoor
open Go.RowKit Go.By
end Go.Proofs.YtfbmdlfkipipfaaGreatDoor
namespace Go.By
open Go.RowKit
theorem one_cap : 1 < capN := Nat.lt_of_lt_of_le (show 1 < powW 1 by decide) (powW_mono (show 1 ≤ 512 by decide))
theorem RetPn.two {T : TypeId} {w w' : World} {M N : Nat} {e : Ending} (h : RetPn T w [M, N] e w') (hM : M < capN) : RetMn T w (M * N) e w' := by
  have e2 : mulL [M, N] = M * N := by simp [mulL]
  rcases h with ⟨h1, h2⟩ | ⟨⟨j, hj⟩, h2⟩
  · have := h1 2
    rw [show [M, N].take 2 = [M, N] from rfl, e2] at this
    rw [e2] at h2
    exact Or.inl ⟨this, h2⟩
  · refine Or.inr ⟨?_, h2⟩
    match j, hj with
    | 0, hj => have := one_cap; rw [show mulL ([M, N].take 0) = 1 from rfl] at hj; omega
    | 1, hj => rw [show mulL ([M, N].take 1) = M * 1 from rfl] at hj; omega
    | j + 2, hj => rw [List.take_of_length_le (by simp), e2] at hj; exact hj
/-- a power, or that one on the way is too great -/
def RetW (T : TypeId) (w : World) (N k : Nat) (e : Ending) (w' : World) : Prop := ((∀ j, j ≤ k → N ^ j < capN) ∧ RetN T w (N ^ k) e w') ∨ ((∃ j, j ≤ k ∧ capN ≤ N ^ j) ∧ Ret0 w 16 e w')
end Go.By
namespace Go.Proofs.YtfbmdlfkipipfaaGreatDoor
open Go.RowKit Go.By
set_option maxRecDepth 100000 in
set_option maxHeartbeats 2000000 in
theorem Pow_any (p : Option Addr) (m c N k : Nat) (w : World) (h : Ws 44 w p m c N) (hk : k ≤ 65536) :
    Calls Tryz.prog 17 #[.agg #[.slice p m c], .int .i64 k] w (RetW 44 w N k) := by
  have hinfo := info_nat
  have H := Lib.hid h; clear h
  have hk1 : ¬ (k : Int) < 0 := by omega
  have hk2 : ¬ (65536 : Int) < (k : Int) := by omega
  go_enter Tryz.func17, Tryz.ntmps17
  go_wp2_with fail
  refine Calls.mono (Of_one _) ?_
  rintro e w1 ⟨q1, n1, c1, rfl, hw1, hb1⟩
  have k0 : w1.heap[w.heap.size + 1]? = some (.cells #[.slice none 0 0] 40 (0, 0)) := (hb1.block _ (by simp)).trans (hnew (by simp))
  have k2 : w1.heap[w.heap.size]? = some (.cells #[.slice p m c] 40 (0, 0)) := (hb1.block _ (by simp <;> omega)).trans (hal (hnew rfl))
  have HB : Hid (Below w.heap.size w w1) := bl (al (al (Below.refl _ _) (Nat.le_refl _)) (by simp)) hb1 (by simp <;> omega)
  have K0 : Hid (∀ o, (w1.alloc o).heap[w.heap.size + 1]? = some (.cells #[.slice none 0 0] 40 (0, 0)) ∧ (w1.alloc o).heap[w.heap.size]? = some (.cells #[.slice p m c] 40 (0, 0))) := fun o => ⟨hal k0, hal k2⟩
  have HW1 : Hid (∀ o, Ws 44 (w1.alloc o) q1 n1 c1 1) := fun o => hw1.keep (al (Below.refl _ _) (Nat.le_refl _))
  have HG : Hid (w.heap.size + 1 < w1.heap.size) := by have := blk_lt k0; exact this
  clear k0 k2 hw1 hb1
  go_wp2
  go_loopw [17] (fun i wr => ∃ (j : Nat) (q : Option Addr) (n d : Nat), j ≤ k ∧ i = .int .i64 j ∧ Hid (wr.heap[w.heap.size + 1]? = some (.cells #[.slice none 0 0] 40 (0, 0)) ∧ wr.heap[w.heap.size]? = some (.cells #[.slice p m c] 40 (0, 0))) ∧ Hid (wr.heap[w1.heap.size]? = some (.cells #[.slice q n d] 40 (0, 0))) ∧ Hid (Ws 44 wr q n d (N ^ j)) ∧ Hid (∀ i, i ≤ j → N ^ i < capN) ∧ Hid (Below w.heap.size w wr)) (fun i _ => k - (intOf i).toNat)
  case atStart =>
    refine ⟨0, q1, n1, c1, Nat.zero_le _, rfl, K0.out _, hnew rfl, ?_, ?_, al HB.out (by have := HG.out; omega)⟩
    · show Ws _ _ _ _ _ (N ^ 0)
      exact HW1.out _
    · intro i hi
      obtain rfl : i = 0 := by omega
      exact one_cap
  case round =>
    obtain ⟨j, q, n, d, hj, rfl, h0, h1, hw, hcaps, hB⟩ := hrel
    obtain ⟨_, a1, a2, a3, a4⟩ := One.of h0.out.1
    obtain ⟨_, d1, d2, d3, d4⟩ := One.of h0.out.2
    obtain ⟨_, b1, b2, b3, b4⟩ := One.of h1.out
    have hsz := hB.out.size
    by_cases hlt : j < k
    · have hjk : (j : Int) < (k : Int) := by omega
      clear hlt
      go_wp2_with fail
      refine Calls.mono (Mul_nat _ _ _ _ _ (Nsl.two (hnew rfl) (hw.out.keep (al (Below.refl _ _) (Nat.le_refl _))) ((H.out.keep hB.out).keep (al (Below.refl _ _) (Nat.le_refl _))))) ?_
      rintro e w5 hr0
      have hr := hr0.two (hcaps.out j (Nat.le_refl _))
      have hpow : N ^ j * N = N ^ (j + 1) := (Nat.pow_succ N j).symm
      rw [hpow] at hr
      have hb45 : ∀ {a}, Below (wr.alloc a).heap.size (wr.alloc a) w5 → Below wr.heap.size wr w5 := fun h => (al (Below.refl _ _) (Nat.le_refl _)).trans (h.mono (by simp))
      clear hr0 hpow
      rcases hr with ⟨hcap, q5, n5, c5, rfl, hw5, hb5⟩ | ⟨hcap, rfl, hb5⟩
      · have hb6 := hb45 hb5
        have k0 : w5.heap[w.heap.size + 1]? = some (.cells #[.slice none 0 0] 40 (0, 0)) := (hb6.block _ (blk_lt h0.out.1)).trans h0.out.1
        have k2 : w5.heap[w.heap.size]? = some (.cells #[.slice p m c] 40 (0, 0)) := (hb6.block _ (blk_lt h0.out.2)).trans h0.out.2
        have k1 : w5.heap[w1.heap.size]? = some (.cells #[.slice q n d] 40 (0, 0)) := (hb6.block _ (blk_lt h1.out)).trans h1.out
        obtain ⟨_, x1, x2, x3, x4⟩ := One.of k1
        have hg := HG.out
        have F : Hid (((w5.setCell ⟨w1.heap.size, 0, none⟩ (.slice q5 n5 c5)).heap[w.heap.size + 1]? = some (.cells #[.slice none 0 0] 40 (0, 0)) ∧ (w5.setCell ⟨w1.heap.size, 0, none⟩ (.slice q5 n5 c5)).heap[w.heap.size]? = some (.cells #[.slice p m c] 40 (0, 0))) ∧ (w5.setCell ⟨w1.heap.size, 0, none⟩ (.slice q5 n5 c5)).heap[w1.heap.size]? = some (.cells #[.slice q5 n5 c5] 40 (0, 0)) ∧ Ws 44 (w5.setCell ⟨w1.heap.size, 0, none⟩ (.slice q5 n5 c5)) q5 n5 c5 (N ^ (j + 1)) ∧ (∀ i, i ≤ j + 1 → N ^ i < capN) ∧ Below w.heap.size w (w5.setCell ⟨w1.heap.size, 0, none⟩ (.slice q5 n5 c5))) :=
          ⟨⟨hsc k0 (show w.heap.size + 1 ≠ w1.heap.size by omega), hsc k2 (show w.heap.size ≠ w1.heap.size by omega)⟩, hss k1, hw5.set k1 (by decide), fun i hi => by
            rcases Nat.lt_or_ge i (j + 1) with h | h
            · exact hcaps.out i (by omega)
            · obtain rfl : i = j + 1 := by omega
              exact hcap, ((hB.out.trans (hb6.mono (by omega)))).setCell (show w.heap.size ≤ w1.heap.size by omega) _⟩
        clear hb6 hb5 hw5 k0 k1 k2 hb45 hcap hg
        go_wp2
        go_roundw
        case rel => exact ⟨j + 1, _, _, _, by omega, by go_num, F.out.1, F.out.2.1, F.out.2.2.1, F.out.2.2.2.1, F.out.2.2.2.2⟩
        case measure => simp [intOf]; omega
      · have hb6 := hb45 hb5
        have k0 : w5.heap[w.heap.size + 1]? = some (.cells #[.slice none 0 0] 40 (0, 0)) := (hb6.block _ (blk_lt h0.out.1)).trans h0.out.1
        have k1 : w5.heap[w1.heap.size]? = some (.cells #[.slice q n d] 40 (0, 0)) := (hb6.block _ (blk_lt h1.out)).trans h1.out
        obtain ⟨_, x1, x2, x3, x4⟩ := One.of k1
        have hg := HG.out
        obtain ⟨y1, y2⟩ := One.later k0 w1.heap.size 0 (.slice none 0 0) (by omega)
        have K0 := Lib.hid (hsc k0 (show w.heap.size + 1 ≠ (⟨w1.heap.size, 0, none⟩ : Addr).block from (by show w.heap.size + 1 ≠ w1.heap.size; omega)) (v := .slice none 0 0))
        have F : Hid (capN ≤ N ^ (j + 1) ∧ j + 1 ≤ k ∧ Below w.heap.size w ((w5.setCell ⟨w1.heap.size, 0, none⟩ (.slice none 0 0)).setCell ⟨w.heap.size + 1, 0, none⟩ (.slice none 0 0))) :=
          ⟨hcap, by omega, ((hB.out.trans (hb6.mono (by omega))).setCell (show w.heap.size ≤ w1.heap.size by omega) _).setCell (show w.heap.size ≤ w.heap.size + 1 by omega) _⟩
        clear hb6 hb5 k0 k1 hb45 hcap hg
        go_wp2
        exact bodyPost_ret (res_cell_tmp rfl _ _ _ 40 #[.slice none 0 0] (0, 0) _ (.int .i64 16) rfl (hss K0.out) rfl Tryz.underlying40 rfl hinfo) rfl (Or.inr ⟨⟨_, F.out.2.1, F.out.1⟩, rfl, F.out.2.2⟩)
    · obtain rfl : j = k := by omega
      have HWE : Hid (Ws 44 (wr.setCell ⟨w.heap.size + 1, 0, none⟩ (.slice q n d)) q n d (N ^ j) ∧ (∀ i, i ≤ j → N ^ i < capN) ∧ Below w.heap.size w (wr.setCell ⟨w.heap.size + 1, 0, none⟩ (.slice q n d))) := ⟨hw.out.set h0.out.1 (by decide), hcaps.out, hB.out.setCell (show w.heap.size ≤ w.heap.size + 1 by omega) _⟩
      clear hw hlt
      go_wp2
      exact bodyPost_ret (res_cell_tmp rfl _ _ _ 40 #[.slice q n d] (0, 0) _ (.int .i64 0) rfl (hss h0.out.1) rfl Tryz.underlying40 rfl hinfo) rfl (Or.inl ⟨HWE.out.2.1, _, _, _, rfl, HWE.out.1, HWE.out.2.2⟩)
end Go.Proofs.YtfbmdlfkipipfaaGreatDoor
namespace Go.By
open Go.RowKit
/-- a difference, or that there is none -/
def RetD (T : TypeId) (w : World) (M N : Nat) (e : Ending) (w' : World) : Prop := (N ≤ M ∧ RetN T w (M - N) e w') ∨ (M < N ∧ Ret0 w 2 e w')
theorem sub_end {S A B n c : Nat} (h : S + B = A + 18446744073709551616 ^ n * c) (hS : S < 18446744073709551616 ^ n) (hle : B ≤ A) : S = A - B := by
  rcases Nat.eq_zero_or_pos c with h0 | h0
  · subst h0; rw [Nat.mul_zero] at h; omega
  · have : 18446744073709551616 ^ n * 1 ≤ 18446744073709551616 ^ n * c := Nat.mul_le_mul_left _ h0
    omega
end Go.By
namespace Go.Proofs.YtfbmdlfkipipfaaGreatDoor
open Go.RowKit Go.By
/-- one word of a difference -/
theorem sub64_ex (x y c : Nat) (hc : c ≤ 1) (hx : x < 18446744073709551616) (hy : y < 18446744073709551616) : ∃ (s : UInt64) (c' : Nat), (∀ w, (callFunc 121 #[.int .u64 x, .int .u64 y, .int .u64 c]).run Tryz.prog w = .ok (.value (.tuple #[W64 s, .int .u64 c'])) w) ∧ c' ≤ 1 ∧ Hid (s.toNat + y + c = x + 18446744073709551616 * c') := by
  have e : (UInt64.ofNat ((x + 18446744073709551616 - y - c) % 18446744073709551616)).toNat = (x + 18446744073709551616 - y - c) % 18446744073709551616 := by simp
  refine ⟨UInt64.ofNat ((x + 18446744073709551616 - y - c) % 18446744073709551616), if x < y + c then 1 else 0, fun w => ?_, by split <;> omega, ?_⟩
  · rw [run_callFunc_extern Tryz.func121 (by kernel_rfl) (by kernel_rfl) (by kernel_rfl) (e := sub64Entry) (by kernel_rfl), run_sub64 x y c hc]
    have e2 : W64 (UInt64.ofNat ((x + 18446744073709551616 - y - c) % 18446744073709551616)) = .int .u64 (((x + 18446744073709551616 - y - c) % 18446744073709551616 : Nat) : Int) := by show Value.int .u64 _ = _; rw [e]
    rw [e2]
    rfl
  · show _ = _
    rw [e]
    split <;> omega
set_option maxRecDepth 100000 in
set_option maxHeartbeats 2000000 in
theorem Sub_nat (p q : Option Addr) (n c m d M N : Nat) (w : World) (h1 : Ws 44 w p n c M) (h2 : Ws 44 w q m d N) :
    Calls Tryz.prog 71 #[.agg #[.slice p n c], .agg #[.slice q m d]] w (RetD 44 w M N) := by
  have hinfo := info_nat
  obtain ⟨i0, hi, hz0, hz1, hz2⟩ := info_parts info_u64
  have hn := h1.le; have hm := h2.le
  have H1 := Lib.hid h1; have H2 := Lib.hid h2
  clear h1 h2
  go_enter Tryz.func71, Tryz.ntmps71
  go_wp2_with fail
  obtain ⟨W, hW⟩ : ∃ W, W = ((w.alloc (.cells #[.slice p n c] 40)).alloc (.cells #[.slice q m d] 40)).alloc (.cells #[.slice none 0 0] 40) := ⟨_, rfl⟩
  have hbW : Below w.heap.size w W := by rw [hW]; exact al (al (al (Below.refl _ _) (Nat.le_refl _)) (by simp)) (by simp <;> omega)
  have hszW : W.heap.size = w.heap.size + 3 := by rw [hW]; simp
  have t0 : W.heap[w.heap.size]? = some (.cells #[.slice p n c] 40 (0, 0)) := by rw [hW]; exact hal (hal (hnew rfl))
  have t1 : W.heap[w.heap.size + 1]? = some (.cells #[.slice q m d] 40 (0, 0)) := by rw [hW]; exact hal (hnew (by simp))
  have t2 : W.heap[w.heap.size + 1 + 1]? = some (.cells #[.slice none 0 0] 40 (0, 0)) := by rw [hW]; exact hnew (by simp)
  rw [← hW]
  clear hW
  refine Calls.mono (Cmp_any p q n c m d M N W (H1.out.keep hbW) (H2.out.keep hbW)) ?_
  rintro e w1 ⟨rfl, hb1⟩
  have k0 : w1.heap[w.heap.size]? = some (.cells #[.slice p n c] 40 (0, 0)) := (hb1.block _ (blk_lt t0)).trans t0
  have k1 : w1.heap[w.heap.size + 1]? = some (.cells #[.slice q m d] 40 (0, 0)) := (hb1.block _ (blk_lt t1)).trans t1
  have k2 : w1.heap[w.heap.size + 1 + 1]? = some (.cells #[.slice none 0 0] 40 (0, 0)) := (hb1.block _ (blk_lt t2)).trans t2
  have HB : Hid (Below w.heap.size w w1) := bl hbW hb1 (by omega)
  obtain ⟨_, a1, a2, a3, a4⟩ := One.of k0
  obtain ⟨_, b1, b2, b3, b4⟩ := One.of k1
  obtain ⟨_, c1, c2, c3, c4⟩ := One.of k2
  have K0 := Lib.hid k0; have K1 := Lib.hid k1; have K2 := Lib.hid k2
  clear t0 t1 t2 hbW hb1 k0 k1 k2
  rcases Nat.lt_or_ge M N with hlt | hge
  · rw [cmpN_lt hlt]
    have HL := Lib.hid hlt
    have F : Hid (Below w.heap.size w (w1.setCell ⟨w.heap.size + 1 + 1, 0, none⟩ (.slice none 0 0))) := HB.out.setCell (show w.heap.size ≤ w.heap.size + 1 + 1 by omega) _
    clear hlt
    go_wp2
    exact bodyPost_ret (res_cell_tmp rfl _ _ _ 40 #[.slice none 0 0] (0, 0) _ (.int .i64 2) rfl (hss K2.out) rfl Tryz.underlying40 rfl hinfo) rfl (Or.inr ⟨HL.out, rfl, F.out⟩)
  · obtain ⟨C, hC0, hC⟩ : ∃ C : Int, ¬ C < 0 ∧ cmpN M N = C := ⟨cmpN M N, by unfold cmpN; rw [if_neg (by omega)]; split <;> omega, rfl⟩
    rw [hC]
    obtain ⟨xs, s1, n1, v1⟩ := (H1.out.keep HB.out).ex
    obtain ⟨ys, s2, n2, v2⟩ := (H2.out.keep HB.out).ex
    have hmn : m ≤ n := by
      rcases Nat.lt_or_ge n m with h | h
      · have := valW_shorter (xs := xs) (ys := ys) n2 (by rw [s1.len, s2.len]; exact h); omega
      · exact h
    have HL : Hid (xs.length = n ∧ ys.length = m ∧ valW xs = M ∧ valW ys = N ∧ N ≤ M) := ⟨s1.len, s2.len, v1, v2, hge⟩
    have S1 := Lib.hid s1; have S2 := Lib.hid s2
    have HM1 : Hid (n ≤ maxLen) := by show n ≤ maxLen; unfold maxLen; omega
    have HM2 : Hid (8 * n ≤ 281474976710656) := by show 8 * n ≤ _; omega
    clear hC s1 s2 n1 n2 v1 v2 hge
    go_wp2_with (at_make; refine wpList_make_full _ rfl _ _ 38 rfl w1.heap.size 44 i0 (.int .u64 0) 1 Tryz.underlying38 hi hz0 hz1 .i64 .i64 _ _ n rfl rfl rfl rfl (by rw [hz2]; exact HM2.out) HM1.out (Nat.le_refl _) ?_)
    intro w2 ho hg
    have HO : Hid (w2.ownsRow w1.heap.size 44 1 (.slice (some ⟨w1.heap.size, 0, none⟩) n n) n ((List.replicate n (0 : UInt64)).map W64)) := by
      have e : (madeCells #[Value.int .u64 0] n).toList = (List.replicate n (0 : UInt64)).map W64 := by rw [List.map_replicate]; exact toList_madeCells_one _ _
      show World.ownsRow _ _ _ _ _ _ _
      rw [← e]; simpa using ho
    have hb2 : Below w1.heap.size w1 w2 := (Below.refl _ _).grown hg (Nat.le_refl _) (by simp)
    have HB2 := Lib.hid hb2
    obtain ⟨_, a1, a2, a3, a4⟩ := One.of ((hb2.block _ (blk_lt K0.out)).trans K0.out)
    obtain ⟨_, b1, b2, b3, b4⟩ := One.of ((hb2.block _ (blk_lt K1.out)).trans K1.out)
    clear ho hg hb2
    go_wp2
    go_loopw [7, 22] (fun cv i wr => ∃ (k cy : Nat) (S : List UInt64), k ≤ n ∧ cy ≤ 1 ∧ cv = .int .u64 cy ∧ i = .int .i64 k ∧ Hid (S.length = n) ∧ Hid (wr.ownsRow w1.heap.size 44 1 (.slice (some ⟨w1.heap.size, 0, none⟩) n n) n (S.map W64)) ∧ Hid (valW (S.take k) + valW (ys.take k) = valW (xs.take k) + 18446744073709551616 ^ k * cy) ∧ Hid (Below w1.heap.size w1 wr)) (fun _ i _ => n - (intOf i).toNat)
    case atStart => exact ⟨0, 0, _, Nat.zero_le _, Nat.zero_le _, rfl, rfl, by simp [Hid], HO.out, by simp [Hid, valW, valD], HB2.out⟩
    case round =>
      clear HO HB2
      obtain ⟨k, cy, S, hk, hcy, rfl, rfl, hSl, hO, hV, hB⟩ := hrel
      obtain ⟨_, a1, a2, a3, a4⟩ := One.of ((hB.out.block _ (blk_lt K0.out)).trans K0.out)
      obtain ⟨_, b1, b2, b3, b4⟩ := One.of ((hB.out.block _ (blk_lt K1.out)).trans K1.out)
      by_cases hlt : k < n
      · obtain ⟨b, o, x, rfl, hc, hx⟩ := S1.out.at k hlt
        have hcx := (hB.out.cell (p := ⟨b, o + k, none⟩) (lt_of_cell hc)).trans hc
        have fin : Hid (∀ (s : UInt64) (c' : Nat), valW (S.take k) + 18446744073709551616 ^ k * s.toNat + valW (ys.take (k + 1)) = valW (xs.take (k + 1)) + 18446744073709551616 ^ (k + 1) * c' →
            (S.set k s).length = n ∧ (wr.setCell ⟨w1.heap.size, k, none⟩ (W64 s)).ownsRow w1.heap.size 44 1 (.slice (some ⟨w1.heap.size, 0, none⟩) n n) n ((S.set k s).map W64) ∧ valW ((S.set k s).take (k + 1)) + valW (ys.take (k + 1)) = valW (xs.take (k + 1)) + 18446744073709551616 ^ (k + 1) * c' ∧ Below w1.heap.size w1 (wr.setCell ⟨w1.heap.size, k, none⟩ (W64 s))) := fun s c' he => by
          refine ⟨by rw [List.length_set]; exact hSl.out, ?_, by rw [valW_set_take (by have := hSl.out; omega)]; exact he, hB.out.setCell (Nat.le_refl _) _⟩
          rw [List.map_set]
          exact (hO.out.stored k (W64 s)).1
        obtain ⟨z, hz⟩ : ∃ v, wr.cell? ⟨w1.heap.size, k, none⟩ = some v := ⟨_, by rw [hO.out.cellAt k (by omega), List.getElem?_eq_getElem (by rw [List.length_map, hSl.out]; omega)]⟩
        have hzf : wr.frozen? ⟨w1.heap.size, k, none⟩ = false := hO.out.frozenAt _
        have hlt' : (k : Int) < (n : Int) := by omega
        have HB' := Lib.hid hB.out
        clear hc hO hSl hB
        by_cases hlm : k < m
        · obtain ⟨b', o', y, rfl, hcy', hy⟩ := S2.out.at k hlm
          have hcY := (HB'.out.cell (p := ⟨b', o' + k, none⟩) (lt_of_cell hcy')).trans hcy'
          obtain ⟨s, c', hrun, hc1, hsum⟩ := sub64_ex x.toNat y.toNat cy hcy x.toNat_lt y.toNat_lt
          have F := Lib.hid (fin.out s c' (by
            rw [valW_take hx.out, valW_take hy.out]
            exact sub_step hV.out hsum.out))
          have hlm' : (k : Int) < (m : Int) := by omega
          clear hcy' hlm hlt
          go_wp2_with (simp only [hrun])
          go_roundw
          case rel => exact ⟨k + 1, c', _, by omega, hc1, rfl, by go_num, F.out.1, F.out.2.1, F.out.2.2.1, F.out.2.2.2⟩
          case measure => simp [intOf]; omega
        · obtain ⟨s, c', hrun, hc1, hsum⟩ := sub64_ex x.toNat 0 cy hcy x.toNat_lt (by decide)
          have F := Lib.hid (fin.out s c' (by
            rw [valW_take hx.out, valW_take_none (by have := HL.out.2.1; omega)]
            have := sub_step (B := valW (ys.take k)) (b := 18446744073709551616) (i := k) hV.out hsum.out
            rwa [Nat.mul_zero, Nat.add_zero] at this))
          have hlm' : ¬ (k : Int) < (m : Int) := by omega
          have hrun' : ∀ w, (callFunc 121 #[.int .u64 x.toNat, .int .u64 0, .int .u64 cy]).run Tryz.prog w = .ok (.value (.tuple #[W64 s, .int .u64 c'])) w := hrun
          clear hlm hlt hrun
          go_wp2_with (simp only [hrun'])
          go_roundw
          case rel => exact ⟨k + 1, c', _, by omega, hc1, rfl, by go_num, F.out.1, F.out.2.1, F.out.2.2.1, F.out.2.2.2⟩
          case measure => simp [intOf]; omega
      · obtain rfl : k = n := by omega
        have hval : Hid (valW S = M - N) := by
          have hv := hV.out
          rw [valW_take_all (by have := hSl.out; omega), valW_take_all (by have := HL.out.2.1; omega), valW_take_all (by have := HL.out.1; omega), HL.out.2.2.1, HL.out.2.2.2.1] at hv
          have h3 := valW_lt S
          rw [hSl.out] at h3
          exact sub_end hv h3 HL.out.2.2.2.2
        have hmade := made_any _ _ _ S wr (Sl.of_owns hO.out) (lies_of_owns hO.out)
        rw [hval.out] at hmade
        have HMD := Lib.hid hmade
        have hsz := hB.out.size
        have k2 : wr.heap[w.heap.size + 1 + 1]? = some (.cells #[.slice none 0 0] 40 (0, 0)) := (hB.out.block _ (blk_lt K2.out)).trans K2.out
        have KK := Lib.hid k2
        have HB3 : Hid (Below w.heap.size w wr) := HB.out.trans (hB.out.mono HB.out.size)
        have HCap : Hid (M - N < capN) := Nat.lt_of_le_of_lt (Nat.sub_le _ _) H1.out.lt
        clear hO hSl hB hV hlt hmade k2
        go_wp2_with fail
        refine Calls.mono HMD.out ?_
        rintro e w5 hr
        obtain ⟨q5, n5, c5, rfl, hw5, hb5⟩ := hr.ok HCap.out
        have k2 : w5.heap[w.heap.size + 1 + 1]? = some (.cells #[.slice none 0 0] 40 (0, 0)) := (hb5.block _ (blk_lt KK.out)).trans KK.out
        obtain ⟨_, x1, x2, x3, x4⟩ := One.of k2
        have F : Hid ((w5.setCell ⟨w.heap.size + 1 + 1, 0, none⟩ (.slice q5 n5 c5)).heap[w.heap.size + 1 + 1]? = some (.cells #[.slice q5 n5 c5] 40 (0, 0)) ∧ Ws 44 (w5.setCell ⟨w.heap.size + 1 + 1, 0, none⟩ (.slice q5 n5 c5)) q5 n5 c5 (M - N) ∧ Below w.heap.size w (w5.setCell ⟨w.heap.size + 1 + 1, 0, none⟩ (.slice q5 n5 c5))) := ⟨hss k2, hw5.set k2 (by decide), (HB3.out.trans (hb5.mono HB3.out.size)).setCell (show w.heap.size ≤ w.heap.size + 1 + 1 by omega) _⟩
        clear hr hw5 hb5 k2
        go_wp2
        exact bodyPost_ret (res_cell_tmp rfl _ _ _ 40 #[.slice q5 n5 c5] (0, 0) _ (.int .i64 0) rfl F.out.1 rfl Tryz.underlying40 rfl hinfo) rfl (Or.inl ⟨HL.out.2.2.2.2, _, _, _, rfl, F.out.2.1, F.out.2.2⟩)
end Go.Proofs.YtfbmdlfkipipfaaGreatDoor
namespace Go.By
open Go.RowKit
end Go.By
namespace Go.Proofs.YtfbmdlfkipipfaaGreatDoor
open Go.RowKit Go.By
end Go.Proofs.YtfbmdlfkipipfaaGreatDoor
namespace Go.By
open Go.RowKit
theorem powW_eq (k : Nat) : powW k = 256 ^ (8 * k) := by
  unfold powW
  rw [show (18446744073709551616 : Nat) = 256 ^ 8 from rfl, ← Nat.pow_mul]
theorem capN_eq {j k : Nat} (hj : j = 512) (hk : k = 8 * j) : capN = 256 ^ k := by
  show powW 512 = _
  rw [← hj, powW_eq, hk]
theorem lt_cap {N k : Nat} (h : N < 256 ^ k) (hk : k ≤ 4096) : N < capN := by
  obtain ⟨j, hj⟩ : ∃ j, j = 512 := ⟨_, rfl⟩
  obtain ⟨i, hi⟩ : ∃ i, i = 8 * j := ⟨_, rfl⟩
  rw [capN_eq hj hi]
  exact Nat.lt_of_lt_of_le h (Nat.pow_le_pow_right (by decide) (by omega))
theorem RetW.ok {T : TypeId} {w w' : World} {N k : Nat} {e : Ending} (h : RetW T w N k e w') (hN : ∀ j, j ≤ k → N ^ j < capN) : RetN T w (N ^ k) e w' := by
  rcases h with h | ⟨⟨j, hj, hc⟩, _⟩
  · exact h.2
  · have := hN j hj; omega
theorem RetD.ok {T : TypeId} {w w' : World} {M N : Nat} {e : Ending} (h : RetD T w M N e w') (hN : N ≤ M) : RetN T w (M - N) e w' := by
  rcases h with h | h
  · exact h.2
  · omega
theorem RetD.less {T : TypeId} {w w' : World} {M N : Nat} {e : Ending} (h : RetD T w M N e w') (hN : M < N) : Ret0 w 2 e w' := by
  rcases h with h | h
  · omega
  · exact h.2
theorem ba1 (w : World) (o : Obj) : Below w.heap.size w (w.alloc o) := al (Below.refl _ _) (Nat.le_refl _)
theorem ba2 (w : World) (o o2 : Obj) : Below w.heap.size w ((w.alloc o).alloc o2) := bl (ba1 w o) (ba1 _ o2) (ba1 w o).size
/-- a box that holds a number -/
def NBox (T U : TypeId) (W : World) (b N : Nat) : Prop := ∃ q n c, W.heap[b]? = some (.cells #[.slice q n c] T (0, 0)) ∧ Ws U W q n c N
theorem NBox.keep {T U : TypeId} {w w' : World} {b N : Nat} (h : NBox T U w b N) (hb : Below w.heap.size w w') : NBox T U w' b N := by
  obtain ⟨q, n, c, k, hw⟩ := h
  exact ⟨q, n, c, (hb.block _ (blk_lt k)).trans k, hw.keep hb⟩
theorem NBox.new {T U : TypeId} {w : World} {q : Option Addr} {n c N : Nat} (h : Ws U w q n c N) : NBox T U (w.alloc (.cells #[.slice q n c] T)) w.heap.size N :=
  ⟨q, n, c, hnew rfl, h.keep (al (Below.refl _ _) (Nat.le_refl _))⟩
theorem Ws.on {T : TypeId} {w : World} {q : Option Addr} {n c N : Nat} (h : Ws T w q n c N) {o o2 : Obj} : Ws T ((w.alloc o).alloc o2) q n c N := (h.keep (al (Below.refl _ _) (Nat.le_refl _))).keep (al (Below.refl _ _) (Nat.le_refl _))
theorem Ws.on1 {T : TypeId} {w : World} {q : Option Addr} {n c N : Nat} (h : Ws T w q n c N) {o : Obj} : Ws T (w.alloc o) q n c N := h.keep (al (Below.refl _ _) (Nat.le_refl _))
end Go.By
namespace Go.Proofs.YtfbmdlfkipipfaaGreatDoor
open Go.RowKit Go.By
theorem Mul2_ok {p : Option Addr} {c M N : Nat} {w : World} (h : Nsl 44 w p 2 c [M, N]) (h1 : M < capN) (hc : M * N < capN) : Calls Tryz.prog 21 #[.slice p 2 c] w (RetN 44 w (M * N)) :=
  (Mul_nat p 2 c _ w h).mono fun e w' hr => (hr.two h1).ok hc
theorem Pow_ok {p : Option Addr} {m c N k : Nat} {w : World} (h : Ws 44 w p m c N) (hk : k ≤ 65536) (hN : ∀ j, j ≤ k → N ^ j < capN) : Calls Tryz.prog 17 #[.agg #[.slice p m c], .int .i64 k] w (RetN 44 w (N ^ k)) :=
  (Pow_any p m c N k w h hk).mono fun e w' hr => hr.ok hN
theorem Sub_ok {p q : Option Addr} {n c m d M N : Nat} {w : World} (h1 : Ws 44 w p n c M) (h2 : Ws 44 w q m d N) (hN : N ≤ M) : Calls Tryz.prog 71 #[.agg #[.slice p n c], .agg #[.slice q m d]] w (RetN 44 w (M - N)) :=
  (Sub_nat p q n c m d M N w h1 h2).mono fun e w' hr => hr.ok hN
theorem Cmp_same {p q : Option Addr} {n c m d M N : Nat} {w : World} (h1 : Ws 44 w p n c M) (h2 : Ws 44 w q m d N) (h : M = N) : Calls Tryz.prog 22 #[.agg #[.slice p n c], .agg #[.slice q m d]] w fun e w' => e = .returned (.int .i64 0) ∧ Below w.heap.size w w' := by
  have := Cmp_any p q n c m d M N w h1 h2
  rwa [cmpN_eq h] at this
end Go.Proofs.YtfbmdlfkipipfaaGreatDoor
namespace Go.By
open Go.RowKit
/-- a store into a block of one cell, of element type X, numbered B or more -/
structure StepN (B X : Nat) (w w' : World) : Prop where
  os : w'.os = w.os
  tape : w'.tape = w.tape
  output : w'.output = w.output
  size : w.heap.size ≤ w'.heap.size
  keep : ∀ k, k < w.heap.size → (k < B ∨ ∀ (cs : Array Value) fr, w.heap[k]? = some (Obj.cells cs X fr) → cs.size ≠ 1) → w'.heap[k]? = w.heap[k]?
  cells : ∀ (k : Nat) (cs : Array Value), w.heap[k]? = some (Obj.cells cs X (0, 0)) → ∃ cs' : Array Value, cs'.size = cs.size ∧ w'.heap[k]? = some (Obj.cells cs' X (0, 0))
section
variable (B X : Nat)
end
section
variable {B X : Nat}
theorem Ws.step {T : TypeId} {w w' : World} {q : Option Addr} {n c N : Nat} (h : Ws T w q n c N) (hb : StepN B X w w') (hne : T ≠ X) : Ws T w' q n c N := by
  obtain ⟨ws, hs, hn, hv⟩ := h.ex
  have key : ∀ a, q = some a → w'.heap[a.block]? = w.heap[a.block]? := fun a ha => by
    obtain ⟨cs, fr, hc⟩ := h.lies a ha
    exact hb.keep _ (lt_of_block hc) (.inr fun cs' fr' hc' => by rw [hc] at hc'; cases hc'; exact absurd rfl hne)
  refine ⟨⟨ws, ⟨hs.len, hs.le, hs.max, hs.nil, fun i hi => ?_⟩, hn, hv⟩, h.le, fun a ha => ?_⟩
  · obtain ⟨b, o, hp, hc⟩ := hs.rs i hi
    exact ⟨b, o, hp, (World.cell?_of_block (a := ⟨b, o + i, none⟩) (key ⟨b, o, none⟩ hp)).trans hc⟩
  · obtain ⟨cs, fr, hc⟩ := h.lies a ha
    exact ⟨cs, fr, (key a ha).trans hc⟩
end
end Go.By
namespace Go.By
/-- full ones: 256^n - 256^i, for each column -/
def fullN (n : Nat) : Nat → Nat
  | 0 => 1
  | r + 1 => fullN n r * (256 ^ n - 256 ^ r)
end Go.By
namespace Go.By
open Go.RowKit
/-- a block holds this -/
def BlkIs (b : Nat) (o : Obj) (W : World) : Prop := W.heap[b]? = some o
theorem BlkIs.keep {b : Nat} {o : Obj} {W W' : World} (h : BlkIs b o W) (hb : Below W.heap.size W W') : BlkIs b o W' := (hb.block _ (blk_lt h)).trans h
structure Bel (w0 W : World) : Prop where
  out : Below w0.heap.size w0 W
theorem Bel.keep {w0 W W' : World} (h : Bel w0 W) (hb : Below W.heap.size W W') : Bel w0 W' := ⟨bl h.out hb h.out.size⟩
/-- a number is what a function gives: its cell is written last -/
theorem ret_num {T U : TypeId} {w0 w : World} {q : Option Addr} {n c N g : Nat} {u : Value} (K : w.heap[g]? = some (.cells #[u] T (0, 0))) (hg : w0.heap.size ≤ g) (hB : Below w0.heap.size w0 w) (hw : Ws U w q n c N) (hne : T ≠ U) :
    Ws U (w.setCell ⟨g, 0, none⟩ (.slice q n c)) q n c N ∧ Below w0.heap.size w0 (w.setCell ⟨g, 0, none⟩ (.slice q n c)) ∧ (w.setCell ⟨g, 0, none⟩ (.slice q n c)).heap[g]? = some (.cells #[.slice q n c] T (0, 0)) :=
  ⟨hw.set K hne, hB.setCell hg _, hss K⟩
end Go.By
namespace Go.Proofs.YtfbmdlfkipipfaaGreatDoor
open Go.RowKit Go.By
theorem Of_k (k : Nat) (hk : k < 18446744073709551616) (W : World) : Calls Tryz.prog 16 #[.int .u64 k] W (RetN1 44 W k) := by
  have := OfN_any (UInt64.ofNat k) W
  have e : (UInt64.ofNat k).toNat = k := by simp; omega
  rwa [e, show W64 (UInt64.ofNat k) = .int .u64 k by unfold W64; rw [e]] at this
theorem pow256 {j : Nat} (h : j ≤ 4095) : 256 ^ j < capN := lt_cap (k := j + 1) (Nat.pow_lt_pow_right (by decide) (by omega)) (by omega)
end Go.Proofs.YtfbmdlfkipipfaaGreatDoor
namespace Go.Proofs.YtfbmdlfkipipfaaGreatDoor
open Go.RowKit Go.By
end Go.Proofs.YtfbmdlfkipipfaaGreatDoor
namespace Go.Proofs.YtfbmdlfkipipfaaGreatDoor
open Go.RowKit Go.By
end Go.Proofs.YtfbmdlfkipipfaaGreatDoor
namespace Go.Proofs.YtfbmdlfkipipfaaGreatDoor
open Go.RowKit Go.By
set_option maxRecDepth 100000 in
set_option maxHeartbeats 1000000 in
theorem powN_any (n : Nat) (hn : n ≤ 4095) (w : World) : Calls Tryz.prog 72 #[.int .i64 n] w (RetN 44 w (256 ^ n)) := by
  have hinfo := info_nat
  go_enter Tryz.func72, Tryz.ntmps72
  go_wp2_with fail
  refine Calls.mono (Of_k 256 (by decide) _) ?_
  rintro e w1 ⟨q1, m1, d1, rfl, hw, hb⟩
  have K1 : Hid (BlkIs w.heap.size (.cells #[.slice none 0 0] 40) w1) := BlkIs.keep (hnew rfl) hb
  have B1 : Hid (Bel w w1) := (Bel.mk (ba1 w _)).keep hb
  have F1 := Lib.hid hw
  clear hw hb
  go_wp2_with fail
  refine Calls.mono (Pow_ok F1.out (by omega) (fun j hj => pow256 (by omega))) ?_
  rintro e w2 ⟨q2, m2, d2, rfl, hw, hb⟩
  have K2 := K1.out.keep hb
  have R := Lib.hid (ret_num K2 (Nat.le_refl _) (B1.out.keep hb).out hw (by decide))
  obtain ⟨_, a1, a2, a3, a4⟩ := One.of K2
  clear hw hb K1 B1 F1 K2
  go_wp2
  exact bodyPost_ret (res_cell_tmp rfl _ _ _ 40 #[.slice q2 m2 d2] (0, 0) _ (.int .i64 0) rfl R.out.2.2 rfl Tryz.underlying40 rfl hinfo) rfl ⟨_, _, _, rfl, R.out.1, R.out.2.1⟩
set_option maxRecDepth 100000 in
set_option maxHeartbeats 1000000 in
theorem fits_yes (n k : Nat) (hn : n ≤ 20) (hk1 : 1 ≤ k) (hk : k ≤ 20) (w : World) : Calls Tryz.prog 119 #[.int .i64 n, .int .i64 k] w fun e w' => e = .returned (.bool true) ∧ w = w' := by
  obtain ⟨P, hP⟩ : ∃ P, P = n * k := ⟨_, rfl⟩
  have hPb : P ≤ 400 := by rw [hP]; exact Nat.mul_le_mul hn hk
  have wm : IntKind.i64.wrap ((n : Int) * (k : Int)) = (P : Int) := by rw [hP, ← Int.natCast_mul]; exact Go.IntWalk.i64_in _ (by omega)
  have h1 : (1 : Int) ≤ (k : Int) := by omega
  have h2 : (n : Int) ≤ 4096 := by omega
  have h3 : (k : Int) ≤ 4096 := by omega
  have h4 : (P : Int) < 4096 := by omega
  clear hP hPb hn hk1 hk
  go_enter Tryz.func119, Tryz.ntmps119
  go_wp2
  go_ret
  exact ⟨rfl, rfl⟩
set_option maxRecDepth 100000 in
set_option maxHeartbeats 1000000 in
theorem Spare_any (n : Nat) (hn : n ≤ 4095) (w : World) : Calls Tryz.prog 27 #[.int .i64 n] w (RetN 44 w (256 ^ n)) := by
  have hinfo := info_nat
  have h1 : (n : Int) < 4096 := by omega
  go_enter Tryz.func27, Tryz.ntmps27
  go_wp2_with fail
  refine Calls.mono (powN_any n hn _) ?_
  rintro e w2 ⟨q2, m2, d2, rfl, hw, hb⟩
  have K2 : w2.heap[w.heap.size]? = some (.cells #[.slice none 0 0] 40 (0, 0)) := (hb.block _ (by simp)).trans (hnew rfl)
  have R := Lib.hid (ret_num K2 (Nat.le_refl _) ((Bel.mk (ba1 w _)).keep hb).out hw (by decide))
  obtain ⟨_, a1, a2, a3, a4⟩ := One.of K2
  clear hw hb K2
  go_wp2
  exact bodyPost_ret (res_cell_tmp rfl _ _ _ 40 #[.slice q2 m2 d2] (0, 0) _ (.int .i64 0) rfl R.out.2.2 rfl Tryz.underlying40 rfl hinfo) rfl ⟨_, _, _, rfl, R.out.1, R.out.2.1⟩
set_option maxRecDepth 100000 in
set_option maxHeartbeats 1000000 in
theorem All_any (n k : Nat) (hn : n ≤ 20) (hk1 : 1 ≤ k) (hk : k ≤ 20) (w : World) : Calls Tryz.prog 69 #[.int .i64 n, .int .i64 k] w (RetN 44 w (256 ^ (n * k))) := by
  have hinfo := info_nat
  obtain ⟨P, hP⟩ : ∃ P, P = n * k := ⟨_, rfl⟩
  have hPb : P ≤ 400 := by rw [hP]; exact Nat.mul_le_mul hn hk
  have wm : IntKind.i64.wrap ((n : Int) * (k : Int)) = (P : Int) := by rw [hP, ← Int.natCast_mul]; exact Go.IntWalk.i64_in _ (by omega)
  rw [← hP]
  clear hP
  have HF : Hid (∀ W, Calls Tryz.prog 119 #[.int .i64 n, .int .i64 k] W fun e w' => e = .returned (.bool true) ∧ W = w') := fun W => fits_yes n k hn hk1 hk W
  go_enter Tryz.func69, Tryz.ntmps69
  go_wp2_with fail
  refine Calls.mono (HF.out _) ?_
  rintro e w' ⟨rfl, rfl⟩
  go_wp2_with fail
  refine Calls.mono (powN_any P (by omega) _) ?_
  rintro e w2 ⟨q2, m2, d2, rfl, hw, hb⟩
  have K2 : w2.heap[w.heap.size]? = some (.cells #[.slice none 0 0] 40 (0, 0)) := (hb.block _ (by simp)).trans (hnew rfl)
  have R := Lib.hid (ret_num K2 (Nat.le_refl _) ((Bel.mk (ba1 w _)).keep hb).out hw (by decide))
  obtain ⟨_, a1, a2, a3, a4⟩ := One.of K2
  clear hw hb K2
  go_wp2
  exact bodyPost_ret (res_cell_tmp rfl _ _ _ 40 #[.slice q2 m2 d2] (0, 0) _ (.int .i64 0) rfl R.out.2.2 rfl Tryz.underlying40 rfl hinfo) rfl ⟨_, _, _, rfl, R.out.1, R.out.2.1⟩
set_option maxRecDepth 100000 in
set_option maxHeartbeats 1000000 in
theorem without_any (n i : Nat) (hn : n ≤ 4095) (hi : i ≤ n) (w : World) : Calls Tryz.prog 120 #[.int .i64 n, .int .i64 i] w (RetN 44 w (256 ^ n - 256 ^ i)) := by
  have hinfo := info_nat
  have hle : Hid ((256 : Nat) ^ i ≤ 256 ^ n) := Nat.pow_le_pow_right (by decide) hi
  go_enter Tryz.func120, Tryz.ntmps120
  go_wp2_with fail
  refine Calls.mono (powN_any n hn _) ?_
  rintro e w1 ⟨q1, m1, d1, rfl, hw, hb⟩
  have K1 : Hid (BlkIs w.heap.size (.cells #[.slice none 0 0] 40) w1) := BlkIs.keep (hnew rfl) hb
  have B1 : Hid (Bel w w1) := (Bel.mk (ba1 w _)).keep hb
  have F1 := Lib.hid hw
  clear hw hb
  go_wp2_with fail
  refine Calls.mono (powN_any i (by omega) _) ?_
  rintro e w2 ⟨q2, m2, d2, rfl, hw, hb⟩
  have hbb : Below w1.heap.size w1 w2 := bl (ba1 w1 _) hb (ba1 w1 _).size
  have K2 := Lib.hid (K1.out.keep hbb)
  have B2 := Lib.hid (B1.out.keep hbb)
  have F2 := Lib.hid (F1.out.keep hbb)
  have X2 : w2.heap[w1.heap.size]? = some (.cells #[.slice q1 m1 d1] 40 (0, 0)) := (hb.block _ (by simp)).trans (hnew rfl)
  obtain ⟨_, e1, e2, e3, e4⟩ := One.of X2
  have G2 := Lib.hid hw
  clear hw hb hbb K1 B1 F1 X2
  go_wp2_with fail
  refine Calls.mono (Sub_ok F2.out.on1 G2.out.on1 hle.out) ?_
  rintro e w3 ⟨q3, m3, d3, rfl, hw, hb⟩
  have hbb : Below w2.heap.size w2 w3 := bl (ba1 w2 _) hb (ba1 w2 _).size
  have K3 := K2.out.keep hbb
  have R := Lib.hid (ret_num K3 (Nat.le_refl _) (B2.out.keep hbb).out hw (by decide))
  obtain ⟨_, a1, a2, a3, a4⟩ := One.of K3
  clear hw hb hbb K2 B2 F2 G2 K3 e1 e2 e3 e4
  go_wp2
  exact bodyPost_ret (res_cell_tmp rfl _ _ _ 40 #[.slice q3 m3 d3] (0, 0) _ (.int .i64 0) rfl R.out.2.2 rfl Tryz.underlying40 rfl hinfo) rfl ⟨_, _, _, rfl, R.out.1, R.out.2.1⟩
end Go.Proofs.YtfbmdlfkipipfaaGreatDoor
namespace Go.By
open Go.RowKit
theorem fullN_le (n : Nat) : ∀ r, fullN n r ≤ 256 ^ (n * r)
  | 0 => by rw [Nat.mul_zero]; exact Nat.le_refl _
  | r + 1 => by
    rw [Nat.mul_succ, Nat.pow_add]
    exact Nat.mul_le_mul (fullN_le n r) (Nat.sub_le _ _)
/-- how many are full -/
def fullC (n k : Nat) : Nat := if k ≤ n then fullN n k else 0
theorem fullC_le (n k : Nat) : fullC n k ≤ 256 ^ (n * k) := by
  unfold fullC
  split
  · exact fullN_le n k
  · exact Nat.zero_le _
/-- a box's number is turned -/
theorem NBox.set {T U : TypeId} {w : World} {b M N : Nat} {q : Option Addr} {n c : Nat} (h : NBox T U w b M) (hw : Ws U w q n c N) (hne : T ≠ U) : NBox T U (w.setCell ⟨b, 0, none⟩ (.slice q n c)) b N := by
  obtain ⟨q1, n1, c1, k, _⟩ := h
  exact ⟨q, n, c, hss k, hw.set k hne⟩
end Go.By
namespace Go.Proofs.YtfbmdlfkipipfaaGreatDoor
open Go.RowKit Go.By
set_option maxRecDepth 100000 in
set_option maxHeartbeats 1000000 in
theorem Full_less (n k : Nat) (hn : n ≤ 20) (hk : k ≤ 20) (hlt : n < k) (w : World) : Calls Tryz.prog 70 #[.int .i64 n, .int .i64 k] w (RetN 44 w 0) := by
  have hinfo := info_nat
  have HF : Hid (∀ W, Calls Tryz.prog 119 #[.int .i64 n, .int .i64 k] W fun e w' => e = .returned (.bool true) ∧ W = w') := fun W => fits_yes n k hn (by omega) hk W
  have h1 : (n : Int) < (k : Int) := by omega
  clear hlt
  go_enter Tryz.func70, Tryz.ntmps70
  go_wp2_with fail
  refine Calls.mono (HF.out _) ?_
  rintro e w' ⟨rfl, rfl⟩
  go_wp2_with fail
  refine Calls.mono (Of_k 0 (by decide) _) ?_
  rintro e w2 ⟨q2, m2, d2, rfl, hw, hb⟩
  have K2 : w2.heap[w.heap.size]? = some (.cells #[.slice none 0 0] 40 (0, 0)) := (hb.block _ (by simp)).trans (hnew rfl)
  have R := Lib.hid (ret_num K2 (Nat.le_refl _) ((Bel.mk (ba1 w _)).keep hb).out hw (by decide))
  obtain ⟨_, a1, a2, a3, a4⟩ := One.of K2
  clear hw hb K2
  go_wp2
  exact bodyPost_ret (res_cell_tmp rfl _ _ _ 40 #[.slice q2 m2 d2] (0, 0) _ (.int .i64 0) rfl R.out.2.2 rfl Tryz.underlying40 rfl hinfo) rfl ⟨_, _, _, rfl, R.out.1, R.out.2.1⟩
set_option maxRecDepth 100000 in
set_option maxHeartbeats 2000000 in
theorem Full_more (n k : Nat) (hn : n ≤ 20) (hk1 : 1 ≤ k) (hk : k ≤ n) (w : World) : Calls Tryz.prog 70 #[.int .i64 n, .int .i64 k] w (RetN 44 w (fullN n k)) := by
  have hinfo := info_nat
  have HF : Hid (∀ W, Calls Tryz.prog 119 #[.int .i64 n, .int .i64 k] W fun e w' => e = .returned (.bool true) ∧ W = w') := fun W => fits_yes n k hn hk1 (by omega) W
  have h1 : (k : Int) ≤ (n : Int) := by omega
  have HK := Lib.hid hk
  clear hk
  go_enter Tryz.func70, Tryz.ntmps70
  go_wp2_with fail
  refine Calls.mono (HF.out _) ?_
  rintro e w' ⟨rfl, rfl⟩
  go_wp2_with fail
  refine Calls.mono (Of_k 1 (by decide) _) ?_
  rintro e w2 ⟨q2, m2, d2, rfl, hw, hb⟩
  have K2 : Hid (BlkIs w.heap.size (.cells #[.slice none 0 0] 40) w2) := BlkIs.keep (hnew rfl) hb
  have B2 : Hid (Bel w w2) := (Bel.mk (ba1 w _)).keep hb
  have K3 := Lib.hid (K2.out.keep (ba1 w2 (.cells #[.slice q2 m2 d2] 40)))
  have B3 := Lib.hid (B2.out.keep (ba1 w2 (.cells #[.slice q2 m2 d2] 40)))
  have N3 : Hid (NBox 40 44 (w2.alloc (.cells #[.slice q2 m2 d2] 40)) w2.heap.size 1) := NBox.new hw
  have hlt : w.heap.size < w2.heap.size := by have := hb.size; simp at this; omega
  clear hw hb K2 B2
  go_wp2
  generalize w2.alloc (.cells #[.slice q2 m2 d2] 40) = w3 at *
  generalize w2.heap.size = bf at *
  go_loopw [21] (fun iv wr => ∃ i : Nat, i ≤ k ∧ iv = .int .i64 i ∧ Hid (BlkIs w.heap.size (.cells #[.slice none 0 0] 40) wr) ∧ Hid (Bel w wr) ∧ Hid (NBox 40 44 wr bf (fullN n i))) (fun iv _ => k - (intOf iv).toNat)
  case atStart => exact ⟨0, Nat.zero_le _, rfl, K3.out, B3.out, N3.out⟩
  case round =>
    clear K3 B3 N3
    obtain ⟨i, hi, rfl, hK, hB, hN⟩ := hrel
    by_cases hik : i < k
    · have hik' : (i : Int) < (k : Int) := by omega
      have HB1 : Hid (fullN n i < capN ∧ fullN n i * (256 ^ n - 256 ^ i) < capN) := by
        have e1 : n * i ≤ 20 * 20 := Nat.mul_le_mul hn (show i ≤ 20 by have := HK.out; omega)
        have e2 : n * (i + 1) ≤ 20 * 20 := Nat.mul_le_mul hn (show i + 1 ≤ 20 by have := HK.out; omega)
        exact ⟨Nat.lt_of_le_of_lt (fullN_le n i) (pow256 (by omega)), Nat.lt_of_le_of_lt (fullN_le n (i + 1)) (pow256 (by omega))⟩
      have HI := Lib.hid hik
      clear hik
      go_wp2_with fail
      refine Calls.mono (without_any n i (by omega) (by have := HK.out; have := HI.out; omega) _) ?_
      rintro e w4 ⟨q4, m4, d4, rfl, hw, hb⟩
      have K4 := Lib.hid (hK.out.keep hb); have B4 := Lib.hid (hB.out.keep hb); have N4 := Lib.hid (hN.out.keep hb)
      have F4 := Lib.hid hw
      clear hw hb hK hB hN
      obtain ⟨qf, nf, cf, kf, xf⟩ := N4.out
      obtain ⟨_, e1, e2, e3, e4⟩ := One.of kf
      have Xf := Lib.hid xf
      have Kf := Lib.hid kf
      clear kf xf
      go_wp2_with fail
      refine Calls.mono (Mul2_ok (Nsl.two (hnew (by simp)) Xf.out.on F4.out.on) HB1.out.1 HB1.out.2) ?_
      rintro e w5 ⟨q5, m5, d5, rfl, hw, hb⟩
      have hbb : Below w4.heap.size w4 w5 := bl (ba2 w4 _ _) hb (ba2 w4 _ _).size
      have kf5 : w5.heap[bf]? = some (.cells #[.slice qf nf cf] 40 (0, 0)) := (hbb.block _ (blk_lt Kf.out)).trans Kf.out
      have K5 := K4.out.keep hbb
      have F : Hid (BlkIs w.heap.size (.cells #[.slice none 0 0] 40) (w5.setCell ⟨bf, 0, none⟩ (.slice q5 m5 d5)) ∧ Bel w (w5.setCell ⟨bf, 0, none⟩ (.slice q5 m5 d5)) ∧ NBox 40 44 (w5.setCell ⟨bf, 0, none⟩ (.slice q5 m5 d5)) bf (fullN n (i + 1))) :=
        ⟨hsc K5 (by show w.heap.size ≠ bf; omega), ⟨(B4.out.keep hbb).out.setCell (by show w.heap.size ≤ bf; omega) _⟩, (N4.out.keep hbb).set hw (by decide)⟩
      obtain ⟨_, f1, f2, f3, f4⟩ := One.of kf5
      clear hw hb hbb kf5 K5 K4 B4 N4 F4 Xf Kf e1 e2 e3 e4
      go_wp2
      go_roundw
      case rel => exact ⟨i + 1, by have := HI.out; omega, by go_num, F.out.1, F.out.2.1, F.out.2.2⟩
      case measure => simp [intOf]; have := HI.out; omega
    · obtain rfl : i = k := by omega
      obtain ⟨qf, nf, cf, kf, xf⟩ := hN.out
      obtain ⟨_, e1, e2, e3, e4⟩ := One.of kf
      have R := Lib.hid (ret_num hK.out (Nat.le_refl _) hB.out.out xf (by decide))
      obtain ⟨_, a1, a2, a3, a4⟩ := One.of hK.out
      clear kf xf hK hB hN hik
      go_wp2
      exact bodyPost_ret (res_cell_tmp rfl _ _ _ 40 #[.slice qf nf cf] (0, 0) _ (.int .i64 0) rfl R.out.2.2 rfl Tryz.underlying40 rfl hinfo) rfl ⟨_, _, _, rfl, R.out.1, R.out.2.1⟩
theorem Full_any (n k : Nat) (hn : n ≤ 20) (hk1 : 1 ≤ k) (hk : k ≤ 20) (w : World) : Calls Tryz.prog 70 #[.int .i64 n, .int .i64 k] w (RetN 44 w (fullC n k)) := by
  unfold fullC
  by_cases h : k ≤ n
  · rw [if_pos h]; exact Full_more n k hn hk1 h w
  · rw [if_neg h]; exact Full_less n k hn hk (by omega) w
set_option maxRecDepth 100000 in
set_option maxHeartbeats 1000000 in
theorem Fails_any (n k : Nat) (hn : n ≤ 20) (hk1 : 1 ≤ k) (hk : k ≤ 20) (w : World) : Calls Tryz.prog 26 #[.int .i64 n, .int .i64 k] w (RetN 44 w (256 ^ (n * k) - fullC n k)) := by
  have hinfo := info_nat
  have hle := Lib.hid (fullC_le n k)
  have HA : Hid (∀ W, Calls Tryz.prog 69 #[.int .i64 n, .int .i64 k] W (RetN 44 W (256 ^ (n * k)))) := fun W => All_any n k hn hk1 hk W
  have HU : Hid (∀ W, Calls Tryz.prog 70 #[.int .i64 n, .int .i64 k] W (RetN 44 W (fullC n k))) := fun W => Full_any n k hn hk1 hk W
  go_enter Tryz.func26, Tryz.ntmps26
  go_wp2_with fail
  refine Calls.mono (HA.out _) ?_
  rintro e w1 ⟨q1, m1, d1, rfl, hw, hb⟩
  have K1 : Hid (BlkIs w.heap.size (.cells #[.slice none 0 0] 40) w1) := BlkIs.keep (hnew rfl) hb
  have B1 : Hid (Bel w w1) := (Bel.mk (ba1 w _)).keep hb
  have F1 := Lib.hid hw
  clear hw hb
  go_wp2_with fail
  refine Calls.mono (HU.out _) ?_
  rintro e w2 ⟨q2, m2, d2, rfl, hw, hb⟩
  have hbb : Below w1.heap.size w1 w2 := bl (ba1 w1 _) hb (ba1 w1 _).size
  have K2 := Lib.hid (K1.out.keep hbb)
  have B2 := Lib.hid (B1.out.keep hbb)
  have F2 := Lib.hid (F1.out.keep hbb)
  have X2 : w2.heap[w1.heap.size]? = some (.cells #[.slice q1 m1 d1] 40 (0, 0)) := (hb.block _ (by simp)).trans (hnew rfl)
  obtain ⟨_, e1, e2, e3, e4⟩ := One.of X2
  have G2 := Lib.hid hw
  clear hw hb hbb K1 B1 F1 X2
  go_wp2_with fail
  refine Calls.mono (Sub_ok F2.out.on1 G2.out.on1 hle.out) ?_
  rintro e w3 ⟨q3, m3, d3, rfl, hw, hb⟩
  have hbb : Below w2.heap.size w2 w3 := bl (ba1 w2 _) hb (ba1 w2 _).size
  have K3 := K2.out.keep hbb
  have R := Lib.hid (ret_num K3 (Nat.le_refl _) (B2.out.keep hbb).out hw (by decide))
  obtain ⟨_, a1, a2, a3, a4⟩ := One.of K3
  clear hw hb hbb K2 B2 F2 G2 K3 e1 e2 e3 e4
  go_wp2
  exact bodyPost_ret (res_cell_tmp rfl _ _ _ 40 #[.slice q3 m3 d3] (0, 0) _ (.int .i64 0) rfl R.out.2.2 rfl Tryz.underlying40 rfl hinfo) rfl ⟨_, _, _, rfl, R.out.1, R.out.2.1⟩
end Go.Proofs.YtfbmdlfkipipfaaGreatDoor
namespace Go.Proofs.YtfbmdlfkipipfaaGreatDoor
open Go.RowKit Go.By
end Go.Proofs.YtfbmdlfkipipfaaGreatDoor
namespace Go.Proofs.YtfbmdlfkipipfaaGreatDoor
open Go.RowKit Go.By
end Go.Proofs.YtfbmdlfkipipfaaGreatDoor
namespace Go.Proofs.YtfbmdlfkipipfaaGreatDoor
open Go.RowKit Go.By
end Go.Proofs.YtfbmdlfkipipfaaGreatDoor
namespace Go.By
open Go.RowKit
end Go.By
namespace Go.Proofs.YtfbmdlfkipipfaaGreatDoor
open Go.RowKit Go.By
end Go.Proofs.YtfbmdlfkipipfaaGreatDoor
namespace Go.By
open Go.RowKit
section
variable {T T1 T2 : TypeId} {v : Value} {w w' : World}
end
end Go.By
namespace Go.Proofs.YtfbmdlfkipipfaaGreatDoor
open Go.RowKit Go.By
section
variable {wz w w' : World} {H b7 : Nat} {x7 y7 : Value} {vA vB : Value} {n : Nat} {K : List Rw} {k : Rw}
end
end Go.Proofs.YtfbmdlfkipipfaaGreatDoor
namespace Go.Proofs.YtfbmdlfkipipfaaGreatDoor
open Go.RowKit Go.By
end Go.Proofs.YtfbmdlfkipipfaaGreatDoor
namespace Go.By
open Go.RowKit
end Go.By
namespace Go.Proofs.YtfbmdlfkipipfaaGreatDoor
open Go.RowKit Go.By
end Go.Proofs.YtfbmdlfkipipfaaGreatDoor
namespace Go.Proofs.YtfbmdlfkipipfaaGreatDoor
open Go.RowKit Go.By
end Go.Proofs.YtfbmdlfkipipfaaGreatDoor
namespace Go.Proofs.YtfbmdlfkipipfaaGreatDoor
open Go.RowKit Go.By
end Go.Proofs.YtfbmdlfkipipfaaGreatDoor
namespace Go.Proofs.YtfbmdlfkipipfaaGreatDoor
open Go.RowKit Go.By
end Go.Proofs.YtfbmdlfkipipfaaGreatDoor
namespace Go.Proofs.YtfbmdlfkipipfaaGreatDoor
open Go.RowKit Go.By
theorem Ret0.ws {w w' : World} {code : Int} {e : Ending} (h : Ret0 w code e w') : ∃ q n d, e = .returned (.tuple #[.agg #[.slice q n d], .int .i64 code]) ∧ Ws 44 w' q n d 0 ∧ Below w.heap.size w w' :=
  ⟨none, 0, 0, h.1, Ws.zero _ _, h.2⟩
end Go.Proofs.YtfbmdlfkipipfaaGreatDoor
namespace Go.Proofs.YtfbmdlfkipipfaaGreatDoor
open Go.RowKit Go.By
end Go.Proofs.YtfbmdlfkipipfaaGreatDoor
namespace Go.Proofs.YtfbmdlfkipipfaaGreatDoor
open Go.RowKit Go.By Gf
end Go.Proofs.YtfbmdlfkipipfaaGreatDoor
namespace Go.By
open Go.RowKit Go.Proofs.YtfbmdlfkipipfaaGreatDoor Gf
theorem sent_fold {k t D : Nat} {FX XS VS BS : List (List UInt8)} (R : RelX k t D FX XS VS BS) (hF : ∀ x, x ∈ FX → x.length = t) (hk : FX.length = k) (k1 : 1 ≤ k) : ∀ i, i ≤ XS.length →
    ∃ X, OneObj k t FX X (tkR k t D (XS.take i)).1 ∧ X.map (fun x : Rw => x.1) = VS.take i ∧ (tkR k t D (XS.take i)).2 = stF (tkR k t D (XS.take i)).1 k
  | 0, _ => by
    refine ⟨[], OneObj.nil k t FX, rfl, ?_⟩
    show 0 = stF ([] : List Rw) k
    unfold stF
    rw [if_neg (by show (0 : Nat) ≠ k; omega)]
  | i + 1, hi => by
    obtain ⟨X, h1, h2, h3⟩ := sent_fold R hF hk k1 i (by omega)
    have hc : i < XS.length := by omega
    have hv : i < VS.length := by rw [R.l1]; exact hc
    have hb : i < BS.length := by rw [R.l2]; exact hc
    have ec := List.getElem?_eq_getElem hc
    have ev := List.getElem?_eq_getElem hv
    rw [tkR_snoc ec]
    generalize tkR k t D (XS.take i) = s at h1 h3 ⊢
    obtain ⟨K, st⟩ := s
    simp only at h1 h3
    subst h3
    obtain ⟨a1, a2, a3, -⟩ := R.at_ i _ _ _ ec ev (List.getElem?_eq_getElem hb)
    obtain ⟨t1, t2⟩ := h1.takeV hF hk a1 a2 a3
    refine ⟨_, t1, ?_, t2⟩
    rw [List.map_append, h2, List.take_add_one, ev]
    rfl
end Go.By
namespace Go.By
open Go.RowKit
end Go.By
namespace Go.Proofs.YtfbmdlfkipipfaaGreatDoor
open Go.RowKit Go.By
end Go.Proofs.YtfbmdlfkipipfaaGreatDoor
namespace Go.By
end Go.By
namespace Go.Proofs.YtfbmdlfkipipfaaGreatDoor
open Go.RowKit Go.By
end Go.Proofs.YtfbmdlfkipipfaaGreatDoor
namespace Go.By
open Go.RowKit
theorem NBox.blk {T U : TypeId} {w : World} {b N : Nat} (h : NBox T U w b N) : ∃ u, w.heap[b]? = some (.cells #[u] T (0, 0)) := by
  obtain ⟨q, n, c, k, hw⟩ := h
  exact ⟨_, k⟩
theorem NBox.lt {T U : TypeId} {w : World} {b N : Nat} (h : NBox T U w b N) : b < w.heap.size := by
  obtain ⟨u, k⟩ := h.blk; exact blk_lt k
end Go.By
namespace Go.Proofs.YtfbmdlfkipipfaaGreatDoor
open Go.RowKit Go.By
end Go.Proofs.YtfbmdlfkipipfaaGreatDoor
namespace Go.By
open Go.RowKit
/-- how many of the first m numbers pass -/
def cntB (g : Nat → Bool) : Nat → Nat
  | 0 => 0
  | i + 1 => cntB g i + (if g i then 1 else 0)
theorem cntB_all {g : Nat → Bool} : ∀ m, (∀ i, i < m → g i = true) → cntB g m = m
  | 0, _ => rfl
  | m + 1, h => by show cntB g m + _ = _; rw [cntB_all m (fun i hi => h i (by omega)), h m (by omega)]; rfl
theorem cntB_none {g : Nat → Bool} : ∀ m, (∀ i, i < m → g i = false) → cntB g m = 0
  | 0, _ => rfl
  | m + 1, h => by show cntB g m + _ = _; rw [cntB_none m (fun i hi => h i (by omega)), h m (by omega)]; rfl
theorem cntB_one {g : Nat → Bool} {u : Nat} : ∀ m, u < m → (∀ i, i < m → (g i = true ↔ i = u)) → cntB g m = 1
  | 0, hu, _ => by omega
  | m + 1, hu, h => by
    show cntB g m + _ = _
    by_cases e : u = m
    · subst e
      rw [cntB_none u (fun i hi => by
        cases hg : g i with
        | false => rfl
        | true => have := (h i (by omega)).1 hg; omega), (h u (by omega)).2 rfl]; rfl
    · have hm : g m = false := by
        cases hg : g m with
        | false => rfl
        | true => have := (h m (by omega)).1 hg; omega
      rw [cntB_one m (by omega) (fun i hi => h i (by omega)), hm]; rfl
theorem cntB_le (g : Nat → Bool) : ∀ m, cntB g m ≤ m
  | 0 => Nat.le_refl _
  | m + 1 => by have := cntB_le g m; show cntB g m + _ ≤ _; split <;> omega
end Go.By
namespace Go.Proofs.YtfbmdlfkipipfaaGreatDoor
open Go.RowKit Go.By
end Go.Proofs.YtfbmdlfkipipfaaGreatDoor
namespace Go.Proofs.YtfbmdlfkipipfaaGreatDoor
open Gf Go.By
def bare (rows : List (List UInt8)) : List Rw := rows.map fun r => (r, [])
theorem iK_bare (rows : List (List UInt8)) : iK rows = kD (bare rows) := by
  unfold iK kD bare; rw [List.foldl_map]
theorem bare_fit {n : Nat} {rows : List (List UInt8)} (h : ∀ r, r ∈ rows → r.length = n) : ∀ x, x ∈ bare rows → Fit n 0 x := fun x hx => by
  obtain ⟨r, hr, rfl⟩ := List.mem_map.1 hx
  exact ⟨h r hr, rfl⟩
theorem rest_bare {n : Nat} {K : List Rw} {r : List UInt8} (h : KeptS n 0 K) (hr : r.length = n) : (restF K (r, [])).2 = [] := by
  have := (Fit.rest (x := (r, [])) (fun k hk => (h.rows k hk).1) ⟨hr, rfl⟩).2
  exact List.length_eq_zero_iff.1 this
theorem iK_spg {n : Nat} {rows : List (List UInt8)} (h : ∀ r, r ∈ rows → r.length = n) : Spg n 0 (bare rows) (iK rows) := by
  rw [iK_bare]
  have hf := bare_fit h
  have all : ∀ j, calm (bare rows) j := by
    intro j
    induction j with
    | zero => intro i x hi; omega
    | succ j ih =>
      intro i x hi hx
      have S := calm_spg hf i (fun a y ha hy => ih a y (by omega) hy)
      obtain ⟨r, hr, rfl⟩ := List.mem_map.1 (List.mem_of_getElem? hx)
      unfold clashB
      rw [rest_bare S.kept (h r hr)]
      simp [zeroS]
  have := calm_spg hf (bare rows).length (all _)
  rwa [List.take_length] at this
/-- a row more leaves the rank just where it is a combination -/
theorem iK_stay {n : Nat} {rows : List (List UInt8)} {r : List UInt8} (h : ∀ r, r ∈ rows → r.length = n) (hr : r.length = n) : (iK (rows ++ [r])).length = (iK rows).length ↔ Sp ((iK rows).map vR) (vR (r, [])) := by
  have S := iK_spg h
  rw [← rest_span S.kept (x := (r, [])) ⟨hr, rfl⟩, iK_snoc]
  by_cases hl : leadS (restF (iK rows) (r, [])).1 < 0
  · have e : insF (iK rows) (r, []) = iK rows := by unfold insF; rw [norm_leadS, if_pos hl]
    rw [e, rest_nil S.kept (x := (r, [])) ⟨hr, rfl⟩ hl, rest_bare S.kept hr]
    simp [zeroS]
  · have e : (insF (iK rows) (r, [])).length = (iK rows).length + 1 := by
      rw [(ins_perm _ _).length_eq]; unfold keepF; rw [if_neg hl]; simp
    rw [e]
    constructor
    · intro g; omega
    · intro g
      exfalso
      refine hl ?_
      have hz : ∀ y, y ∈ (restF (iK rows) (r, [])).1 → y = 0 := fun y hy => by
        obtain ⟨j, hj, rfl⟩ := List.mem_iff_getElem.1 hy
        have hf := Fit.rest (x := (r, [])) (fun k hk => (S.kept.rows k hk).1) (show Fit n 0 (r, []) from ⟨hr, rfl⟩)
        have := g j
        rw [vR_left hf (by rw [← hf.1]; exact hj)] at this
        unfold vf at this
        rw [List.getD_eq_getElem?_getD, List.getElem?_eq_getElem hj] at this
        exact this
      exact Classical.byContradiction fun g2 => by
        have := zero_lead g2
        rw [zeroS_all.2 hz] at this
        cases this
theorem row2 (a b : UInt8) : vR ([a, b], []) = fun j => if j = 0 then a else if j = 1 then b else 0 := by
  funext j
  show vf ([a, b] ++ []) j = _
  unfold vf
  match j with
  | 0 => rfl
  | 1 => rfl
  | j + 2 => simp
theorem sp_one {u v : V} : Sp [u] v ↔ ∃ c, v = fun j => gmul c (u j) := by
  constructor
  · rintro ⟨c, hc, rfl⟩
    match c, hc with
    | [c], _ => exact ⟨c, by funext j; rw [comb_cons, comb_nil, xor_zero]⟩
  · rintro ⟨c, rfl⟩
    exact ⟨[c], rfl, by funext j; rw [comb_cons, comb_nil, xor_zero]⟩
/-- of a row [a, b]: is it a combination of two rows of two bytes? -/
theorem spare_cases {rows : List (List UInt8)} (h : ∀ r, r ∈ rows → r.length = 2) :
    ((iK rows).length = 0 ∧ (∀ r, r ∈ rows → r[0]? = some 0) ∧ ∀ a b, Sp ((iK rows).map vR) (vR ([a, b], [])) ↔ a = 0 ∧ b = 0) ∨
    ((iK rows).length = 1 ∧ (∃ r x, r ∈ rows ∧ r[0]? = some x ∧ x ≠ 0) ∧ ∃ u, ∀ a b, Sp ((iK rows).map vR) (vR ([a, b], [])) ↔ b = gmul a u) ∨
    ((iK rows).length = 1 ∧ (∀ r, r ∈ rows → r[0]? = some 0) ∧ ∀ a b, Sp ((iK rows).map vR) (vR ([a, b], [])) ↔ a = 0) ∨
    ((iK rows).length = 2 ∧ ∀ a b, Sp ((iK rows).map vR) (vR ([a, b], []))) := by
  have S := iK_spg h
  have two : ∀ k, k ∈ iK rows → ∃ a b, k = ([a, b], []) ∧ leadN k < 2 ∧ vR k (leadN k) = 1 ∧ ∀ j, j < leadN k → vR k j = 0 := fun k hk => by
    obtain ⟨hf, hl⟩ := S.kept.rows k hk
    obtain ⟨v, d⟩ := k
    have e2 : d = [] := List.length_eq_zero_iff.1 hf.2
    match v, hf.1 with
    | [a, b], _ => exact ⟨a, b, by rw [e2], hl.at.lt hf, vR_lead hf hl, fun j hj => vf_before hf hl hj⟩
  have first : ∀ r, r ∈ rows → ∃ x, r[0]? = some x ∧ vR (r, []) 0 = x := fun r hr => by
    match r, h r hr with
    | [a, b], _ => exact ⟨a, rfl, rfl⟩
  have inr : ∀ r, r ∈ rows → Sp ((iK rows).map vR) (vR (r, [])) := fun r hr => S.ge _ (List.mem_map.2 ⟨r, hr, rfl⟩)
  have nolead : (∀ k, k ∈ iK rows → vR k 0 = 0) → ∀ r, r ∈ rows → r[0]? = some 0 := fun g r hr => by
    obtain ⟨x, e1, e2⟩ := first r hr
    have := (inr r hr).at_zero (j := 0) (fun a ha => by obtain ⟨k, hk, rfl⟩ := List.mem_map.1 ha; exact g k hk)
    rw [e2] at this
    rw [e1, this]
  match hK : iK rows with
  | [] =>
    refine .inl ⟨rfl, nolead (fun k hk => by rw [hK] at hk; cases hk), fun a b => ?_⟩
    rw [row2]
    constructor
    · rintro ⟨c, _, e⟩
      have z : ∀ j, comb c (([] : List Rw).map vR) j = 0 := fun j => comb_nil c j
      have e0 := congrFun e 0; have e1 := congrFun e 1
      rw [z] at e0 e1
      exact ⟨e0, e1⟩
    · rintro ⟨rfl, rfl⟩
      have : (fun j => if j = 0 then (0 : UInt8) else if j = 1 then 0 else 0) = fun _ => 0 := by funext j; split <;> (try split) <;> rfl
      rw [this]; exact Sp.zero _
  | [k] =>
    obtain ⟨u0, u1, rfl, hl2, h1, h0⟩ := two k (by rw [hK]; simp)
    rw [row2] at h1 h0
    by_cases hl : leadN ([u0, u1], []) = 0
    · refine .inr (.inl ⟨rfl, ?_, u1, fun a b => ?_⟩)
      · rw [hl] at h1
        have h1 : u0 = 1 := h1
        refine Classical.byContradiction fun hn => ?_
        have hz : ∀ r, r ∈ rows → vR (r, []) 0 = 0 := fun r hr => by
          obtain ⟨x, e1, e2⟩ := first r hr
          rw [e2]
          exact Classical.byContradiction fun hx => hn ⟨r, x, hr, e1, hx⟩
        have := (S.le ([u0, u1], []) (by rw [hK]; simp)).at_zero (j := 0) (fun a ha => by
          obtain ⟨y, hy, rfl⟩ := List.mem_map.1 ha
          obtain ⟨r, hr, rfl⟩ := List.mem_map.1 hy
          exact hz r hr)
        rw [row2] at this
        have this : u0 = 0 := this
        rw [h1] at this; exact absurd this (by decide)
      · rw [hl] at h1
        have h1 : u0 = 1 := h1
        rw [List.map_cons, List.map_nil, sp_one, row2, row2, h1]
        constructor
        · rintro ⟨c, e⟩
          have e0 := congrFun e 0; have e1 := congrFun e 1
          have e0 : a = gmul c 1 := e0
          have e1 : b = gmul c u1 := e1
          rw [gmul_one] at e0
          rw [e1, e0]
        · rintro rfl
          refine ⟨a, ?_⟩
          funext j
          match j with
          | 0 => exact (gmul_one a).symm
          | 1 => rfl
          | j + 2 => show (0 : UInt8) = gmul a 0; rw [gmul_zero]
    · have hl1 : leadN ([u0, u1], []) = 1 := by omega
      have z0 : u0 = 0 := h0 0 (by omega)
      have z1 : u1 = 1 := by rw [hl1] at h1; exact h1
      refine .inr (.inr (.inl ⟨rfl, nolead (fun k hk => by rw [hK] at hk; rw [List.mem_singleton] at hk; rw [hk, row2]; exact z0), fun a b => ?_⟩))
      rw [List.map_cons, List.map_nil, sp_one, row2, row2, z0, z1]
      constructor
      · rintro ⟨c, e⟩
        have e0 : a = gmul c 0 := congrFun e 0
        rw [e0, gmul_zero]
      · rintro rfl
        refine ⟨b, ?_⟩
        funext j
        match j with
        | 0 => exact (gmul_zero b).symm
        | 1 => exact (gmul_one b).symm
        | j + 2 => show (0 : UInt8) = gmul b 0; rw [gmul_zero]
  | k :: k2 :: r =>
    have hs := S.kept.sorted
    rw [hK] at hs
    obtain ⟨hs1, hs2⟩ := List.pairwise_cons.1 hs
    obtain ⟨hs3, _⟩ := List.pairwise_cons.1 hs2
    obtain ⟨_, _, _, a1, -, -⟩ := two k (by rw [hK]; simp)
    obtain ⟨_, _, _, a2, -, -⟩ := two k2 (by rw [hK]; simp)
    have h12 := hs1 k2 (by simp)
    have hr : r = [] := by
      cases r with
      | nil => rfl
      | cons k3 r =>
        obtain ⟨_, _, _, a3, -, -⟩ := two k3 (by rw [hK]; simp)
        have := hs3 k3 (by simp)
        omega
    subst hr
    refine .inr (.inr (.inr ⟨rfl, fun a b => ?_⟩))
    have SK := S.kept
    rw [hK] at SK
    refine (rest_span SK (x := ([a, b], [])) ⟨rfl, rfl⟩).1 fun j => ?_
    have rK : vR (restF [k, k2] ([a, b], [])) = red (tri [k, k2]) (vR ([a, b], [])) := rest_red SK.rows ⟨rfl, rfl⟩
    have T := tri_of_sorted SK.rows SK.sorted
    have hf := Fit.rest (x := ([a, b], [])) (fun q hq => (SK.rows q hq).1) (show Fit 2 0 ([a, b], []) from ⟨rfl, rfl⟩)
    have at0 := red_at (x := vR ([a, b], [])) T (vf (cat k), leadN k) (by simp [tri])
    have at1 := red_at (x := vR ([a, b], [])) T (vf (cat k2), leadN k2) (by simp [tri])
    rw [← rK] at at0 at1
    have l0 : leadN k = 0 := by omega
    have l1 : leadN k2 = 1 := by omega
    match j with
    | 0 => rw [l0] at at0; exact at0
    | 1 => rw [l1] at at1; exact at1
    | j + 2 =>
      have := vf_wide (cat (restF [k, k2] ([a, b], []))) (j + 2) (by rw [hf.cat]; omega)
      exact this
end Go.Proofs.YtfbmdlfkipipfaaGreatDoor
namespace Go.By
open Go.RowKit Go.Proofs.YtfbmdlfkipipfaaGreatDoor Gf
/-- draws as sources -/
def drawsS (rows : List (List UInt8)) : List SrcD := rows.map fun r => ⟨0, r, 0⟩
theorem draws_vecs {k : Nat} : ∀ (rows : List (List UInt8)), (∀ r, r ∈ rows → r.length = k) → ∀ acc, (drawsS rows).foldl (vecF k) acc = acc ++ rows
  | [], _, acc => (List.append_nil acc).symm
  | r :: rows, h, acc => by
    have hr : r.length = k := h r (by simp)
    have e : vecF k acc ⟨0, r, 0⟩ = acc ++ [r] := by
      show (if srcC 0 r.length k = 0 then acc ++ [vecS 0 r 0 k] else acc) = _
      rw [if_pos (by unfold srcC; rw [if_pos rfl, if_pos hr])]; rfl
    show (drawsS rows).foldl (vecF k) (vecF k acc ⟨0, r, 0⟩) = _
    rw [e, draws_vecs rows (fun x hx => h x (by simp [hx])), List.append_assoc]; rfl
theorem draws_len (rows : List (List UInt8)) : (drawsS rows).length = rows.length := by simp [drawsS]
/-- behind i draws the rank is that of the draws -/
structure RnkN (k t D : Nat) (FX XS rows : List (List UInt8)) : Prop where
  len : XS.length = rows.length
  rd : ∀ x, x ∈ XS → readC k t D x = 0
  rk : (tkR k t D XS).1.length = (iK rows).length
theorem rnk_of {k t D : Nat} {FX : List (List UInt8)} {rows : List (List UInt8)} (hF : ∀ x, x ∈ FX → x.length = t) (hk : FX.length = k) (k1 : 1 ≤ k) (hD : D < 4294967296) (hn : rows.length ≤ 1000) (hr : ∀ r, r ∈ rows → r.length = k) : RnkN k t D FX (sendsS D k FX (drawsS rows)) rows := by
  have R := RelX.all (t := t) (D := D) hF hk k1 hD (drawsS rows) (by rw [draws_len]; exact hn) (fun a ha => by
    obtain ⟨r, _, rfl⟩ := List.mem_map.1 ha
    show 0 < 18446744073709551616; decide)
  have hv : vecsS k (drawsS rows) = rows := by
    unfold vecsS; rw [draws_vecs rows hr]; rfl
  rw [hv] at R
  generalize sendsS D k FX (drawsS rows) = XS at R
  have hl := R.l1
  refine ⟨hl.symm, fun x hx => ?_, ?_⟩
  · obtain ⟨n, hn, e⟩ := List.getElem_of_mem hx
    have h1 : n < rows.length := by omega
    have h2 : n < (blksS k t (drawsS rows)).length := by rw [R.l2]; exact hn
    exact (R.at_ n x _ _ (by rw [List.getElem?_eq_getElem hn, e]) (List.getElem?_eq_getElem h1) (List.getElem?_eq_getElem h2)).1
  · obtain ⟨X, h1, h2, -⟩ := sent_fold R hF hk k1 XS.length (Nat.le_refl _)
    have e := h1.rank
    rw [h2, ← hl, List.take_length, hl, List.take_length] at e
    exact e
/-- one draw of one byte -/
theorem one_C (b : UInt8) : (iK [[b]]).length = if b = 0 then 0 else 1 := by
  have st := iK_stay (n := 1) (rows := []) (r := [b]) (fun r h => by cases h) rfl
  have hl : (iK [[b]]).length ≤ 1 := iK_len [[b]] 1
  have hz : Sp ((iK []).map vR) (vR ([b], [])) ↔ b = 0 := by
    constructor
    · rintro ⟨c, _, e⟩
      have e0 := congrFun e 0
      rw [show (iK []).map vR = ([] : List V) from rfl, comb_nil] at e0
      exact e0
    · rintro rfl
      have : vR ([(0 : UInt8)], []) = fun _ => 0 := by
        funext j
        match j with
        | 0 => rfl
        | j + 1 => rfl
      rw [this]; exact Sp.zero _
  by_cases e : b = 0
  · rw [if_pos e]; exact st.2 (hz.2 e)
  · rw [if_neg e]
    have hn : (iK [[b]]).length ≠ 0 := fun h => e (hz.1 (st.1 h))
    omega
/-- of a row of two bytes: its rank, and the ranks with a row more -/
def OddC (x0 x1 f : UInt8) (R : Nat) (S : UInt8 → Nat) : Prop :=
  (R = 0 ∧ x0 = 0 ∧ x1 = 0 ∧ ∀ b, S b = R ↔ f = 0 ∧ b = 0) ∨ (R = 1 ∧ x0 ≠ 0 ∧ ∃ u, ∀ b, S b = R ↔ b = u) ∨ (R = 1 ∧ x0 = 0 ∧ ∀ b, S b = R ↔ f = 0)
theorem odd_C (x0 x1 f : UInt8) : OddC x0 x1 f (iK [[x0, x1]]).length (fun b => (iK [[x0, x1], [f, b]]).length) := by
  have hl : ∀ r, r ∈ [[x0, x1]] → r.length = 2 := by simp
  have st : ∀ b, (iK [[x0, x1], [f, b]]).length = (iK [[x0, x1]]).length ↔ Sp ((iK [[x0, x1]]).map vR) (vR ([f, b], [])) := fun b => iK_stay (rows := [[x0, x1]]) (r := [f, b]) hl rfl
  have z : (∀ r, r ∈ [[x0, x1]] → r[0]? = some 0) → x0 = 0 := fun h => by
    have h1 := h [x0, x1] (by simp)
    simpa using h1
  have inr := (iK_spg hl).ge _ (List.mem_map.2 ⟨([x0, x1] : List UInt8), by simp, rfl⟩)
  rcases spare_cases hl with ⟨h1, h2, h3⟩ | ⟨h1, ⟨r, x, hr, hx, hn⟩, u, h3⟩ | ⟨h1, h2, h3⟩ | ⟨h1, h3⟩
  · exact .inl ⟨h1, z h2, ((h3 x0 x1).1 inr).2, fun b => (st b).trans (h3 f b)⟩
  · refine .inr (.inl ⟨h1, ?_, gmul f u, fun b => (st b).trans (h3 f b)⟩)
    simp only [List.mem_cons, List.mem_nil_iff, or_false] at hr
    subst hr
    have : x0 = x := by simpa using hx
    rw [this]; exact hn
  · exact .inr (.inr ⟨h1, z h2, fun b => (st b).trans (h3 f b)⟩)
  · have : (iK [[x0, x1]]).length ≤ 1 := iK_len [[x0, x1]] 1
    omega
end Go.By
namespace Go.Proofs.YtfbmdlfkipipfaaGreatDoor
open Go.RowKit Go.By Gf Go.Maps
set_option maxRecDepth 100000 in
set_option maxHeartbeats 1000000 in
theorem SExplicit_okQ (gs L t k D nx : Nat) (xss : List (List UInt8)) (p : Option Addr) (n c : Nat) (xs : List UInt8) (w : World) (hS : Snd w gs L t k D nx xss) (hnx : nx < 4294967296) (hn : n = k) (h : Sl B8 w p n c xs) (hT : HalfT w) :
    Calls Tryz.prog 56 #[.pointer (some ⟨gs, 0, none⟩), .slice p n c] w (SdRetF w gs L t k D xss (pktB 0 D nx xs 0 (combS xs xss).1) nx (nx + 1) 0) := by
  have hr : Room n := by have := hS.ok.k2; show n ≤ 140737488355328; omega
  have HE := Lib.hid (RExplicit_any p n c xs w h hr)
  have HS := Lib.hid (fun w' q c' (hb : Below w.heap.size w w') (hs : Sl B8 w' q n c' xs) => SSend_okF gs L t k D nx xss 0 q n c' 0 xs w' (hS.keep hb) hnx (by unfold srcC; rw [if_pos rfl, if_pos hn]) hs hr (hT.keep hb))
  clear hS hnx hn h hT hr
  go_enter Tryz.func56, Tryz.ntmps56
  go_wp2_with fail
  refine Calls.mono HE.out ?_
  rintro e w1 ⟨q, c', rfl, hf, hb⟩
  have HB := Lib.hid hb
  have HF := Lib.hid hf
  clear hb hf
  go_wp2_with fail
  refine Calls.mono (HS.out w1 q c' HB.out HF.out.sl) ?_
  rintro e w2 ⟨⟨qo, no, co, rfl, ho⟩, ⟨_, _, _, -, -, hsn, hg⟩, hq⟩
  have HO := Lib.hid ho
  have HSn := Lib.hid hsn
  have HG := Lib.hid hg
  have HQ := Lib.hid hq
  clear ho hsn hg hq
  go_wp2
  go_ret2
  exact ⟨⟨qo, no, co, rfl, HO.out.mono HB.out.size⟩, ⟨qo, no, co, rfl, HO.out.sl, HSn.out, ⟨HG.out.os.trans HB.out.os, HG.out.tape.trans HB.out.tape, HG.out.output.trans HB.out.output, Nat.le_trans HB.out.size HG.out.size, fun b hb hne => (HG.out.block b (Nat.lt_of_lt_of_le hb HB.out.size) hne).trans (HB.out.block b hb)⟩⟩, fun q c hh => HQ.out q c ((HB.out.block _ (lt_of_block hh)).trans hh)⟩
section
variable {wI w0 w w' : World} {gs gt be base L t k D nx N st : Nat} {FX : List (List UInt8)} {v : Value} {K : List Rw}
/-- the sender is asked to send by bytes of its own -/
theorem ST_explicit (h : ST wI w0 w gs gt be base L t k D FX nx N v K st) (hT : HalfT wI) (hnx : nx < 4294967296) {p : Option Addr} {n c : Nat} {xs : List UInt8} (hn : n = k) (hs : Sl B8 w p n c xs) :
    Calls Tryz.prog 56 #[.pointer (some ⟨gs, 0, none⟩), .slice p n c] w fun e w' => ∃ q n c', e = .returned (.tuple #[.slice q n c', .int .i64 0]) ∧ Fresh 5 w.heap.size w' q n c' (pktB 0 D nx xs 0 (combS xs FX).1) ∧ ST wI w0 w' gs gt be base L t k D FX (nx + 1) N v K st ∧ KeepS w w' := by
  refine Calls.mono (SExplicit_okQ gs L t k D nx FX p n c xs w h.snd.snd hnx hn hs (hT.keep h.bel)) ?_
  rintro e w1 ⟨⟨q, n, c', he, hf⟩, hq⟩
  obtain ⟨g1, g2⟩ := h.sent hq
  exact ⟨q, n, c', he, hf, g1, g2⟩
end
end Go.Proofs.YtfbmdlfkipipfaaGreatDoor
namespace Go.By
open Go.RowKit
end Go.By
namespace Go.Proofs.YtfbmdlfkipipfaaGreatDoor
open Go.RowKit Go.By Gf Go.Maps
end Go.Proofs.YtfbmdlfkipipfaaGreatDoor
namespace Go.Proofs.YtfbmdlfkipipfaaGreatDoor
open Go.RowKit Go.By Gf Go.Maps
/-- a sender, in memory; wI: the world ahead, w0: the world in which the sender was made -/
structure S1 (wI w0 w : World) (gs L t k D : Nat) (FX : List (List UInt8)) (nx : Nat) : Prop where
  bel : Below wI.heap.size wI w
  i0 : wI.heap.size ≤ w0.heap.size
  le : w0.heap.size ≤ w.heap.size
  gs0 : wI.heap.size ≤ gs
  snd : SndO w0 w gs L t k D nx FX
section
variable {wI w0 w w' : World} {gs L t k D nx : Nat} {FX : List (List UInt8)}
theorem S1.keep (h : S1 wI w0 w gs L t k D FX nx) (hb : Below w.heap.size w w') : S1 wI w0 w' gs L t k D FX nx :=
  ⟨bl h.bel hb h.bel.size, h.i0, Nat.le_trans h.le hb.size, h.gs0, h.snd.keep hb h.le⟩
theorem S1.grown (h : S1 wI w0 w gs L t k D FX nx) {T e n : Nat} {u : Value} {ys : List Value} (ho : w.ownsRow w0.heap.size T e u n ys) (hg : w.grownBy w' u.ownBlock) :
    S1 wI w0 w' gs L t k D FX nx ∧ (∀ T', T ≠ T' → ∀ (b : Nat) (cs : Array Value) (fr : Nat × Nat), w.heap[b]? = some (.cells cs T' fr) → w'.heap[b]? = w.heap[b]?) := by
  rcases ho.2 with ⟨e1, _⟩ | ⟨g, cap, cur, e1, hgb, hh, _⟩
  · have hb : Below w.heap.size w w' := ⟨hg.os, hg.tape, hg.output, hg.size, fun b hb => hg.block b hb (fun e => by rw [e1] at e; cases e)⟩
    exact ⟨h.keep hb, fun T' _ b cs fr hc => hb.block b (lt_of_block hc)⟩
  · have hc : GChg w g w' := ⟨hg.os, hg.tape, hg.output, hg.size, fun b hb hne => hg.block b hb (fun e => by rw [e1] at e; cases e; exact hne rfl)⟩
    exact ⟨⟨h.bel.trans (hc.below (Nat.le_trans h.i0 hgb) h.bel.size), h.i0, Nat.le_trans h.le hc.size, h.gs0, h.snd.keep (hc.below hgb h.le) (Nat.le_refl _)⟩, fun T' hne => hc.same hh hne⟩
end
end Go.Proofs.YtfbmdlfkipipfaaGreatDoor
namespace Go.By
open Go.RowKit Go.Proofs.YtfbmdlfkipipfaaGreatDoor Gf
theorem draws_snoc {k t D : Nat} {FX rows : List (List UInt8)} {r : List UInt8} {i : Nat} (hF : ∀ x, x ∈ FX → x.length = t) (hk : FX.length = k) (k1 : 1 ≤ k) (hD : D < 4294967296) (hn : rows.length ≤ 1000) (hr : ∀ r, r ∈ rows → r.length = k) (hi : rows[i]? = some r) :
    sendsS D k FX (drawsS (rows.take (i + 1))) = sendsS D k FX (drawsS (rows.take i)) ++ [pktB 0 D i r 0 (combS r FX).1] := by
  obtain ⟨hil, e⟩ := List.getElem?_eq_some_iff.1 hi
  have hl := (rnk_of (rows := rows.take i) hF hk k1 hD (by rw [List.length_take]; omega) (fun x hx => hr x (List.take_subset _ _ hx))).len
  rw [List.length_take, Nat.min_eq_left (by omega)] at hl
  have e1 : (drawsS rows)[i]? = some ⟨0, r, 0⟩ := by unfold drawsS; rw [List.getElem?_map, hi]; rfl
  have e2 : ∀ j, drawsS (rows.take j) = (drawsS rows).take j := fun j => by unfold drawsS; rw [List.map_take]
  rw [e2, sends_snoc e1, ← e2]
  unfold sendF
  have hrk : r.length = k := hr r (List.mem_of_getElem? hi)
  rw [if_pos (by show srcC 0 r.length k = 0; unfold srcC; rw [if_pos rfl, if_pos hrk]), hl]
  rfl
end Go.By
namespace Go.Proofs.YtfbmdlfkipipfaaGreatDoor
open Go.RowKit Go.By Gf Go.Maps
set_option maxRecDepth 100000 in
set_option maxHeartbeats 4000000 in
theorem TRanks_ok (L t k D : Nat) (q0 : Option Addr) (c0 : Nat) (o : List UInt8) (p1 : Option Addr) (n1 c1 : Nat) (rows : List (List UInt8)) (w : World) (hP : POK L t k D) (hfit : ∀ i : Nat, i < k → i * t ≤ L) (h0 : Sl B8 w q0 L c0 o) (h1 : Sl2 w p1 n1 c1 rows) (hr : ∀ r, r ∈ rows → r.length = k) (hT : HalfT w) (hn1 : n1 ≤ 1000) :
    Calls Tryz.prog 25 #[PVal L t k D, .slice q0 L c0, .slice p1 n1 c1] w fun e w' => e = .returned (.tuple #[.int .i64 ((iK rows).length : Nat), .bool true]) ∧ Below w.heap.size w w' := by
  have HT := Lib.hid hT
  have H1 := Lib.hid h1
  have HPK := Lib.hid hP
  have hl1 := h1.len
  obtain ⟨FX, hFX⟩ : ∃ FX, FX = (List.range k).map (pieceS o t) := ⟨_, rfl⟩
  have hFl : ∀ x, x ∈ FX → x.length = t := by rw [hFX]; exact pieces_len.1
  have hFk : FX.length = k := by rw [hFX]; exact pieces_len.2
  have HSN : Hid (∀ W, Below w.heap.size w W → Calls Tryz.prog 30 #[PVal L t k D, .slice q0 L c0] W fun e w' => ∃ gs, e = .returned (.tuple #[.pointer (some ⟨gs, 0, none⟩), .int .i64 0]) ∧ W.heap.size ≤ gs ∧ Snd w' gs L t k D 0 FX ∧ Below W.heap.size W w') := fun W hb => by
    rw [hFX]; exact SNew_ok L t k D q0 L c0 o W hP (h0.keep hb) hfit rfl
  obtain ⟨XS, hXS⟩ : ∃ XS : Nat → List (List UInt8), XS = fun i => sendsS D k FX (drawsS (rows.take i)) := ⟨_, rfl⟩
  have HXN : Hid (∀ i r, rows[i]? = some r → r.length = k ∧ XS (i + 1) = XS i ++ [pktB 0 D i r 0 (combS r FX).1] ∧ readC k t D (pktB 0 D i r 0 (combS r FX).1) = 0) := fun i r hi => by
    have e := draws_snoc (D := D) hFl hFk hP.k1 hP.d (by omega) hr hi
    have := (rnk_of (t := t) (rows := rows.take (i + 1)) hFl hFk hP.k1 hP.d (by rw [List.length_take]; omega) (fun x hx => hr x (List.take_subset _ _ hx))).rd
    rw [hXS]
    refine ⟨hr r (List.mem_of_getElem? hi), e, this _ ?_⟩
    rw [e]; simp
  have HXR : Hid ((tkR k t D (XS n1)).1.length = (iK rows).length) := by
    have := (rnk_of (t := t) (rows := rows) hFl hFk hP.k1 hP.d (by omega) hr).rk
    show (tkR k t D (XS n1)).1.length = _
    rw [hXS]
    show (tkR k t D (sendsS D k FX (drawsS (rows.take n1)))).1.length = _
    rw [← hl1, List.take_length]; exact this
  have hX0 : XS 0 = [] := by rw [hXS]; rfl
  have HX0 := Lib.hid hX0
  clear hP hfit h0 h1 hr hT hFX hFl hFk hXS hl1 hX0
  go_enter Tryz.func25, Tryz.ntmps25
  go_wp2_with fail
  obtain ⟨gp, hgp⟩ : ∃ gp, gp = w.heap.size := ⟨_, rfl⟩
  have ba : Below w.heap.size w (w.alloc (.cells #[.int .i64 (L : Nat), .int .i64 (t : Nat), .int .i64 (k : Nat), .int .u32 (D : Nat)] 27 (0, 0))) := al (Below.refl _ _) (Nat.le_refl _)
  have kp1 : (w.alloc (.cells #[.int .i64 (L : Nat), .int .i64 (t : Nat), .int .i64 (k : Nat), .int .u32 (D : Nat)] 27 (0, 0))).heap[gp]? = some (.cells #[.int .i64 (L : Nat), .int .i64 (t : Nat), .int .i64 (k : Nat), .int .u32 (D : Nat)] 27 (0, 0)) := hnew hgp
  refine Calls.mono (HSN.out _ ba) ?_
  rintro e w0 ⟨gs, rfl, hgs, hsn, hb⟩
  have HB0 := Lib.hid (bl ba hb ba.size)
  have HSn := Lib.hid hsn
  have HGS := Lib.hid (Nat.le_trans ba.size hgs)
  have kp := (hb.block _ (lt_of_block kp1)).trans kp1
  rw [← hgp]
  clear hb ba hgs hsn HSN kp1 hgp
  obtain ⟨z0, z1, z2, z3⟩ := cells_four kp
  go_wp2_with fail
  refine Calls.mono (TNew_ok L t k D w0 HPK.out) ?_
  rintro e we ⟨gt, be, v0, rfl, ht, hb⟩
  have HS0 : Hid (ST w w0 we gs gt be w0.heap.size L t k D FX 0 0 v0 [] 0) := ST.start HB0.out HGS.out HSn.out ht hb
  obtain ⟨base, hbase⟩ : ∃ base, base = w0.heap.size := ⟨_, rfl⟩
  rw [← hbase] at HS0
  clear hb ht HB0 HGS HSn kp z0 z1 z2 z3 hbase
  go_wp2
  go_loopw [35] (fun iv wr => ∃ (i : Nat) (v : Value), i ≤ n1 ∧ iv = .int .i64 (i : Nat) ∧ Hid (ST w w0 wr gs gt be base L t k D FX i i v (tkR k t D (XS i)).1 (tkR k t D (XS i)).2)) (fun iv _ => n1 - (intOf iv).toNat)
  case atStart => exact ⟨0, v0, Nat.zero_le _, rfl, by rw [HX0.out]; exact HS0.out⟩
  case round =>
    obtain ⟨i, v, hi, rfl, HR⟩ := hrel
    clear HS0
    by_cases hlt : i < n1
    · obtain ⟨b, ob, q, j, c', a, rfl, hc, hs, hx⟩ := H1.out.at i hlt
      obtain ⟨x1, x2, x3⟩ := HXN.out i a hx.out
      have hlt' : (i : Int) < (n1 : Int) := by omega
      have x0 := (HR.out.bel.cell (p := ⟨b, ob + i, none⟩) (lt_of_cell hc)).trans hc
      have hjl := hs.len
      have hex := ST_explicit HR.out HT.out (by omega) (by omega) (hs.keep HR.out.bel)
      have HEX := Lib.hid hex
      have HTK : Hid (tkR k t D (XS (i + 1)) = tkF k t D (tkR k t D (XS i)) (pktB 0 D i a 0 (combS a FX).1)) := by
        show _ = _
        rw [x2]; unfold tkR; rw [List.foldl_append]; rfl
      have HRD := Lib.hid x3
      have HRM : Hid ((pktB 0 D i a 0 (combS a FX).1).length ≤ 140737488355328) := read_roomT HPK.out x3
      generalize pktB 0 D i a 0 (combS a FX).1 = pk at *
      clear hc hs hx x1 x2 x3 hjl hex hlt HR
      go_wp2_with fail
      refine Calls.mono HEX.out ?_
      rintro e wd ⟨ql, nl, cl, rfl, hf, hS, hK⟩
      have HS := Lib.hid hS
      have HF := Lib.hid hf.sl
      have hnl := hf.sl.len
      have HNL : Hid (nl ≤ 140737488355328) := by show nl ≤ _; rw [← hnl]; exact HRM.out
      clear hf hS hK hnl x0 HEX
      have htk := ST_take HS.out HT.out (by omega) HF.out HNL.out
      rw [HRD.out, show takeK k t D (tkR k t D (XS i)).1 (tkR k t D (XS i)).2 pk = (tkR k t D (XS (i + 1))).1 by rw [HTK.out]; rfl, show takeS k t D (tkR k t D (XS i)).1 (tkR k t D (XS i)).2 pk = (tkR k t D (XS (i + 1))).2 by rw [HTK.out]; rfl] at htk
      have HTE := Lib.hid htk
      clear htk HTK HRD
      go_wp2_with fail
      refine Calls.mono HTE.out ?_
      rintro e wf ⟨rfl, v', hS, hK⟩
      have HS2 := Lib.hid hS
      clear hS hK HS HF HTE HNL
      go_wp2
      go_roundw
      case rel => exact ⟨i + 1, v', by omega, by go_num, HS2.out⟩
      case measure => simp [intOf]; omega
    · obtain rfl : n1 = i := by omega
      have hrk := ST_rank HR.out
      rw [HXR.out] at hrk
      have HRK := Lib.hid hrk
      have HB := Lib.hid HR.out.bel
      clear hlt hi hrk HR
      go_wp2_with fail
      refine Calls.mono HRK.out ?_
      rintro e wz ⟨rfl, rfl⟩
      go_wp2
      go_ret2
      exact ⟨rfl, HB.out⟩
end Go.Proofs.YtfbmdlfkipipfaaGreatDoor
namespace Go.Proofs.YtfbmdlfkipipfaaGreatDoor
open Go.RowKit Go.By
end Go.Proofs.YtfbmdlfkipipfaaGreatDoor
namespace Go.Proofs.YtfbmdlfkipipfaaGreatDoor
open Go.RowKit Go.By Go.Maps
theorem pok221 : POK 2 2 1 1 := ⟨by decide, by decide, by decide, by decide, by decide, by decide, by decide⟩
theorem of221 : ofS 2 2 1 = .tuple #[PVal 2 2 1 1, .int .i64 0] := by
  have h : fitS 2 2 = 0 := by decide
  have h2 : needS 2 2 = 1 := by decide
  unfold ofS; rw [if_pos h, h2]; rfl
def pktT : List UInt8 := pktB 0 1 0 [9] 0 (combS [9] [[3, 4]]).1
theorem lenTc : (combS [9] [[3, 4]]).1.length = 2 := by decide +kernel
theorem putT : putK [] ([9], (combS [9] [[3, 4]]).1) = [([1], [3, 4])] ∧ nextS [] ([9], (combS [9] [[3, 4]]).1) 1 = 1 := by decide +kernel
theorem readT : readC 1 2 1 pktT = 0 ∧ eqX 1 2 pktT = ([9], (combS [9] [[3, 4]]).1) := by
  obtain ⟨h1, h2, h3, h4, h5, h6⟩ := read_write (m := 0) (D := 1) (n := 0) (s := 0) (k := 1) (t := 2) (xs := [9]) (ys := (combS [9] [[3, 4]]).1) rfl (fun _ => rfl) lenTc (by decide) (by decide)
  refine ⟨h1, ?_⟩
  unfold eqX
  rw [show pktM pktT = 0 from h2, show pktX 1 pktT = [9] from h4, show pktY 1 2 pktT = (combS [9] [[3, 4]]).1 from h6]
  rfl
theorem takeT : takeK 1 2 1 [] 0 pktT = [([1], [3, 4])] ∧ takeS 1 2 1 [] 0 pktT = 1 := by
  unfold takeK takeS
  rw [if_pos ⟨readT.1, rfl⟩, if_pos ⟨readT.1, rfl⟩, readT.2]
  exact putT
theorem lenT : pktT.length = 17 := by simp [pktT, pktB, bodyP, headB, srcB, put4_len, lenTc]
theorem piecesT : (List.range 1).map (pieceS [3, 4] 2) = [[3, 4]] := by decide
theorem joinT : joinS 2 2 1 (([([1], [3, 4])] : List Rw).map (fun x : Rw => x.2)) = ([3, 4], 0) := by decide +kernel
set_option maxRecDepth 100000 in
set_option maxHeartbeats 8000000 in
theorem awakeT (w : World) (hT : HalfT w) : Calls Tryz.prog 10 #[] w fun e w' => e = .returned (.bool true) ∧ Below w.heap.size w w' := by
  have HT := Lib.hid hT
  have HOf : Hid (∀ w, Calls Tryz.prog 24 #[.int .i64 2, .int .i64 2, .int .u32 1] w fun e w' => e = .returned (.tuple #[PVal 2 2 1 1, .int .i64 0]) ∧ Below w.heap.size w w') := fun w => by have := POf_any 2 2 1 w (by decide); rw [of221] at this; exact this
  have HSm : Hid (∀ xs p1 p2 n1 n2 c1 c2 w, Sl B8 w p1 n1 c1 xs → Sl B8 w p2 n2 c2 xs → Calls Tryz.prog 36 #[.slice p1 n1 c1, .slice p2 n2 c2] w fun e w' => e = .returned (.bool true) ∧ Below w.heap.size w w') := fun xs p1 p2 n1 n2 c1 c2 w h1 h2 => by
    have := Same_any p1 p2 n1 n2 c1 c2 xs xs w h1 h2
    rw [decide_eq_true rfl] at this
    exact this
  clear hT
  go_enter Tryz.func10, Tryz.ntmps10
  go_wp2_with fail
  refine Calls.mono (HOf.out w) ?_
  rintro e w1 ⟨rfl, hb1⟩
  have HB1 := Lib.hid hb1
  clear hb1
  go_wp2_with fail
  refine Calls.mono (SNew_ok 2 2 1 1 _ 2 2 [3, 4] _ pok221 (sl_block [3, 4] 2 (hnew (by simp)) rfl rfl (by simp [maxLen])) (fun i hi => by omega) rfl) ?_
  rintro e w2 ⟨gs, rfl, hgs, hsn, hb⟩
  rw [piecesT] at hsn
  obtain ⟨hb2, kp, -, hs2⟩ := two_of hb
  have HB2 := Lib.hid (bl HB1.out hb2 HB1.out.size)
  have HSn := Lib.hid hsn
  have HGS : Hid (w.heap.size ≤ gs) := by have := HB1.out.size; show w.heap.size ≤ gs; simp at hgs; omega
  clear hb hb2 hsn hgs hs2
  obtain ⟨p0, p1, p2, p3⟩ := cells_four kp
  go_wp2_with fail
  refine Calls.mono (TNew_ok 2 2 1 1 w2 pok221) ?_
  rintro e w3 ⟨gt, be, v, rfl, ht, hb⟩
  have HB3 := Lib.hid (bl HB2.out hb HB2.out.size)
  have HT3 := Lib.hid ht
  have HSn3 := Lib.hid (HSn.out.keep hb)
  clear hb ht HSn kp p0 p1 p2 p3
  go_wp2_with fail
  have ba := al (o := .cells #[.int .u8 9] 5 (0, 0)) (Below.refl w3.heap.size w3) (Nat.le_refl _)
  have HT4 := Lib.hid (HT3.out.keep ba)
  have HSn4 := Lib.hid (HSn3.out.keep ba)
  have HB4 := Lib.hid (bl HB3.out ba HB3.out.size)
  have HX4 : Hid (Sl B8 (w3.alloc (.cells #[.int .u8 9] 5 (0, 0))) (some ⟨w3.heap.size, 0, none⟩) 1 1 [9]) := sl_block [9] 1 (hnew rfl) rfl rfl (by simp [maxLen])
  clear ba HT3 HSn3
  refine Calls.mono (SExplicit_ok gs 2 2 1 1 0 [[3, 4]] _ 1 1 [9] _ HSn4.out (by decide) rfl HX4.out (HT.out.keep HB4.out)) ?_
  rintro e w5 ⟨ql, nl, cl, rfl, hl, hsn, hg⟩
  obtain ⟨_, _, hbx, -⟩ := HSn4.out.mem
  have HL := Lib.hid hl
  have HT5 := Lib.hid (hg.tkr hbx HT4.out (by decide) (by decide) (by decide) (by decide))
  have HB5 := Lib.hid (HB4.out.trans (hg.below HGS.out HB4.out.size))
  have hnl : nl = 17 := by rw [← hl.len]; exact lenT
  have HNL := Lib.hid hnl
  clear hg hbx hl hsn HT4 HSn4 HB4 HX4 hnl
  go_wp2_with fail
  refine Calls.mono (TTake_any _ gt be 2 2 1 1 0 (.map none) v (.map []) [] 0 ql nl cl pktT w5 HT5.out (HT.out.keep HB5.out) (by decide) HL.out (by rw [HNL.out]; show 17 ≤ 140737488355328; decide)) ?_
  rintro e w8 ⟨he, M8, v8, hT8, hc8, -⟩
  rw [readT.1] at he
  subst he
  rw [takeT.1, takeT.2] at hT8
  have HT8 := Lib.hid hT8
  have HB8 := Lib.hid (HB5.out.trans (hc8.below HT5.out HB2.out.size HB5.out.size))
  clear hT8 hc8 HT5 HB5 HL HNL
  go_wp2_with fail
  have hob := TObject_done _ gt be 2 2 1 1 _ M8 v8 _ _ w8 HT8.out rfl
  rw [show joinS ((2 : Nat) : Int) ((2 : Nat) : Int) ((1 : Nat) : Int) (([([1], [3, 4])] : List Rw).map (fun x : Rw => x.2)) = ([3, 4], 0) from joinT] at hob
  refine Calls.mono hob ?_
  rintro e wA ⟨qo, no, co, rfl, ho, hb⟩
  have HO := Lib.hid ho
  have HBA := Lib.hid (bl HB8.out hb HB8.out.size)
  clear hob hb ho HT8 HB8
  go_wp2_with fail
  refine Calls.mono (HSm.out [3, 4] _ _ _ _ _ _ _ (HO.out.keep (al (Below.refl _ _) (Nat.le_refl _))) (sl_block [3, 4] 2 (hnew rfl) rfl rfl (by simp [maxLen]))) ?_
  rintro e wC ⟨rfl, hb⟩
  have HBC := Lib.hid (bl HBA.out (one_of hb).1 HBA.out.size)
  clear hb
  go_wp2
  go_ret
  exact ⟨rfl, HBC.out⟩
end Go.Proofs.YtfbmdlfkipipfaaGreatDoor
