/- Plain law: a packet of which one stretch of four bytes has turned is not let in. What TakerHas, TripRuns, TripArrives carry: rows of bytes that grow; a sender that may refuse. Arguments that came in, as bytes and slices of bytes. Slices of structs of two slices of bytes, that came in. Sources that came in: a slice of structs of a byte, bytes and a number, opened. What the laws of the packets ask first: few bytes, small plans. Chapter 19: TakerHas, of an object that the plan fits. The contracts of slices.Delete and slices.Insert at parcels. The contract of slices.Insert at parcels: one more, where there is room. Lists of parcels that the call owns: each owns its bytes, no two share them. The contracts of the acts: drop, move, forge. The contract of the act move. The contract of the act double. The contract of the act cut. One cell of a parcel is written: its bytes, or where it came from. The contract of the act mask. What acts do to lists of packets; acts that came in, read from memory. Acts that came in: a slice of structs of five cells, and one by value, opened. The contract of play. The contracts of Apply and Whole. -/
import Derived.Test.YtfbmdlfkipipfaaGreatDoorZv7
import Derived.OpenShut
import Derived.Lib.SmallJoins
import Derived.Deep.DeepCutAuto
import Derived.Deep.RegionLaw
import Derived.Lib.Overlaps
import Derived.Shelf.Spec.SlicesInsert
import Derived.Lib.AppendZeros
import Derived.Deep.AppendLies
import Derived.Deep.RegionWith
import Derived.BigQuiet
namespace Go.By
theorem crcBit_top {r : Nat} (h : r < 4294967296) : (crcBit r).testBit 31 = decide (r % 2 = 1) := by
  have h1 : (r / 2).testBit 31 = false := Nat.testBit_lt_two_pow (by omega)
  unfold crcBit
  by_cases ho : r % 2 = 1
  · rw [if_pos ho, Nat.testBit_xor, h1, decide_eq_true ho]; rfl
  · rw [if_neg ho, h1, decide_eq_false ho]
theorem xor_canc {a b c : Nat} (h : a ^^^ c = b ^^^ c) : a = b := by
  have := congrArg (· ^^^ c) h
  simpa [Nat.xor_assoc] using this
theorem crcBit_inj {r s : Nat} (hr : r < 4294967296) (hs : s < 4294967296) (h : crcBit r = crcBit s) : r = s := by
  have e := congrArg (fun x => x.testBit 31) h
  simp only [crcBit_top hr, crcBit_top hs] at e
  have hp : r % 2 = s % 2 := by
    have := decide_eq_decide.1 e
    omega
  have h2 : r / 2 = s / 2 := by
    unfold crcBit at h
    by_cases ho : r % 2 = 1
    · rw [if_pos ho, if_pos (by omega)] at h
      exact xor_canc h
    · rwa [if_neg ho, if_neg (by omega)] at h
  omega
theorem crcBits_inj {r s : Nat} (hr : r < 4294967296) (hs : s < 4294967296) : ∀ n, crcBits n r = crcBits n s → r = s
  | 0, h => h
  | n + 1, h => crcBits_inj hr hs n (crcBit_inj (crcBits_lt hr n) (crcBits_lt hs n) h)
theorem crcBits_xor (r s : Nat) : ∀ n, crcBits n (r ^^^ s) = crcBits n r ^^^ crcBits n s
  | 0 => rfl
  | n + 1 => by show crcBit _ = crcBit _ ^^^ crcBit _; rw [crcBits_xor r s n, crcBit_xor]
theorem crcBits_shift (s : Nat) : ∀ n, crcBits n (s * 2 ^ n) = s
  | 0 => by simp [crcBits]
  | n + 1 => by
    show crcBit (crcBits n (s * 2 ^ (n + 1))) = s
    rw [Nat.pow_succ, ← Nat.mul_assoc, Nat.mul_right_comm, crcBits_shift (s * 2) n]
    unfold crcBit
    rw [if_neg (by omega)]
    omega
theorem crcBits_add (r m : Nat) : ∀ n, crcBits (m + n) r = crcBits n (crcBits m r)
  | 0 => rfl
  | n + 1 => by show crcBit (crcBits (m + n) r) = crcBit _; rw [crcBits_add r m n]
/-- some bytes as a number, the least first -/
def leN : List UInt8 → Nat
  | [] => 0
  | b :: l => b.toNat + 256 * leN l
theorem leN_lt : ∀ l : List UInt8, leN l < 2 ^ (8 * l.length)
  | [] => by simp [leN]
  | b :: l => by
    have h := leN_lt l
    have hb := b.toNat_lt
    rw [List.length_cons, Nat.mul_add, Nat.pow_add]
    show b.toNat + 256 * leN l < _
    omega
theorem leN_inj : ∀ {l m : List UInt8}, l.length = m.length → leN l = leN m → l = m
  | [], [], _, _ => rfl
  | b :: l, c :: m, hl, h => by
    have h : b.toNat + 256 * leN l = c.toNat + 256 * leN m := h
    have hb := b.toNat_lt; have hc := c.toNat_lt
    have e1 : b.toNat = c.toNat := by omega
    have e2 : leN l = leN m := by omega
    rw [UInt8.toNat_inj.1 e1, leN_inj (by simpa using hl) e2]
theorem low_xor8 (q t : Nat) (h : t < 256) : t + 256 * q = t ^^^ (q * 256) := by
  refine Nat.eq_of_testBit_eq fun i => ?_
  rw [show t + 256 * q = 2 ^ 8 * q + t by omega, Nat.testBit_two_pow_mul_add _ (by simpa using h), Nat.testBit_xor, show q * 256 = 2 ^ 8 * q by omega, Nat.testBit_two_pow_mul]
  by_cases hi : i < 8
  · rw [if_pos hi, decide_eq_false (by omega)]; simp
  · rw [if_neg hi, decide_eq_true (by omega), Nat.testBit_lt_two_pow (x := t) (i := i) (Nat.lt_of_lt_of_le h (by rw [show 256 = 2 ^ 8 from rfl]; exact Nat.pow_le_pow_right (by decide) (by omega)))]; simp
theorem crcRun_bits : ∀ (l : List UInt8) (s : Nat), crcRun s l = crcBits (8 * l.length) (s ^^^ leN l)
  | [], s => by simp [crcRun, crcBits, leN]
  | b :: l, s => by
    have h1 : crcRun s (b :: l) = crcRun (crcByte s b) l := rfl
    have h2 : leN (b :: l) = b.toNat ^^^ (leN l * 256) := low_xor8 _ _ b.toNat_lt
    have h3 : crcBits 8 (leN l * 256) = leN l := crcBits_shift (leN l) 8
    rw [h1, crcRun_bits l, h2, List.length_cons, show 8 * (l.length + 1) = 8 + 8 * l.length by omega, crcBits_add, ← Nat.xor_assoc, crcBits_xor (s ^^^ b.toNat) (leN l * 256) 8, crcBits_eight, h3]
theorem crcBits_zero : ∀ n, crcBits n 0 = 0
  | 0 => rfl
  | n + 1 => by show crcBit (crcBits n 0) = 0; rw [crcBits_zero n]; rfl
theorem sub_xor32 {r : Nat} (h : r < 4294967296) : 4294967295 - r = 4294967295 ^^^ r := by
  refine Nat.eq_of_testBit_eq fun i => ?_
  have e := Nat.testBit_two_pow_sub_succ (x := r) (n := 32) h i
  rw [show 2 ^ 32 - (r + 1) = 4294967295 - r by omega] at e
  rw [e, Nat.testBit_xor, show 4294967295 = 2 ^ 32 - 1 from rfl, Nat.testBit_two_pow_sub_one]
  by_cases hi : i < 32
  · rw [decide_eq_true hi]; simp
  · rw [decide_eq_false hi, Nat.testBit_lt_two_pow (x := r) (i := i) (Nat.lt_of_lt_of_le (show r < 2 ^ 32 from h) (Nat.pow_le_pow_right (by decide) (by omega)))]; simp
end Go.By
namespace Go.Proofs.YtfbmdlfkipipfaaGreatDoor
open Go.RowKit Go.By
theorem get4_le {l : List UInt8} (h : l.length = 4) : get4 l = leN l := by
  match l, h with
  | [a, b, c, d], _ => simp [get4, leN]; omega
/-- what reads has a sum that fits -/
theorem read_run {k t D : Nat} {xs : List UInt8} (h : readC k t D xs = 0) : crcRun 4294967295 xs = crcBits 32 4294967295 := by
  have hh : headC xs = 0 := by
    unfold readC at h
    by_cases e : headC xs = 0
    · exact e
    · rw [if_pos e] at h; exact absurd h e
  have hl : 10 ≤ xs.length := by
    unfold headC at hh
    by_cases e : xs.length < 10
    · rw [if_pos e] at hh; exact absurd hh (by decide)
    · omega
  have hs : get4 ((xs.drop (xs.length - 4)).take 4) = crcS (xs.take (xs.length - 4)) := by
    unfold readC at h
    rw [if_neg (by simp [hh])] at h
    by_cases e1 : xs.length ≠ lenP (xs.getD 1 0) k t
    · rw [if_pos e1] at h; exact absurd h (by decide)
    rw [if_neg e1] at h
    by_cases e2 : get4 ((xs.drop (xs.length - 4)).take 4) ≠ crcS (xs.take (xs.length - 4))
    · rw [if_pos e2] at h; exact absurd h (by decide)
    · exact Classical.not_not.1 e2
  rw [List.take_of_length_le (by simp; omega), get4_le (by simp; omega)] at hs
  have e : xs = xs.take (xs.length - 4) ++ xs.drop (xs.length - 4) := (List.take_append_drop _ _).symm
  rw [e, crcRun_append, crcRun_bits (xs.drop (xs.length - 4)), hs]
  have hr : crcRun 4294967295 (xs.take (xs.length - 4)) < 4294967296 := crcRun_lt (by decide)
  unfold crcS
  rw [sub_xor32 hr, Nat.xor_comm 4294967295, ← Nat.xor_assoc, Nat.xor_self, Nat.zero_xor]
  congr 1
  simp; omega
/-- bits turned within 32 in a row are found -/
theorem burst_found {k t D : Nat} {xs ys : List UInt8} (hl : xs.length = ys.length) (h1 : readC k t D xs = 0) (h2 : readC k t D ys = 0) {x s : Nat} (hx : x < 4294967296) (e : leN xs ^^^ leN ys = x * 2 ^ s) : xs = ys := by
  have e1 := read_run h1
  have e2 := read_run h2
  rw [crcRun_bits] at e1 e2
  have e3 : crcBits (8 * xs.length) (leN xs ^^^ leN ys) = 0 := by
    have h3 : crcBits (8 * xs.length) (4294967295 ^^^ leN xs) ^^^ crcBits (8 * xs.length) (4294967295 ^^^ leN ys) = 0 := by
      rw [e1, hl, e2, Nat.xor_self]
    rw [← crcBits_xor] at h3
    rwa [show (4294967295 ^^^ leN xs) ^^^ (4294967295 ^^^ leN ys) = leN xs ^^^ leN ys by
      rw [Nat.xor_comm 4294967295 (leN xs), Nat.xor_assoc, ← Nat.xor_assoc 4294967295, Nat.xor_self, Nat.zero_xor]] at h3
  rw [e] at e3
  have h0 : x = 0 := by
    by_cases hs : s ≤ 8 * xs.length
    · have h4 : crcBits (8 * xs.length) (x * 2 ^ s) = crcBits (8 * xs.length - s) x := by
        conv => lhs; rw [show 8 * xs.length = s + (8 * xs.length - s) by omega]
        rw [crcBits_add, crcBits_shift]
      rw [h4] at e3
      exact crcBits_inj hx (by decide) _ (e3.trans (crcBits_zero _).symm)
    · have h5 : x * 2 ^ s < 2 ^ (8 * xs.length) := by
        rw [← e]
        exact Nat.xor_lt_two_pow (leN_lt xs) (by rw [hl]; exact leN_lt ys)
      have h6 : 2 ^ (8 * xs.length) ≤ 2 ^ s := Nat.pow_le_pow_right (by decide) (by omega)
      rcases Nat.eq_zero_or_pos x with h | h
      · exact h
      · have : 2 ^ s ≤ x * 2 ^ s := Nat.le_mul_of_pos_left _ h
        omega
  rw [h0, Nat.zero_mul] at e
  have : leN xs = leN ys := by
    have := congrArg (· ^^^ leN ys) e
    simpa [Nat.xor_assoc] using this
  exact leN_inj hl this
/-- one byte turned -/
theorem leN_set (c : UInt8) : ∀ (xs : List UInt8) (i : Nat) (h : i < xs.length), leN xs ^^^ leN (xs.set i (xs[i] ^^^ c)) = c.toNat * 2 ^ (8 * i)
  | b :: l, 0, h => by
    have h2 : leN (b :: l) = b.toNat ^^^ (leN l * 256) := low_xor8 _ _ b.toNat_lt
    have h3 : leN ((b ^^^ c) :: l) = (b ^^^ c).toNat ^^^ (leN l * 256) := low_xor8 _ _ (b ^^^ c).toNat_lt
    show leN (b :: l) ^^^ leN ((b ^^^ c) :: l) = c.toNat * 2 ^ (8 * 0)
    rw [h2, h3, UInt8.toNat_xor, Nat.xor_comm b.toNat (leN l * 256), Nat.xor_assoc, Nat.xor_comm (leN l * 256), ← Nat.xor_assoc b.toNat, ← Nat.xor_assoc b.toNat, Nat.xor_self, Nat.zero_xor, Nat.xor_assoc, Nat.xor_self, Nat.xor_zero]
    simp
  | b :: l, i + 1, h => by
    have ih := leN_set c l i (by simpa using h)
    have h2 : leN (b :: l) = b.toNat ^^^ (leN l * 256) := low_xor8 _ _ b.toNat_lt
    have h3 : leN (b :: l.set i (l[i]'(by simpa using h) ^^^ c)) = b.toNat ^^^ (leN (l.set i (l[i]'(by simpa using h) ^^^ c)) * 256) := low_xor8 _ _ b.toNat_lt
    show leN (b :: l) ^^^ leN (b :: l.set i (l[i]'(by simpa using h) ^^^ c)) = c.toNat * 2 ^ (8 * (i + 1))
    have h4 : ∀ u v : Nat, (u * 256) ^^^ (v * 256) = (u ^^^ v) * 256 := fun u v => by
      have := Nat.shiftLeft_xor_distrib (a := u) (b := v) (i := 8)
      simp [Nat.shiftLeft_eq] at this
      exact this.symm
    rw [h2, h3, Nat.xor_comm b.toNat (leN l * 256), Nat.xor_assoc, ← Nat.xor_assoc b.toNat, Nat.xor_self, Nat.zero_xor, h4, ih, Nat.mul_add 8, Nat.pow_add, Nat.mul_assoc]
end Go.Proofs.YtfbmdlfkipipfaaGreatDoor
namespace Go.By
open Go.RowKit Go.Maps Go.Proofs.YtfbmdlfkipipfaaGreatDoor
/-- two rows that lie apart -/
def Dj (v u : Value) : Prop := ∀ g, v.ownBlock = some g → u.ownBlock ≠ some g
theorem Dj.symm {v u : Value} (h : Dj v u) : Dj u v := fun g h1 h2 => h g h2 h1
theorem Dj.nil (u : Value) : Dj (.slice none 0 0) u := fun g h => by cases h
/-- one that grew -/
theorem Dj.grew {v u v' : Value} {n : Nat} (h : Dj v u) (hv : v'.ownBlock = v.ownBlock ∨ v'.ownBlock = some n) (hu : ∀ g, u.ownBlock = some g → g < n) : Dj v' u := fun g h1 h2 => by
  rcases hv with e | e
  · exact h g (e ▸ h1) h2
  · rw [e] at h1; cases h1; exact absurd (hu _ h2) (Nat.lt_irrefl _)
theorem HdrF.lt {T2 T1 B n : Nat} {w : World} {v : Value} {xss : List (List UInt8)} (h : HdrF T2 T1 B w v n xss) : ∀ g, v.ownBlock = some g → g < w.heap.size := by
  obtain ⟨vs, o, _⟩ := h
  exact fun g hg => (o.lt g hg).2
theorem HdrF.other {T2 T1 B n : Nat} {w w' : World} {v : Value} {row : Option Nat} {xss : List (List UInt8)} (h : HdrF T2 T1 B w v n xss) (hg : w.grownBy w' row) (hne : ∀ g, v.ownBlock = some g → row ≠ some g) (h1 : ∀ (b : Nat) (cs : Array Value) (fr : Nat × Nat), w.heap[b]? = some (.cells cs T1 fr) → w'.heap[b]? = w.heap[b]?) : HdrF T2 T1 B w' v n xss := by
  obtain ⟨vs, o, l, r⟩ := h
  refine ⟨vs, owns_same o hg.size fun g hg2 => ?_, l, fun j u hj => ?_⟩
  · exact hg.block g (o.lt g hg2).2 (fun e => hne g hg2 e.symm)
  · obtain ⟨q, m, c, xs, e, hx, hf⟩ := r j u hj
    exact ⟨q, m, c, xs, e, hx, fresh_same hf h1⟩
theorem HdrF.at {T2 T1 B n : Nat} {w : World} {q : Option Addr} {c : Nat} {xss : List (List UInt8)} (h : HdrF T2 T1 B w (.slice q n c) n xss) {j : Nat} (hj : j < n) : ∃ b o p m d xs, q = some ⟨b, o, none⟩ ∧ w.cell? ⟨b, o + j, none⟩ = some (.slice p m d) ∧ Hid (xss[j]? = some xs) ∧ Fresh T1 B w p m d xs := by
  obtain ⟨b, o, p, m, d, xs, e, hc, _, hx⟩ := h.sl2.at j hj
  obtain ⟨vs, ow, l, r⟩ := h
  have hl : vs.length = n := owns_len ow
  obtain ⟨p', m', d', xs', e1, hx', hf⟩ := r j vs[j] (List.getElem?_eq_getElem (by omega))
  have hx := hx.out
  rw [hx'] at hx; cases hx
  refine ⟨b, o, p, m, d, xs, e, hc, hx', ?_⟩
  have hc2 : w.cell? ⟨b, o + j, none⟩ = some (.slice p' m' d') := by
    rcases ow.2 with ⟨h2, _⟩ | ⟨g, cap, cur, hv, _⟩
    · cases h2; cases e
    · cases hv; cases e
      have h3 := ow.cellAt j (by omega)
      rw [Nat.zero_add, h3, List.getElem?_eq_getElem (by omega), e1]
  rw [hc2] at hc; cases hc
  exact hf
end Go.By
namespace Go.Proofs.YtfbmdlfkipipfaaGreatDoor
open Go.RowKit Go.By Gf Go.Maps
def OwnsH (W : World) (B T : Nat) (v : Value) (n : Nat) : Prop := ∃ ys, W.ownsRow B T 1 v n ys
/-- append(rows, x) -/
theorem wpList_hdr {ops : Array Oper} {rest : List Oper} {o : Oper} {a : Act} {W : World} {Q : Exit → Act → World → Prop} (hgd : o.guard = none) (s x : Operand) (ho : o.op = .call { callee := .builtin .append, args := #[s, x], argTypes := #[31, 31] })
    (B n : Nat) (v : Value) (xss : List (List UInt8)) (hs : a.eval s = v) (hH : HdrF 22 5 B W v n xss) (hn : n ≤ 1000000) (hB : B ≤ W.heap.size)
    (g : Nat) (hx : a.eval x = .slice (some ⟨g, 0, none⟩) 1 1) (q : Option Addr) (m c : Nat) (fr : Nat × Nat) (xs : List UInt8) (hg : W.heap[g]? = some (.cells #[.slice q m c] 22 fr)) (hF : Fresh 5 B W q m c xs)
    (h : ∀ v' W', HdrF 22 5 B W' v' (n + 1) (xss ++ [xs]) → OwnsH W B 22 v n → W.grownBy W' v.ownBlock → (v'.ownBlock = v.ownBlock ∨ v'.ownBlock = some W.heap.size) → wpList Tryz.prog ops Q rest (a.put o.dst v') W') : wpList Tryz.prog ops Q (o :: rest) a W := by
  obtain ⟨i0, hi0, hz0, hz1, hz2⟩ := info_parts info_bytesC
  obtain ⟨vs, ho1, hl, hr⟩ := hH
  refine wpList_append_where W hgd s x 31 ho B 22 i0 (.slice none 0 0) 1 24 Tryz.underlying31 hi0 hz0 hz1 hz2 rfl (by decide) v n vs hs ho1 ⟨g, 0, none⟩ 1 1 [.slice q m c] hx rfl (news_one hg) ones_one (by unfold maxLen; omega) (by omega) hB (by decide) ?_
  intro v' W' h1 h2 h3
  refine h v' W' (HdrF.push (v := v) h1 (by simpa using ho1.1) hl hr hF fun b cs fr hb => ?_) ⟨vs, ho1⟩ h2 h3
  rcases ho1.2 with ⟨e1, _⟩ | ⟨g', cap, cur, e1, _, hh, _⟩
  · exact h2.block b (lt_of_block hb) (fun e => by rw [e1] at e; cases e)
  · refine h2.block b (lt_of_block hb) (fun e => ?_)
    rw [e1] at e; cases e
    rw [hh] at hb; injection hb with hb; injection hb with _ hb _; exact absurd hb (by decide)
/-- what is sent by a source -/
def sentX (D nx : Nat) (k : Nat) (FX : List (List UInt8)) (m : UInt8) (j s : Nat) (xs : List UInt8) : List UInt8 := if srcC m j k = 0 then pktB m D nx xs s (combS (vecS m xs s k) FX).1 else []
def vecX (k : Nat) (m : UInt8) (j s : Nat) (xs : List UInt8) : List UInt8 := if srcC m j k = 0 then vecS m xs s k else []
def nextX (nx k : Nat) (m : UInt8) (j : Nat) : Nat := if srcC m j k = 0 then nx + 1 else nx
section
variable {wI w0 w w' : World} {gs gt be base L t k D nx N st : Nat} {FX : List (List UInt8)} {v : Value} {K : List Rw}
/-- the sender is asked to send by a source -/
theorem ST_sendA (h : ST wI w0 w gs gt be base L t k D FX nx N v K st) (hT : HalfT wI) (hnx : nx < 4294967296) {m : UInt8} {p : Option Addr} {j c s : Nat} {xs : List UInt8} (hs : Sl B8 w p j c xs) (hr : Room j) :
    Calls Tryz.prog 31 #[.pointer (some ⟨gs, 0, none⟩), SVal m p j c s] w fun e w' => ∃ q n c', e = .returned (.tuple #[.slice q n c', .int .i64 (srcC m j k)]) ∧ Fresh 5 w.heap.size w' q n c' (sentX D nx k FX m j s xs) ∧ ST wI w0 w' gs gt be base L t k D FX (nextX nx k m j) N v K st ∧ KeepS w w' := by
  unfold sentX nextX
  by_cases hm : srcC m j k = 0
  · rw [if_pos hm, if_pos hm, hm]
    exact ST_send h hT hnx hm hs hr
  · rw [if_neg hm, if_neg hm]
    refine Calls.mono (SSend_bad gs L t k D nx FX m p j c s xs w h.snd.snd hnx hm hs hr) ?_
    rintro e w1 ⟨rfl, hb⟩
    exact ⟨none, 0, 0, rfl, Fresh.none _ _ _, h.keep hb, KeepS.of hb⟩
end
/-- a take of a packet of the object, or of nothing -/
theorem OneObj.takeV {k t D : Nat} {FX : List (List UInt8)} {X K : List Rw} {x y : List UInt8} (h : OneObj k t FX X K) (hF : ∀ x, x ∈ FX → x.length = t) (hk : FX.length = k) (hr : readC k t D x = 0) (he : eqX k t x = rowC t FX y) (hy : y.length = k) :
    OneObj k t FX (X ++ [rowC t FX y]) (takeK k t D K (stF K k) x) ∧ takeS k t D K (stF K k) x = stF (takeK k t D K (stF K k) x) k := by
  obtain ⟨e3, e4⟩ := rowC_ok (k := k) hF hk hy
  have e3' := e3; have e4' := e4
  rw [← he] at e3' e4'
  obtain ⟨t1, t2⟩ := h.take e3' e4' hr
  rw [t1, t2, he]
  exact ⟨h.put e3 e4, rfl⟩
end Go.Proofs.YtfbmdlfkipipfaaGreatDoor
namespace Go.By
open Go.RowKit
theorem byte_of_wf {a : Int} (h : (Lit.int .u8 a).wf = true) : ∃ x : UInt8, Value.int .u8 a = B8 x ∧ a = (x.toNat : Int) := by
  have hb := bounds_u8 h
  have e : a = ((UInt8.ofNat a.toNat).toNat : Int) := by simp; omega
  exact ⟨UInt8.ofNat a.toNat, B8_congr e, e⟩
theorem sl_of_row {w : World} {a : Option Addr} {len cap : Nat} {zs : List Int}
    (h : (a = none ∧ len = 0 ∧ cap = 0 ∧ zs = []) ∨ ∃ x, a = some x ∧ len ≤ cap ∧ cap ≤ maxLen ∧ zs.length = cap ∧ (∀ i, i < zs.length → w.cell? (x.add i) = some (.int .u8 (zs.getD i 0))) ∧ ∀ n ∈ zs, (Lit.int .u8 n).wf = true) :
    ∃ xs, Sl B8 w a len cap xs := by
  rcases h with ⟨rfl, rfl, rfl, _⟩ | ⟨x, rfl, hl, hm, hz, hc, hw⟩
  · exact ⟨[], Sl.nil0 _ _⟩
  · refine ⟨(zs.take len).map fun z => UInt8.ofNat z.toNat, ⟨by simp; omega, hl, hm, fun h => by simp at h, ?_⟩⟩
    intro i hi
    have hi' : i < zs.length := by simp at hi; omega
    obtain ⟨b, o, hx, hc'⟩ := ints_at hc (by omega)
    refine ⟨b, o, by rw [hx], ?_⟩
    have hh := hc i hi'
    rw [hx, Addr.add_lit] at hh
    rw [hh]
    have e : zs.getD i 0 = zs[i] := by simp [hi']
    rw [e]
    have hb := bounds_u8 (hw _ (List.getElem_mem hi'))
    simp
    omega
end Go.By
namespace Go.Proofs.YtfbmdlfkipipfaaGreatDoor
open Go.RowKit Go.By Go.ChangeShapes Go.WideShapes Go.Deep
section
variable {H : Type} {enc : TypeId × Value → H} {P : Program} {w : World} {base : Nat} {held : Bool}
theorem open_bytes1 {t q : TypeId} {fuel : Nat} {c4 : Value} {x : DataW H × List MemPlace} (h4 : P.underlying t = some (.slice q)) (hq : P.underlying q = some (.int .u8)) (cq : P.cellsOf q = 1) (g4 : DataW.trod enc P w base (fun _ => true) held fuel t [c4] = some x) : ∃ p m c bs, c4 = .slice p m c ∧ Sl B8 w p m c bs := by
  rcases open_ints h4 hq cq g4 with ⟨hcs, _⟩ | ⟨x, l, c, zs, hcs, _, hl, hm, hz, _, hcell, hwz⟩
  · simp at hcs
    exact ⟨none, 0, 0, [], hcs, Sl.nil0 _ _⟩
  · simp at hcs
    obtain ⟨xs, hx⟩ := sl_of_row (.inr ⟨_, rfl, hl, hm, by simpa using hz, hcell, hwz⟩)
    exact ⟨_, _, _, xs, hcs, hx⟩
end
end Go.Proofs.YtfbmdlfkipipfaaGreatDoor
namespace Go.By
open Go.RowKit
/-- a source -/
structure SrcD where
  m : UInt8
  xs : List UInt8
  s : Nat
/-- sources in memory -/
structure SlS (w : World) (p : Option Addr) (n c : Nat) (by_ : List SrcD) : Prop where
  len : by_.length = n
  max : c ≤ maxLen
  le : n ≤ c
  rs : ∀ k a, by_[k]? = some a → ∃ b o q j c', p = some ⟨b, o, none⟩ ∧ w.cell? ⟨b, o + k * 3, none⟩ = some (B8 a.m) ∧ w.cell? ⟨b, o + k * 3 + 1, none⟩ = some (.slice q j c') ∧ w.cell? ⟨b, o + k * 3 + 2, none⟩ = some (.int .u64 (a.s : Nat)) ∧ Sl B8 w q j c' a.xs ∧ a.s < 18446744073709551616
theorem SlS.keep {w w' : World} {p : Option Addr} {n c : Nat} {l : List SrcD} (h : SlS w p n c l) (hb : Below w.heap.size w w') : SlS w' p n c l :=
  ⟨h.len, h.max, h.le, fun k a hk => by
    obtain ⟨b, o, q, j, c', hp, h0, h1, h2, h3, h4⟩ := h.rs k a hk
    have hlt := lt_of_cell h0
    exact ⟨b, o, q, j, c', hp, (hb.cell (p := ⟨b, o + k * 3, none⟩) hlt).trans h0, (hb.cell (p := ⟨b, o + k * 3 + 1, none⟩) hlt).trans h1, (hb.cell (p := ⟨b, o + k * 3 + 2, none⟩) hlt).trans h2, h3.keep hb, h4⟩⟩
theorem SlS.bound {w : World} {p : Option Addr} {n c : Nat} {l : List SrcD} (h : SlS w p n c l) : n ≤ 9223372036854775807 := by have := h.le; have := h.max; unfold maxLen at this; omega
theorem SlS.at {w : World} {p : Option Addr} {n c : Nat} {l : List SrcD} (h : SlS w p n c l) {i : Nat} (hi : i < n) : ∃ b o q j c' a, p = some ⟨b, o, none⟩ ∧ Hid (l[i]? = some a) ∧ w.cell? ⟨b, o + i * 3, none⟩ = some (B8 a.m) ∧ w.cell? ⟨b, o + i * 3 + 1, none⟩ = some (.slice q j c') ∧ w.cell? ⟨b, o + i * 3 + 2, none⟩ = some (.int .u64 (a.s : Nat)) ∧ Sl B8 w q j c' a.xs ∧ a.s < 18446744073709551616 := by
  have e : l[i]? = some (l[i]'(by rw [h.len]; exact hi)) := List.getElem?_eq_getElem _
  obtain ⟨b, o, q, j, c', hp, r⟩ := h.rs i _ e
  exact ⟨b, o, q, j, c', _, hp, e, r⟩
end Go.By
namespace Go.Proofs.YtfbmdlfkipipfaaGreatDoor
open Go.RowKit Go.By Go.ChangeShapes Go.WideShapes Go.Deep
section
variable {H : Type} {enc : TypeId × Value → H} {P : Program} {w : World} {base : Nat} {held : Bool}
theorem trod_struct3 {t : TypeId} {f0 f1 f2 : Field} {fuel : Nat} {cs : List Value} {x : DataW H × List MemPlace} {spare : Nat → Bool} (ht : P.underlying t = some (.struct #[f0, f1, f2])) (h : DataW.trod enc P w base spare held fuel t cs = some x) :
    ∃ y0 y1 y2 n, cs.length = P.cellsOf t ∧ DataW.trod enc P w base spare held n f0.type ((cs.drop f0.offset).take (P.cellsOf f0.type)) = some y0 ∧
      DataW.trod enc P w base spare held n f1.type ((cs.drop f1.offset).take (P.cellsOf f1.type)) = some y1 ∧ DataW.trod enc P w base spare held n f2.type ((cs.drop f2.offset).take (P.cellsOf f2.type)) = some y2 := by
  obtain ⟨xs, n, _, rfl, hl, hlen, hf⟩ := DataW.trod_struct ht h
  match xs, hlen with
  | [y0, y1, y2], _ => exact ⟨y0, y1, y2, n, hl, by simpa using hf 0 f0 rfl, by simpa using hf 1 f1 rfl, by simpa using hf 2 f2 rfl⟩
theorem list3 {α : Type} {cs : List α} (h : cs.length = 3) : ∃ c0 c1 c2, cs = [c0, c1, c2] := by
  match cs, h with
  | [c0, c1, c2], _ => exact ⟨c0, c1, c2, rfl⟩
/-- one source, cell by cell -/
theorem open_src {t q : TypeId} {f0 f1 f2 : Field} {fuel : Nat} {cs : List Value} {x : DataW H × List MemPlace} (ht : P.underlying t = some (.struct #[f0, f1, f2])) (hone : oneCellFields P #[f0, f1, f2] = true) (hC : P.cellsOf t = 3)
    (h0 : P.underlying f0.type = some (.int .u8)) (h1 : P.underlying f1.type = some (.slice q)) (h2 : P.underlying f2.type = some (.int .u64)) (hq : P.underlying q = some (.int .u8)) (cq : P.cellsOf q = 1)
    (h : DataW.trod enc P w base (fun _ => true) held fuel t cs = some x) :
    ∃ (a : SrcD) (p : Option Addr) (m c : Nat), cs = [B8 a.m, .slice p m c, .int .u64 (a.s : Nat)] ∧ Sl B8 w p m c a.xs ∧ a.s < 18446744073709551616 := by
  obtain ⟨y0, y1, y2, n, hl, g0, g1, g2⟩ := trod_struct3 ht h
  obtain ⟨c0, c1, c2, rfl⟩ := list3 (hl.trans hC)
  obtain ⟨o0, k0⟩ := hone_of hone 0 f0 rfl
  obtain ⟨o1, k1⟩ := hone_of hone 1 f1 rfl
  obtain ⟨o2, k2⟩ := hone_of hone 2 f2 rfl
  rw [o0, k0] at g0; rw [o1, k1] at g1; rw [o2, k2] at g2
  obtain ⟨d, e0, -, w0⟩ := DataW.trod_int h0 g0
  obtain ⟨p, m, c, bs, e1, hs⟩ := open_bytes1 h1 hq cq g1
  obtain ⟨s, e2, -, w2⟩ := DataW.trod_int h2 g2
  have b0 : 0 ≤ d ∧ d ≤ 255 := by
    simp [Lit.wf, IntKind.min, IntKind.max, IntKind.signed, IntKind.bits] at w0
    omega
  have b2 : 0 ≤ s ∧ s ≤ 18446744073709551615 := by
    simp [Lit.wf, IntKind.min, IntKind.max, IntKind.signed, IntKind.bits] at w2
    omega
  obtain ⟨sn, rfl⟩ := Int.eq_ofNat_of_zero_le b2.1
  obtain ⟨xd, hxd, -⟩ := byte_of_wf w0
  simp at e0 e2
  subst e0; subst e1; subst e2

  exact ⟨⟨xd, bs, sn⟩, p, m, c, by show [_, _, _] = [B8 xd, _, _]; rw [hxd], hs, by show sn < 18446744073709551616; have := b2.2; omega⟩
theorem open_srcs {t e q : TypeId} {f0 f1 f2 : Field} {fuel : Nat} {cs : List Value} {x : DataW H × List MemPlace} (ht : P.underlying t = some (.slice e)) (he : P.underlying e = some (.struct #[f0, f1, f2])) (hone : oneCellFields P #[f0, f1, f2] = true) (hC : P.cellsOf e = 3)
    (h0 : P.underlying f0.type = some (.int .u8)) (h1 : P.underlying f1.type = some (.slice q)) (h2 : P.underlying f2.type = some (.int .u64)) (hq : P.underlying q = some (.int .u8)) (cq : P.cellsOf q = 1)
    (h : DataW.trod enc P w base (fun _ => true) held fuel t cs = some x) : ∃ p n c l, cs = [.slice p n c] ∧ SlS w p n c l := by
  rcases open_slice ht h with ⟨hcs, _⟩ | ⟨a, len, cap, m, n, D, Pl, rfl, hb, hl, hm, hmm, rfl, hx⟩
  · exact ⟨none, 0, 0, [], hcs, ⟨rfl, by simp [maxLen], Nat.le_refl _, fun k a hk => by simp at hk⟩⟩
  simp only [if_true] at hmm
  have hmm' := hmm.symm
  subst hmm'
  have hsp : 0 < len → a.spot = none := fun h => by
    obtain ⟨cs', hc, htr⟩ := hx 0 (by omega)
    obtain ⟨y, p, m', c', rfl, -⟩ := open_src he hone hC h0 h1 h2 hq cq htr
    obtain ⟨_, _, hcell⟩ := World.cells?_some hc
    have z0 := hcell 0 (by omega)
    simpa [Addr.add] using World.cell?_spot (z0.trans rfl)
  have each : ∀ k, k < len → ∃ y : SrcD, ∃ b o q j c', a = ⟨b, o, none⟩ ∧ w.cell? ⟨b, o + k * 3, none⟩ = some (B8 y.m) ∧ w.cell? ⟨b, o + k * 3 + 1, none⟩ = some (.slice q j c') ∧ w.cell? ⟨b, o + k * 3 + 2, none⟩ = some (.int .u64 (y.s : Nat)) ∧ Sl B8 w q j c' y.xs ∧ y.s < 18446744073709551616 := by
    intro k hk
    obtain ⟨cs', hc, htr⟩ := hx k (by omega)
    obtain ⟨y, p, m', c', rfl, hs, hb1⟩ := open_src he hone hC h0 h1 h2 hq cq htr
    obtain ⟨_, _, hcell⟩ := World.cells?_some hc
    rw [hC] at hcell
    obtain ⟨b, o, spot⟩ := a
    have z0 := hcell 0 (by omega)
    have hspot : spot = none := hsp (by omega)
    subst hspot
    have z1 := hcell 1 (by omega); have z2 := hcell 2 (by omega)
    simp only [add_plain] at z0 z1 z2
    exact ⟨y, b, o, p, m', c', rfl, z0, z1, z2, hs, hb1⟩
  obtain ⟨f, hf⟩ : ∃ f : Nat → SrcD, ∀ k, k < len → ∃ b o q j c', a = ⟨b, o, none⟩ ∧ w.cell? ⟨b, o + k * 3, none⟩ = some (B8 (f k).m) ∧ w.cell? ⟨b, o + k * 3 + 1, none⟩ = some (.slice q j c') ∧ w.cell? ⟨b, o + k * 3 + 2, none⟩ = some (.int .u64 ((f k).s : Nat)) ∧ Sl B8 w q j c' (f k).xs ∧ (f k).s < 18446744073709551616 :=
    ⟨fun k => if hk : k < len then Classical.choose (each k hk) else ⟨0, [], 0⟩, fun k hk => by simp only [dif_pos hk]; exact Classical.choose_spec (each k hk)⟩
  refine ⟨some a, len, cap, (List.range len).map f, rfl, ⟨by simp, hm, hl, fun k y hk => ?_⟩⟩
  rw [List.getElem?_map] at hk
  cases hr : (List.range len)[k]? with
  | none => rw [hr] at hk; simp at hk
  | some k' =>
    rw [hr] at hk
    obtain ⟨hk1, hk2⟩ := List.getElem?_eq_some_iff.1 hr
    simp at hk1 hk2 hk
    subst hk2; subst hk
    obtain ⟨b, o, q, j, c', e, r⟩ := hf k hk1
    exact ⟨b, o, q, j, c', by rw [e], r⟩
end
end Go.Proofs.YtfbmdlfkipipfaaGreatDoor
namespace Go.Proofs.YtfbmdlfkipipfaaGreatDoor
open Go.RowKit Go.By
/-- a plan is gone through here: none that may be, or a small one -/
def small19 (l s n : Int) : Bool := if checkS l s n = 0 then decide (n ≤ 12) && decide (s ≤ 20) else true
set_option maxRecDepth 100000 in
set_option maxHeartbeats 1000000 in
theorem Small19_any (l s n d : Int) (w : World) (hl2 : l ≤ 9223372036854775807) :
    Calls Tryz.prog 29 #[.agg #[.int .i64 l, .int .i64 s, .int .i64 n, .int .u32 d]] w fun e w' => e = .returned (.bool (small19 l s n)) ∧ Below w.heap.size w w' := by
  have HC := Lib.hid (fun w => Check_any l s n d w hl2)
  have HS : Hid (small19 l s n = if checkS l s n = 0 then decide (n ≤ 12) && decide (s ≤ 20) else true) := rfl
  generalize small19 l s n = R at *
  generalize checkS l s n = C at *
  by_cases hc : C = 0
  · subst hc
    by_cases hn : n ≤ 12
    · by_cases hs : s ≤ 20
      · have HR : Hid (R = true) := by show _ = _; rw [HS.out, if_pos rfl, decide_eq_true hn, decide_eq_true hs]; rfl
        clear HS
        go_enter Tryz.func29, Tryz.ntmps29
        go_wp2_with fail
        refine Calls.mono (HC.out _) ?_
        rintro e w1 ⟨rfl, hb⟩
        obtain ⟨hb1, h1, hsz⟩ := one_of hb
        obtain ⟨c0, c1, c2, c3⟩ := cells_four h1
        have HB := Lib.hid hb1
        clear hb hb1
        go_wp2
        go_ret
        exact ⟨by rw [HR.out]; first | rfl | (simp only [decide_eq_true hs]; rfl), HB.out⟩
      · have hs' : ¬ s ≤ 20 := by omega
        have HR : Hid (R = false) := by show _ = _; rw [HS.out, if_pos rfl, decide_eq_true hn, decide_eq_false hs']; rfl
        clear HS
        go_enter Tryz.func29, Tryz.ntmps29
        go_wp2_with fail
        refine Calls.mono (HC.out _) ?_
        rintro e w1 ⟨rfl, hb⟩
        obtain ⟨hb1, h1, hsz⟩ := one_of hb
        obtain ⟨c0, c1, c2, c3⟩ := cells_four h1
        have HB := Lib.hid hb1
        clear hb hb1
        go_wp2
        go_ret
        exact ⟨by rw [HR.out]; first | rfl | (simp only [show decide (s ≤ 20) = false from decide_eq_false (by omega)]; rfl), HB.out⟩
    · have HR : Hid (R = false) := by show _ = _; rw [HS.out, if_pos rfl, decide_eq_false hn]; rfl
      clear HS
      go_enter Tryz.func29, Tryz.ntmps29
      go_wp2_with fail
      refine Calls.mono (HC.out _) ?_
      rintro e w1 ⟨rfl, hb⟩
      obtain ⟨hb1, h1, hsz⟩ := one_of hb
      obtain ⟨c0, c1, c2, c3⟩ := cells_four h1
      have HB := Lib.hid hb1
      clear hb hb1
      go_wp2
      go_ret
      exact ⟨by rw [HR.out]; rfl, HB.out⟩
  · have hz : (C != 0) = true := bne_iff_ne.2 hc
    have HR : Hid (R = true) := by show _ = _; rw [HS.out, if_neg hc]
    clear HS hc
    go_enter Tryz.func29, Tryz.ntmps29
    go_wp2_with fail
    refine Calls.mono (HC.out _) ?_
    rintro e w1 ⟨rfl, hb⟩
    obtain ⟨hb1, h1, hsz⟩ := one_of hb
    have HB := Lib.hid hb1
    clear hb hb1
    go_wp2
    go_ret
    exact ⟨by rw [HR.out]; rfl, HB.out⟩
end Go.Proofs.YtfbmdlfkipipfaaGreatDoor
namespace Go.Proofs.YtfbmdlfkipipfaaGreatDoor
open Go.RowKit Go.By Gf Go.Maps
theorem read_roomT {L t k D : Nat} {xs : List UInt8} (hP : POK L t k D) (h : readC k t D xs = 0) : xs.length ≤ 140737488355328 := by
  unfold readC at h
  split at h
  · rename_i hh; exact absurd h hh
  · split at h
    · cases h
    · rename_i hl
      have hl : xs.length = lenP (xs.getD 1 0) k t := by
        rcases Nat.lt_trichotomy xs.length (lenP (xs.getD 1 0) k t) with g | g | g
        · exact absurd (Nat.ne_of_lt g) hl
        · exact g
        · exact absurd (Nat.ne_of_gt g) hl
      rw [hl]
      unfold lenP widS
      have := hP.k2; have := hP.t2
      split
      · omega
      · split <;> omega
end Go.Proofs.YtfbmdlfkipipfaaGreatDoor
namespace Go.Proofs.YtfbmdlfkipipfaaGreatDoor
open Go.RowKit Go.By
theorem info_parcel : (Tryz.prog.info? 174).map (fun i => (i.zero, i.size, i.bytes)) = some (some (.agg #[.slice none 0 0, .int .i64 0]), 2, 32) := by kernel_rfl
theorem zero_parcel : ∀ w, (zeroValue 174).run Tryz.prog w = .ok (.agg #[.slice none 0 0, .int .i64 0]) w := fun w => by
  obtain ⟨i0, hi, hz0, hz1, hz2⟩ := info_parts info_parcel
  simp [zeroValue, typeInfo, hi, hz0]
set_option maxRecDepth 100000 in
set_option maxHeartbeats 2000000 in
theorem Delete_any (base g n c i : Nat) (us : List (Value × Int)) (w : World) (h : w.ownsRow base 174 2 (.slice (some ⟨g, 0, none⟩) n c) n (pcs us)) (hi : i < n) (h1 : ∀ u, u ∈ us → u.1.oneCell' = true) :
    Calls Tryz.prog 187 #[.slice (some ⟨g, 0, none⟩) n c, .int .i64 i, .int .i64 ((i : Int) + 1)] w fun e w' =>
      e = .returned (.slice (some ⟨g, 0, none⟩) (i + (n - (i + 1))) c) ∧ w'.ownsRow base 174 2 (.slice (some ⟨g, 0, none⟩) (n - 1) c) (n - 1) (pcs (us.take i ++ us.drop (i + 1))) ∧ w.grownBy w' (some g) := by
  obtain ⟨i0, hi0, hz0, hz1, hz2⟩ := info_parts info_parcel
  have hul : us.length = n := by have := h.1; rw [pcs_length] at this; omega
  obtain ⟨g', cur, hq, hg, hh, hnc, hcm, hcl, hct⟩ := owns2_open h (by omega)
  cases hq
  unfold maxLen at hcm
  have hic : i ≤ c := by omega
  have hjc : i + 1 ≤ c := by omega
  have hwr : IntKind.i64.wrap ((i : Int) + 1) = (i : Int) + 1 := by rw [IntKind.wrap_i64]; omega
  have hp0 : (0 : Int) ≤ (i : Int) + 1 := by omega
  have hp1 : (i : Int) + 1 ≤ (n : Int) := by omega
  have hp2 : ((i : Int) + 1).toNat = i + 1 := by omega
  have hne : ((i : Int) == (i : Int) + 1) = false := by simp; omega
  obtain ⟨news, hnews⟩ : ∃ news, news = pcs (us.drop (i + 1)) := ⟨_, rfl⟩
  have hlen : news.length = (n - (i + 1)) * 2 := by rw [hnews, pcs_length, List.length_drop, hul]
  have hcut : cur.take (n * 2) = pcs us := hct
  have hnc2 : ∀ j v, news[j]? = some v → cur[(i + 1) * 2 + j]? = some v := by
    intro j v hj
    rw [hnews, pcs_drop, ← hcut, List.getElem?_drop, List.getElem?_take] at hj
    split at hj
    · exact hj
    · cases hj
  obtain ⟨A, hA, hsrc⟩ : ∃ A : Addr, (if c = i + 1 then some (⟨g, 0, none⟩ : Addr) else some ⟨g, (i + 1) * 2, none⟩) = some A ∧ Hid (∀ t u, news[t]? = some u → w.drew.cell? (A.add t) = some u) := by
    by_cases h : c = i + 1
    · refine ⟨⟨g, 0, none⟩, by simp [h], fun t u hu => ?_⟩
      have h0 : news.length = 0 := by rw [hlen]; omega
      rw [List.length_eq_zero_iff.1 h0] at hu
      simp at hu
    · refine ⟨⟨g, (i + 1) * 2, none⟩, by simp [h], fun t u hu => ?_⟩
      rw [Addr.add_lit]
      show w.cell? _ = _
      rw [cell_arr hh]
      exact hnc2 t u hu
  have s1 : Hid (news.length = (n - (i + 1)) * 2) := hlen
  have s2 : Hid (∀ u ∈ news, u.oneCell' = true) := by
    intro u hu
    rw [hnews] at hu
    exact pcs_one (fun x hx => h1 x (List.mem_of_mem_drop hx)) u hu
  have s3 : Hid (∀ t, t < news.length → (w.drew.cell? ⟨g, 0 + i * 2 + t, none⟩).isSome = true ∧ w.drew.frozen? ⟨g, 0 + i * 2 + t, none⟩ = false) := by
    intro t ht
    rw [hlen] at ht
    exact ⟨by show (w.cell? _).isSome = true; rw [cell_arr hh, List.getElem?_eq_getElem (by omega)]; rfl, frozen_arr (w := w) hh _⟩
  obtain ⟨W1, hW1⟩ : ∃ W1, W1 = w.drew.setCells g (0 + i * 2) news := ⟨_, rfl⟩
  have hh1 : W1.heap[g]? = some (.cells (cur.take (i * 2) ++ news ++ cur.drop (i * 2 + news.length)).toArray 174 (0, 0)) := by
    rw [hW1, Nat.zero_add]; exact heap_setCells news (i * 2) w.drew cur hh (by omega)
  have hgr1 : w.grownBy W1 (some g) := by rw [hW1]; exact grown_trans (grownBy_drew w _) (grownBy_setCells g _ _ _)
  have hlen1 : (cur.take (i * 2) ++ news ++ cur.drop (i * 2 + news.length)).length = c * 2 := by
    simp only [List.length_append, List.length_take, List.length_drop]; omega
  obtain ⟨cur1, hcur1⟩ : ∃ cur1, cur1 = cur.take (i * 2) ++ news ++ cur.drop (i * 2 + news.length) := ⟨_, rfl⟩
  rw [← hcur1] at hh1 hlen1
  have hclr : ∀ ty cc, (Builtin.clear_ #[171] ty #[.slice (some ⟨g, (i + (n - (i + 1))) * 2, none⟩) (n - (i + (n - (i + 1)))) cc]).run Tryz.prog W1 = .ok (.tuple #[]) (W1.setCells g ((n - 1) * 2) [.slice none 0 0, .int .i64 0]) := fun ty cc => by
    have e1 : n - (i + (n - (i + 1))) = 1 := by omega
    have e2 : i + (n - (i + 1)) = n - 1 := by omega
    rw [e1, e2]
    exact run_clear_two W1 _ _ ty _ _ _ Tryz.underlying171 zero_parcel rfl rfl rfl g ((n - 1) * 2) cc (fun j hj => by rw [cell_arr hh1, List.getElem?_eq_getElem (by omega)]; rfl) (fun j hj => frozen_arr hh1 _)
  have hW : Hid (W1 = w.drew.setCells g (0 + i * 2) news) := hW1
  have FIN : Hid ((W1.setCells g ((n - 1) * 2) [.slice none 0 0, .int .i64 0]).ownsRow base 174 2 (.slice (some ⟨g, 0, none⟩) (n - 1) c) (n - 1) (pcs (us.take i ++ us.drop (i + 1))) ∧ w.grownBy (W1.setCells g ((n - 1) * 2) [.slice none 0 0, .int .i64 0]) (some g)) := by
    refine ⟨owns2_shut hg (heap_setCells _ _ _ _ hh1 (by rw [hlen1]; simp; omega)) (by omega) (by unfold maxLen; omega) ?_ ?_, grown_trans hgr1 (grownBy_setCells g _ _ _)⟩
    · simp only [List.length_append, List.length_take, List.length_drop, hlen1, List.length_cons, List.length_nil]; omega
    · rw [List.append_assoc, List.take_append_of_le_length (by rw [List.length_take, hlen1]; omega), List.take_take, Nat.min_self, hcur1, List.append_assoc, pcs_append, pcs_take, ← hcut, List.take_take, show min (i * 2) (n * 2) = i * 2 by omega,
        List.take_append, List.take_take, List.length_take, show min ((n - 1) * 2) (i * 2) = i * 2 by omega, show (n - 1) * 2 - min (i * 2) cur.length = news.length by omega, List.take_append_of_le_length (Nat.le_refl _), List.take_length, hnews]
  clear h hh hh1 hcut hct hnews hlen hnc2 hgr1 hcur1 hlen1 hW1 hul hg hcl h1
  go_enter Tryz.func187, Tryz.ntmps187
  go_wp2_with fail
  go_region_law (refine step_append_room rfl (.tmp 22) (.tmp 25) 171 rfl 174 i0 2 Tryz.underlying171 hi0 hz1 g 0 i c (by simp [Act.eval, Act.put]) A (n - (i + 1)) (c - (i + 1)) news (by simp [Act.eval, Act.put]) s1.out hsrc.out s2.out (by omega) s3.out ?_; rw [← hW.out])
  go_wp2
  go_ret
  exact ⟨rfl, FIN.out.1, FIN.out.2⟩
end Go.Proofs.YtfbmdlfkipipfaaGreatDoor
namespace Go.Proofs.YtfbmdlfkipipfaaGreatDoor
open Go.RowKit Go.By
theorem owns2_someA {w : World} {base T n c g : Nat} {L : List Value} (h : w.ownsRow base T 2 (.slice (some ⟨g, 0, none⟩) n c) n L) :
    ∃ cur, base ≤ g ∧ w.heap[g]? = some (.cells (List.toArray cur) T (0, 0)) ∧ n ≤ c ∧ c ≤ maxLen ∧ cur.length = c * 2 ∧ cur.take (n * 2) = L := by
  rcases h.2 with ⟨h1, _⟩ | ⟨g', cap, cur, hv, hg, hh, h1, h2, h3, h4⟩
  · simp at h1
  · obtain ⟨rfl, rfl⟩ : g = g' ∧ c = cap := by simpa using hv
    exact ⟨cur.toList, hg, by simpa using hh, h1, h2, by simpa using h3, by simpa using h4⟩
set_option maxRecDepth 100000 in
set_option maxHeartbeats 2000000 in
theorem InsertEnd_any (base g n c vb : Nat) (us : List (Value × Int)) (u : Value × Int) (w : World) (h : w.ownsRow base 174 2 (.slice (some ⟨g, 0, none⟩) n c) n (pcs us)) (hroom : n + 1 ≤ c) (hu : u.1.oneCell' = true)
    (hv : w.heap[vb]? = some (.cells #[u.1, .int .i64 u.2] 174 (0, 0))) :
    Calls Tryz.prog 188 #[.slice (some ⟨g, 0, none⟩) n c, .int .i64 n, .slice (some ⟨vb, 0, none⟩) 1 1] w fun e w' =>
      e = .returned (.slice (some ⟨g, 0, none⟩) (n + 1) c) ∧ w'.ownsRow base 174 2 (.slice (some ⟨g, 0, none⟩) (n + 1) c) (n + 1) (pcs (us ++ [u])) ∧ w.grownBy w' (some g) := by
  obtain ⟨i0, hi0, hz0, hz1, hz2⟩ := info_parts info_parcel
  obtain ⟨cur, hg, hh, hnc, hcm, hcl, hct⟩ := owns2_someA h
  have hr := fun ty => run_append_room_cells (P := Tryz.prog) (w := w) 171 ty 174 i0 Tryz.underlying171 hi0 g 0 n c ⟨vb, 0, none⟩ 1 1 [u.1, .int .i64 u.2] (by rw [hz1]; rfl)
    (fun j x hj => by
      rw [Addr.add_lit, Nat.zero_add, cell_of_row _ _ j _ _ _ hv]
      match j with
      | 0 => simpa using hj
      | 1 => simpa using hj
      | j + 2 => simp at hj)
    (by intro x hx; simp at hx; rcases hx with rfl | rfl; exact hu; rfl) hroom
    (fun j hj => by rw [hz1, cell_arr hh, List.getElem?_eq_getElem (by simp at hj; omega)]; rfl) (fun j hj => frozen_arr hh _)
  rw [hz1, Nat.zero_add] at hr
  have HR := Lib.hid hr
  have FIN : Hid ((w.setCells g (n * 2) [u.1, .int .i64 u.2]).ownsRow base 174 2 (.slice (some ⟨g, 0, none⟩) (n + 1) c) (n + 1) (pcs (us ++ [u])) ∧ w.grownBy (w.setCells g (n * 2) [u.1, .int .i64 u.2]) (some g)) := by
    refine ⟨owns2_shut hg (heap_setCells _ _ _ _ hh (by simp; omega)) hroom hcm ?_ ?_, grownBy_setCells g _ _ _⟩
    · simp only [List.length_append, List.length_take, List.length_drop, hcl, List.length_cons, List.length_nil]; omega
    · rw [pcs_append, ← hct, List.take_append_of_le_length (by simp only [List.length_append, List.length_take, List.length_cons, List.length_nil]; omega), List.take_of_length_le (by simp only [List.length_append, List.length_take, List.length_cons, List.length_nil]; omega)]
      rfl
  unfold maxLen at hcm
  clear h hh hct hr hv hcl hu
  go_enter Tryz.func188, Tryz.ntmps188
  go_wp2_with (at_builtin; refine Lib.wpList_append_run _ rfl _ _ _ _ rfl _ _ rfl rfl _ _ (HR.out _) ?_)
  go_ret
  exact ⟨rfl, FIN.out.1, FIN.out.2⟩
set_option maxRecDepth 100000 in
set_option maxHeartbeats 4000000 in
theorem InsertMid_any (base g n c i vb : Nat) (us : List (Value × Int)) (u : Value × Int) (w : World) (h : w.ownsRow base 174 2 (.slice (some ⟨g, 0, none⟩) n c) n (pcs us)) (hi : i < n) (hroom : n + 1 ≤ c) (h1 : ∀ x, x ∈ us → x.1.oneCell' = true) (hu : u.1.oneCell' = true)
    (hv : w.heap[vb]? = some (.cells #[u.1, .int .i64 u.2] 174 (0, 0))) (hvb : vb ≠ g) :
    Calls Tryz.prog 188 #[.slice (some ⟨g, 0, none⟩) n c, .int .i64 i, .slice (some ⟨vb, 0, none⟩) 1 1] w fun e w' =>
      e = .returned (.slice (some ⟨g, 0, none⟩) (n + 1) c) ∧ w'.ownsRow base 174 2 (.slice (some ⟨g, 0, none⟩) (n + 1) c) (n + 1) (pcs (us.take i ++ u :: us.drop i)) ∧ w.grownBy w' (some g) := by
  obtain ⟨i0, hi0, hz0, hz1, hz2⟩ := info_parts info_parcel
  have hul : us.length = n := by have := h.1; rw [pcs_length] at this; omega
  obtain ⟨cur, hg, hh, hnc, hcm, hcl, hct⟩ := owns2_someA h
  have hsz : (Tryz.prog.info? 174).map (·.size) = some 2 := by rw [hi0]; simp [hz1]
  have hov : ∀ lb cb, (callFunc 203 #[.slice (some ⟨vb, 0, none⟩) 1 1, .slice (some ⟨g, (i + 1) * 2, none⟩) lb cb]).run Tryz.prog w = .ok (.value (.bool false)) w := fun lb cb => by
    rw [run_callFunc_extern Tryz.func203 (by kernel_rfl) (by kernel_rfl) (by kernel_rfl) (e := Extern.SlicesOverlaps.overlaps #[171, 171] #[4]) (by kernel_rfl),
      Lib.run_overlaps_apart w 171 4 174 Tryz.underlying171 2 (fun w => by simp [Go.sizeOf, typeInfo, hi0, hz1]) ⟨vb, 0, none⟩ ⟨g, (i + 1) * 2, none⟩ 1 1 lb cb hvb 174 174 2 (c * 2)
        (by simp [World.shape?, hv]) (by simp [World.shape?, hh, hcl]) (by omega) (frozen_of_row _ _ 0 _ _ hv) (frozen_of_row _ _ 2 _ _ hv)]
    rfl
  have hw1 : IntKind.i64.wrap ((i : Int) + 1) = (i : Int) + 1 := by rw [IntKind.wrap_i64]; unfold maxLen at hcm; omega
  have hb1 : (0 : Int) ≤ (i : Int) + 1 := by omega
  have htn : ((i : Int) + 1).toNat = i + 1 := by omega
  have hb2 : ¬ (c = i + 1) := by omega
  have hb4 : ¬ (c = i) := by omega
  have hb5 : (i : Int) + 1 ≤ (n : Int) + 1 := by omega
  have hb6 : (i : Int) ≤ (n : Int) + 1 := by omega
  have hb7 : i + 1 ≤ n + 1 := by omega
  have hb8 : i ≤ n + 1 := by omega
  have hz2' : ((i : Int) == (n : Int)) = false := by simp; omega
  obtain ⟨mv, hmv⟩ : ∃ mv, mv = pcs (us.drop i) := ⟨_, rfl⟩
  have hml : mv.length = (n - i) * 2 := by rw [hmv, pcs_length, List.length_drop, hul]
  have hmc : ∀ j v, mv[j]? = some v → cur[i * 2 + j]? = some v := by
    intro j v hj
    rw [hmv, pcs_drop, ← hct, List.getElem?_drop, List.getElem?_take] at hj
    split at hj
    · exact hj
    · cases hj
  have hcp1 : ∀ ty dc sc, (Builtin.copy_ #[171, 171] ty #[.slice (some ⟨g, (i + 1) * 2, none⟩) (n - i) dc, .slice (some ⟨g, i * 2, none⟩) (n + 1 - i) sc]).run Tryz.prog w.drew = .ok (goInt ((n - i : Nat) : Int)) (w.drew.setCells g ((i + 1) * 2) mv) := fun ty dc sc => by
    have hmin : Nat.min (n + 1 - i) (n - i) = n - i := by simp only [Nat.min_def]; split <;> omega
    have := run_copy_two (P := Tryz.prog) w.drew 171 171 ty 174 g ((i + 1) * 2) (n - i) dc ⟨g, i * 2, none⟩ (n + 1 - i) sc mv Tryz.underlying171 hsz (by rw [hmin]; exact hml)
      (fun j v hj => by rw [Addr.add_lit]; show w.cell? _ = _; rw [cell_arr hh]; exact hmc j v hj)
      (fun j hj => by show (w.cell? _).isSome = true; rw [cell_arr hh, List.getElem?_eq_getElem (by omega)]; rfl) (fun j hj => frozen_arr (w := w) hh _)
      (by rw [hmv]; exact pcs_one (fun x hx => h1 x (List.mem_of_mem_drop hx)))
    rw [hmin] at this
    exact this
  obtain ⟨W1, hW1⟩ : ∃ W1, W1 = w.drew.setCells g ((i + 1) * 2) mv := ⟨_, rfl⟩
  have hh1 : W1.heap[g]? = some (.cells (cur.take ((i + 1) * 2) ++ mv ++ cur.drop ((i + 1) * 2 + mv.length)).toArray 174 (0, 0)) := by
    rw [hW1]; exact heap_setCells mv ((i + 1) * 2) w.drew cur hh (by omega)
  have hgr1 : w.grownBy W1 (some g) := by rw [hW1]; exact grown_trans (grownBy_drew w _) (grownBy_setCells g _ _ _)
  have hvw : W1.heap[vb]? = some (.cells #[u.1, .int .i64 u.2] 174 (0, 0)) := by
    rw [hgr1.block vb (lt_of_cell (cell_of_row _ _ 0 _ _ _ hv)) (by simpa using hvb)]; exact hv
  have hlen1 : (cur.take ((i + 1) * 2) ++ mv ++ cur.drop ((i + 1) * 2 + mv.length)).length = c * 2 := by
    simp only [List.length_append, List.length_take, List.length_drop]; omega
  obtain ⟨cur1, hcur1⟩ : ∃ cur1, cur1 = cur.take ((i + 1) * 2) ++ mv ++ cur.drop ((i + 1) * 2 + mv.length) := ⟨_, rfl⟩
  rw [← hcur1] at hh1 hlen1
  have hcp2 : ∀ ty dc, (Builtin.copy_ #[171, 171] ty #[.slice (some ⟨g, i * 2, none⟩) (n + 1 - i) dc, .slice (some ⟨vb, 0, none⟩) 1 1]).run Tryz.prog W1 = .ok (goInt 1) (W1.setCells g (i * 2) [u.1, .int .i64 u.2]) := fun ty dc => by
    have hmin : Nat.min 1 (n + 1 - i) = 1 := by simp only [Nat.min_def]; split <;> omega
    have := run_copy_two (P := Tryz.prog) W1 171 171 ty 174 g (i * 2) (n + 1 - i) dc ⟨vb, 0, none⟩ 1 1 [u.1, .int .i64 u.2] Tryz.underlying171 hsz (by rw [hmin]; rfl)
      (fun j x hj => by
        rw [Addr.add_lit, Nat.zero_add, cell_of_row _ _ j _ _ _ hvw]
        match j with
        | 0 => simpa using hj
        | 1 => simpa using hj
        | j + 2 => simp at hj)
      (fun j hj => by rw [cell_arr hh1, List.getElem?_eq_getElem (by simp at hj; omega)]; rfl) (fun j hj => frozen_arr hh1 _)
      (by intro x hx; simp at hx; rcases hx with rfl | rfl; exact hu; rfl)
    rw [hmin] at this
    exact this
  rw [← hW1] at hcp1
  have FIN : Hid ((W1.setCells g (i * 2) [u.1, .int .i64 u.2]).ownsRow base 174 2 (.slice (some ⟨g, 0, none⟩) (n + 1) c) (n + 1) (pcs (us.take i ++ u :: us.drop i)) ∧ w.grownBy (W1.setCells g (i * 2) [u.1, .int .i64 u.2]) (some g)) := by
    refine ⟨owns2_shut hg (heap_setCells _ _ _ _ hh1 (by rw [hlen1]; simp; omega)) hroom hcm ?_ ?_, grown_trans hgr1 (grownBy_setCells g _ _ _)⟩
    · simp only [List.length_append, List.length_take, List.length_drop, hlen1, List.length_cons, List.length_nil]; omega
    · have e1 : cur1.take (i * 2) = cur.take (i * 2) := by
        rw [hcur1, List.append_assoc, List.take_append_of_le_length (by rw [List.length_take]; omega), List.take_take, show min (i * 2) ((i + 1) * 2) = i * 2 by omega]
      have e2 : cur1.drop (i * 2 + [u.1, Value.int .i64 u.2].length) = mv ++ cur.drop ((i + 1) * 2 + mv.length) := by
        rw [hcur1, List.append_assoc]
        exact List.drop_left' (by rw [List.length_take, List.length_cons, List.length_cons, List.length_nil]; omega)
      rw [e1, e2, ← List.append_assoc, List.take_left' (by simp only [List.length_append, List.length_take, List.length_cons, List.length_nil, hml]; omega), pcs_append, pcs_cons, pcs_take, ← hmv, ← hct, List.take_take, show min (i * 2) (n * 2) = i * 2 by omega]
      simp
  unfold maxLen at hcm
  have HC1 := Lib.hid hcp1; have HC2 := Lib.hid hcp2
  clear h hh hct hv hcl hu hcp1 hcp2 hh1 hgr1 hvw hcur1 hlen1 hW1 hmv hml hmc h1 hul hg
  go_enter Tryz.func188, Tryz.ntmps188
  go_wp2_with (simp only [hov])
  go_region_law (refine step_copy_runI rfl _ _ 171 171 rfl _ _ (by simp [Act.eval, Act.put]) (by simp [Act.eval, Act.put]) (HC1.out _ (c - (i + 1)) (c - i)) ?_)
  have hc2 := HC2.out 3 (c - i)
  go_wp2
  go_ret
  exact ⟨rfl, FIN.out.1, FIN.out.2⟩
end Go.Proofs.YtfbmdlfkipipfaaGreatDoor
namespace Go.By
open Go.RowKit
/-- a slice value that owns bytes -/
def Bt (T1 : Nat) (w : World) (base : Nat) (v : Value) (xs : List UInt8) : Prop := ∃ q m c, v = .slice q m c ∧ w.ownsRow base T1 1 (.slice q m c) m (xs.map B8)
/-- a parcel in memory: its slice, where it came from, its bytes -/
abbrev Par := Value × Int × List UInt8
def parOf (t : Par) : Value × Int := (t.1, t.2.1)
def parIs (t : Par) : List UInt8 × Int := (t.2.2, t.2.1)
def blks (ts : List Par) : List Nat := ts.filterMap fun t => t.1.ownBlock
structure Pl (TP T1 : Nat) (w : World) (base : Nat) (v : Value) (n : Nat) (ts : List Par) : Prop where
  len : ts.length = n
  own : w.ownsRow base TP 2 v n (pcs (ts.map parOf))
  row : ∀ t, t ∈ ts → Bt T1 w base t.1 t.2.2
  dis : (blks ts).Nodup
section
variable {TP T1 : Nat} {w w' : World} {base n : Nat} {v : Value} {ts : List Par}
theorem Bt.keep {xs : List UInt8} (h : Bt T1 w base v xs) (hb : Below w.heap.size w w') : Bt T1 w' base v xs := by
  obtain ⟨q, m, c, rfl, h⟩ := h; exact ⟨q, m, c, rfl, owns_keep h hb⟩
theorem Bt.one {xs : List UInt8} (h : Bt T1 w base v xs) : v.oneCell' = true := by obtain ⟨q, m, c, rfl, h⟩ := h; rfl
theorem Bt.lt {xs : List UInt8} (h : Bt T1 w base v xs) : ∀ b, v.ownBlock = some b → base ≤ b ∧ b < w.heap.size := by
  obtain ⟨q, m, c, rfl, h⟩ := h; exact h.lt
/-- what is written into the array of parcels leaves the bytes -/
theorem Bt.grown {xs : List UInt8} {u : Value} {L : List Value} {m : Nat} (h : Bt T1 w base v xs) (hT : T1 ≠ TP) (ho : w.ownsRow base TP 2 u m L) (hg : w.grownBy w' u.ownBlock) : Bt T1 w' base v xs := by
  obtain ⟨q, m, c, rfl, h⟩ := h; exact ⟨q, m, c, rfl, owns_kept h hg (owns_ne h ho hT)⟩
theorem Pl.keep (h : Pl TP T1 w base v n ts) (hb : Below w.heap.size w w') : Pl TP T1 w' base v n ts :=
  ⟨h.len, owns_keepv h.own hb, fun t ht => (h.row t ht).keep hb, h.dis⟩
theorem Pl.ones (h : Pl TP T1 w base v n ts) : ∀ u, u ∈ ts.map parOf → u.1.oneCell' = true := by
  intro u hu
  obtain ⟨t, ht, rfl⟩ := List.mem_map.1 hu
  exact (h.row t ht).one
theorem blks_append (a b : List Par) : blks (a ++ b) = blks a ++ blks b := by simp [blks]
theorem blks_sub {a b : List Par} (h : a.Sublist b) : (blks a).Sublist (blks b) := h.filterMap _
theorem Pl.blt (h : Pl TP T1 w base v n ts) : ∀ b, b ∈ blks ts → base ≤ b ∧ b < w.heap.size := by
  intro b hb
  obtain ⟨t, ht, e⟩ := List.mem_filterMap.1 hb
  exact (h.row t ht).lt b e
/-- another order, or fewer, of the same parcels -/
theorem Pl.turn {u : Value} {m : Nat} {ss : List Par} (h : Pl TP T1 w base v n ts) (hT : T1 ≠ TP) (hm : ∀ t, t ∈ ss → t ∈ ts) (hd : (blks ss).Nodup) (hl : ss.length = m) (ho : w'.ownsRow base TP 2 u m (pcs (ss.map parOf))) (hg : w.grownBy w' v.ownBlock) : Pl TP T1 w' base u m ss :=
  ⟨hl, ho, fun t ht => (h.row t (hm t ht)).grown hT h.own hg, hd⟩
/-- one more, with bytes of its own in new memory; 'w1' is the world in which the clone is made, 'w2' behind it -/
theorem Pl.push {w1 w2 : World} {u x : Value} {k : Int} {xs : List UInt8} (h : Pl TP T1 w1 base v n ts) (hT : T1 ≠ TP) (hx : Bt T1 w2 w1.heap.size x xs) (hbase : base ≤ w1.heap.size) (hb : Below w1.heap.size w1 w2) (ho : w'.ownsRow base TP 2 u (n + 1) (pcs (ts.map parOf) ++ [x, .int .i64 k])) (hg : w2.grownBy w' v.ownBlock) :
    Pl TP T1 w' base u (n + 1) (ts ++ [(x, k, xs)]) := by
  have h2 := h.keep hb
  have hx2 : Bt T1 w2 base x xs := by obtain ⟨q, m, c, rfl, h⟩ := hx; exact ⟨q, m, c, rfl, owns_mono h hbase⟩
  refine ⟨by simp [h.len], ?_, fun t ht => ?_, ?_⟩
  · rw [List.map_append, pcs_append]; exact ho
  · rcases List.mem_append.1 ht with ht | ht
    · exact (h2.row t ht).grown hT h2.own hg
    · simp at ht; subst ht; exact hx2.grown hT h2.own hg
  · rw [blks_append, List.nodup_append]
    refine ⟨h.dis, ?_, ?_⟩
    · cases hb : x.ownBlock <;> simp [blks, hb]
    · intro a ha b hb' e
      subst e
      obtain ⟨t, ht, e⟩ := List.mem_filterMap.1 hb'
      simp at ht; subst ht
      have := (hx.lt a e).1
      have := (h.blt a ha).2
      omega
/-- one is put in another's place, with bytes of its own in new memory -/
theorem Pl.swap {w1 w2 : World} {x : Value} {k : Int} {xs : List UInt8} {i : Nat} (h : Pl TP T1 w1 base v n ts) (hi : i < n) (hT : T1 ≠ TP) (hx : Bt T1 w2 w1.heap.size x xs) (hbase : base ≤ w1.heap.size) (hb : Below w1.heap.size w1 w2) (ho : w'.ownsRow base TP 2 v n (pcs ((ts.map parOf).set i (x, k)))) (hg : w2.grownBy w' v.ownBlock) :
    Pl TP T1 w' base v n (ts.set i (x, k, xs)) := by
  have h2 := h.keep hb
  have hx2 : Bt T1 w2 base x xs := by obtain ⟨q, m, c, rfl, h⟩ := hx; exact ⟨q, m, c, rfl, owns_mono h hbase⟩
  have hil : i < ts.length := by rw [h.len]; exact hi
  refine ⟨by simp [h.len], ?_, fun t ht => ?_, ?_⟩
  · rw [List.map_set]; exact ho
  · rcases List.mem_or_eq_of_mem_set ht with ht | rfl
    · exact (h2.row t ht).grown hT h2.own hg
    · exact hx2.grown hT h2.own hg
  · have hd := h.dis
    rw [← List.take_append_drop i ts, List.drop_eq_getElem_cons hil, blks_append] at hd
    rw [List.set_eq_take_append_cons_drop, if_pos hil, blks_append]
    have e1 : blks (ts[i] :: ts.drop (i + 1)) = blks [ts[i]] ++ blks (ts.drop (i + 1)) := blks_append [ts[i]] _
    have e2 : blks ((x, k, xs) :: ts.drop (i + 1)) = blks [(x, k, xs)] ++ blks (ts.drop (i + 1)) := blks_append [(x, k, xs)] _
    rw [e1] at hd
    rw [e2]
    have hnew : ∀ a, a ∈ blks [(x, k, xs)] → ∀ b, b ∈ blks ts → a ≠ b := by
      intro a ha b hb' e
      subst e
      obtain ⟨t, ht, e⟩ := List.mem_filterMap.1 ha
      simp at ht; subst ht
      have := (hx.lt a e).1
      have := (h.blt a hb').2
      omega
    have hone : (blks [(x, k, xs)]).Nodup := by cases hb : x.ownBlock <;> simp [blks, hb]
    simp only [List.nodup_append] at hd ⊢
    obtain ⟨d1, ⟨d2, d3, d4⟩, d5⟩ := hd
    have s1 : ∀ a, a ∈ blks (ts.take i) → a ∈ blks ts := fun a ha => (blks_sub (List.take_sublist i ts)).subset ha
    have s2 : ∀ a, a ∈ blks (ts.drop (i + 1)) → a ∈ blks ts := fun a ha => (blks_sub (List.drop_sublist (i + 1) ts)).subset ha
    refine ⟨d1, ⟨hone, d3, fun a ha b hb' => hnew a ha b (s2 b hb')⟩, fun a ha b hb' => ?_⟩
    rcases List.mem_append.1 hb' with hb' | hb'
    · exact fun e => hnew b hb' a (s1 a ha) e.symm
    · exact d5 a ha b (List.mem_append_right _ hb')
end
theorem Sl.take_c {α : Type} {enc : α → Value} {w : World} {p : Option Addr} {n c k : Nat} {xs : List α} (h : Sl enc w p n c xs) (hk : k ≤ n) : Sl enc w p k c (xs.take k) := by
  refine ⟨by rw [List.length_take, h.len]; omega, by have := h.le; omega, h.max, fun e => ?_, ?_⟩
  · have := h.nil e; omega
  · intro i hi
    have hi' : i < xs.length := by rw [List.length_take] at hi; omega
    obtain ⟨b, o, hp, hc⟩ := h.rs i hi'
    exact ⟨b, o, hp, by rw [hc]; simp⟩
end Go.By
namespace Go.Proofs.YtfbmdlfkipipfaaGreatDoor
open Go.RowKit Go.By
theorem ne_types : (5 : Nat) ≠ 174 := by decide
abbrev PL (w : World) (base : Nat) (v : Value) (n : Nat) (ts : List Par) : Prop := Pl 174 5 w base v n ts
/-- the act, as a value -/
abbrev actV (d i j b : Int) (av : Value) : Value := .agg #[.int .i64 d, .int .i64 i, .int .i64 j, .int .u32 b, av]
/-- what comes back: a list of parcels -/
def RetP (base : Nat) (w : World) (ps : List (List UInt8 × Int)) (e : Ending) (w' : World) : Prop := ∃ u ss, e = .returned u ∧ PL w' base u ps.length ss ∧ ss.map parIs = ps ∧ Below base w w'
theorem RetP.of {base m : Nat} {w w' : World} {ps : List (List UInt8 × Int)} {u : Value} {ss : List Par} (h : PL w' base u m ss) (hb : Below base w w') (hs : ss.map parIs = ps) : RetP base w ps (.returned u) w' :=
  ⟨u, ss, rfl, by rw [← hs, List.length_map, h.len]; exact h, hs, hb⟩
set_option maxRecDepth 100000 in
set_option maxHeartbeats 1000000 in
theorem drop_any (base n i : Nat) (v : Value) (ts : List Par) (d j b : Int) (av : Value) (w : World) (h : PL w base v n ts) (hi : i < n) (hbase : base ≤ w.heap.size) :
    Calls Tryz.prog 144 #[actV d i j b av, v] w (RetP base w ((ts.map parIs).take i ++ (ts.map parIs).drop (i + 1))) := by
  obtain ⟨q, c, rfl⟩ : ∃ q c, v = .slice q n c := by
    rcases h.own.2 with ⟨h1, h0⟩ | ⟨g, cap, cur, hv, _⟩
    · omega
    · exact ⟨_, _, hv⟩
  obtain ⟨g, cur, rfl, hg, hh, hnc, hcm, hcl, hct⟩ := owns2_open h.own (by omega)
  unfold maxLen at hcm
  have hB := fun o => al (o := o) (Below.refl w.heap.size w) (Nat.le_refl _)
  have hB2 := fun o => al (o := o) (Below.refl base w) hbase
  have H := Lib.hid h
  clear h hh hct hcl
  go_enter Tryz.func144, Tryz.ntmps144
  go_wp2_with fail
  refine Calls.mono (Delete_any base g n c i (ts.map parOf) _ (H.out.keep (hB _)).own hi (H.out.ones)) ?_
  rintro e w' ⟨rfl, ho, hgr⟩
  have e1 : i + (n - (i + 1)) = n - 1 := by omega
  rw [e1]
  have FIN : Hid (PL w' base (.slice (some ⟨g, 0, none⟩) (n - 1) c) (n - 1) (ts.take i ++ ts.drop (i + 1)) ∧ Below base w w') := by
    have hs : (ts.take i ++ ts.drop (i + 1)).Sublist ts := by
      have h2 := List.Sublist.append (List.Sublist.refl (ts.take i)) (List.drop_sublist 1 (ts.drop i))
      rw [List.drop_drop, List.take_append_drop] at h2
      exact h2
    refine ⟨(H.out.keep (hB _)).turn ne_types (fun t ht => hs.subset ht) (H.out.dis.sublist (blks_sub hs)) ?_ ?_ hgr, (hB2 _).grown hgr (by simp; omega) (fun k hk => by cases hk; exact hg)⟩
    · rw [List.length_append, List.length_take, List.length_drop, H.out.len]; omega
    · rw [List.map_append, List.map_take, List.map_drop]; exact ho
  clear ho hgr e1
  go_wp2
  go_ret
  exact RetP.of FIN.out.1 FIN.out.2 (by rw [List.map_append, List.map_take, List.map_drop])
set_option maxRecDepth 100000 in
set_option maxHeartbeats 1000000 in
theorem forge_any (base n m c : Nat) (v : Value) (ts : List Par) (d i j b : Int) (p : Option Addr) (bs : List UInt8) (w : World) (h : PL w base v n ts) (hbase : base ≤ w.heap.size) (hs : Sl B8 w p m c bs) (hr : Room m) (hn : n < 4096) :
    Calls Tryz.prog 149 #[actV d i j b (.slice p m c), v] w (RetP base w (ts.map parIs ++ [(bs, -1)])) := by
  obtain ⟨i0, hi0, hz0, hz1, hz2⟩ := info_parts info_parcel
  obtain ⟨q, c', rfl⟩ : ∃ q c, v = .slice q n c := by
    rcases h.own.2 with ⟨h1, h0⟩ | ⟨g, cap, cur, hv, _⟩
    · subst h0; exact ⟨_, _, h1⟩
    · exact ⟨_, _, hv⟩
  have hB := fun o => al (o := o) (Below.refl w.heap.size w) (Nat.le_refl _)
  have hB2 := fun o => al (o := o) (Below.refl base w) hbase
  have H := Lib.hid h; have HS := Lib.hid hs
  clear h hs
  have h4'' : ¬ (4096 : Int) ≤ (n : Int) := by omega
  go_enter Tryz.func149, Tryz.ntmps149
  go_wp2_with fail
  refine Calls.mono (BClone_any p m c bs _ (HS.out.keep (hB _)) hr) ?_; rintro e w1 ⟨q1, c1, rfl, ho1, hb1⟩
  have HP := Lib.hid (H.out.keep (hB (.cells #[.int .i64 d, .int .i64 i, .int .i64 j, .int .u32 b, .slice p m c] 176)))
  have HB1 := Lib.hid hb1
  have HO1 := Lib.hid ho1
  have k1 : Below base w w1 := (hB2 (.cells #[.int .i64 d, .int .i64 i, .int .i64 j, .int .u32 b, .slice p m c] 176)).trans (hb1.mono (by simp; omega))
  have s1 := hb1.size
  clear ho1 hb1
  have hB3 := fun o => al (o := o) (Below.refl w1.heap.size w1) (Nat.le_refl _)
  go_wp2_with (at_builtin; refine wpList_append_own _ rfl _ _ 171 rfl base 174 i0 _ 2 32 Tryz.underlying171 hi0 hz0 hz1 hz2 rfl (by omega) _ n (pcs (ts.map parOf)) rfl ((HP.out.keep HB1.out).keep (hB3 _)).own ⟨w1.heap.size, 0, none⟩ 1 1 [.slice q1 m c1, .int .i64 (-1)] rfl rfl ?c1 ?c2 ?c3 ?c4 ?c5 ?_)
  case c1 =>
    intro j x hj
    rw [Addr.add_lit, Nat.zero_add, cell_of_row _ _ j _ _ _ (hnew rfl)]
    match j with
    | 0 => simpa using hj
    | 1 => simpa using hj
    | j + 2 => simp at hj
  case c2 => intro x hx; simp at hx; rcases hx with rfl | rfl <;> rfl
  case c3 => unfold maxLen; omega
  case c4 => omega
  case c5 => simp at s1 ⊢; omega
  intro v' w' ho' hg' _
  have FIN : Hid (PL w' base v' (n + 1) (ts ++ [(.slice q1 m c1, -1, bs)]) ∧ Below base w w') := by
    refine ⟨Pl.push (w2 := w1.alloc (.cells #[.slice q1 m c1, .int .i64 (-1)] 174)) HP.out ne_types ⟨_, _, _, rfl, owns_keep HO1.out (hB3 _)⟩ (by simp; omega) (bl HB1.out (hB3 _) HB1.out.size) ho' hg', ?_⟩
    have k2 : Below base w (w1.alloc (.cells #[.slice q1 m c1, .int .i64 (-1)] 174)) := k1.trans ((hB3 _).mono (by simp at s1; omega))
    refine k2.grown hg' (by simp at s1 ⊢; omega) (fun k hk => (HP.out.own.lt k hk).1)
  clear ho' hg'
  go_wp2
  go_ret
  exact RetP.of FIN.out.1 FIN.out.2 (by simp [parIs])
end Go.Proofs.YtfbmdlfkipipfaaGreatDoor
namespace Go.Proofs.YtfbmdlfkipipfaaGreatDoor
open Go.RowKit Go.By
def dropAt {α : Type} (ps : List α) (i : Nat) : List α := ps.take i ++ ps.drop (i + 1)
def putAtP {α : Type} (ps : List α) (k : Nat) (p : α) : List α := ps.take k ++ p :: ps.drop k
theorem dropAt_length {α : Type} {ps : List α} {i : Nat} (h : i < ps.length) : (dropAt ps i).length = ps.length - 1 := by unfold dropAt; rw [List.length_append, List.length_take, List.length_drop]; omega
theorem dropAt_map {α β : Type} (f : α → β) (ps : List α) (i : Nat) : (dropAt ps i).map f = dropAt (ps.map f) i := by simp [dropAt, List.map_take, List.map_drop]
theorem putAtP_map {α β : Type} (f : α → β) (ps : List α) (i : Nat) (p : α) : (putAtP ps i p).map f = putAtP (ps.map f) i (f p) := by simp [putAtP, List.map_take, List.map_drop]
theorem dropAt_sub {α : Type} (ps : List α) (i : Nat) : (dropAt ps i).Sublist ps := by
  have h2 := List.Sublist.append (List.Sublist.refl (ps.take i)) (List.drop_sublist 1 (ps.drop i))
  rw [List.drop_drop, List.take_append_drop] at h2
  exact h2
theorem dropAt_perm {α : Type} {ps : List α} {i : Nat} {p : α} (h : ps[i]? = some p) : (p :: dropAt ps i).Perm ps := by
  obtain ⟨hi, h⟩ := List.getElem?_eq_some_iff.1 h
  have e : ps = ps.take i ++ p :: ps.drop (i + 1) := by
    conv => lhs; rw [← List.take_append_drop i ps, List.drop_eq_getElem_cons hi, h]
  conv => rhs; rw [e]
  exact List.perm_middle.symm
theorem putAtP_perm {α : Type} (ps : List α) (k : Nat) (p : α) : (putAtP ps k p).Perm (p :: ps) := by
  unfold putAtP
  have := List.perm_middle (a := p) (l₁ := ps.take k) (l₂ := ps.drop k)
  rwa [List.take_append_drop] at this
theorem par_cells {w : World} {base n c g i : Nat} {ts : List Par} {t : Par} (h : PL w base (.slice (some ⟨g, 0, none⟩) n c) n ts) (ht : ts[i]? = some t) :
    w.cell? ⟨g, i * 2, none⟩ = some t.1 ∧ w.cell? ⟨g, i * 2 + 1, none⟩ = some (.int .i64 t.2.1) := by
  have hi : i < n := by have := (List.getElem?_eq_some_iff.1 ht).1; rw [h.len] at this; exact this
  have hp := pcs_at (us := ts.map parOf) (i := i) (u := parOf t) (by rw [List.getElem?_map, ht]; rfl)
  exact ⟨by rw [h.own.cellAt _ (by omega)]; exact hp.1, by rw [h.own.cellAt _ (by omega)]; exact hp.2⟩
set_option maxRecDepth 100000 in
set_option maxHeartbeats 2000000 in
theorem move_any (base n i j : Nat) (v : Value) (ts : List Par) (t : Par) (d b : Int) (av : Value) (w : World) (h : PL w base v n ts) (ht : ts[i]? = some t) (hbase : base ≤ w.heap.size) (hj : j ≤ 9223372036854775807) :
    Calls Tryz.prog 146 #[actV d i j b av, v] w (RetP base w (putAtP (dropAt (ts.map parIs) i) (min j (n - 1)) (parIs t))) := by
  have hi : i < n := by have := (List.getElem?_eq_some_iff.1 ht).1; rw [h.len] at this; exact this
  obtain ⟨q, c, rfl⟩ : ∃ q c, v = .slice q n c := by
    rcases h.own.2 with ⟨h1, h0⟩ | ⟨g, cap, cur, hv, _⟩
    · omega
    · exact ⟨_, _, hv⟩
  obtain ⟨g, cur, rfl, hg, hh, hnc, hcm, hcl, hct⟩ := owns2_open h.own (by omega)
  unfold maxLen at hcm
  have hgs : g < w.heap.size := lt_of_cell (par_cells h ht).1
  obtain ⟨q1, m1, c1, ht1, hto⟩ := h.row t (List.mem_of_getElem? ht)
  obtain ⟨t1, k1, xs⟩ := t
  simp only at ht1 hto
  subst ht1
  obtain ⟨d0, d1⟩ := par_cells h ht
  simp only at d0 d1
  have D0 : ∀ o, (w.alloc o).cell? ⟨g, i * 2, none⟩ = some (.slice q1 m1 c1) := fun o => calloc d0
  have D1 : ∀ o, (w.alloc o).cell? ⟨g, i * 2 + 1, none⟩ = some (.int .i64 k1) := fun o => calloc d1
  have i1 : (i : Int) < (n : Int) := by omega
  have hB := fun o1 o2 => al (o := o2) (al (o := o1) (Below.refl w.heap.size w) (Nat.le_refl _)) (by simp)
  have hB2 := fun o1 o2 => al (o := o2) (al (o := o1) (Below.refl base w) hbase) (by simp; omega)
  have H := Lib.hid h; have HT := Lib.hid ht
  have HB := Lib.hid hB; have HB2 := Lib.hid hB2
  clear h hh hct hcl d0 d1 ht hto hB hB2
  go_enter Tryz.func146, Tryz.ntmps146
  go_wp2_with fail
  refine Calls.mono (Delete_any base g n c i (ts.map parOf) _ (H.out.keep (HB.out _ _)).own hi (H.out.ones)) ?_
  rintro e w' ⟨rfl, ho, hgr⟩
  have e1 : i + (n - (i + 1)) = n - 1 := by omega
  rw [e1]
  have x1 : w'.heap[w.heap.size]? = some (.cells #[.int .i64 d, .int .i64 i, .int .i64 j, .int .u32 b, av] 176 (0, 0)) := by
    rw [hgr.block _ (by simp; omega) (by simp; omega)]; exact hal (hnew rfl)
  have x2 : w'.heap[w.heap.size + 1]? = some (.cells #[.slice q1 m1 c1, .int .i64 k1] 174 (0, 0)) := by
    rw [hgr.block _ (by simp) (by simp; omega)]; exact hnew (by simp)
  have y2 : w'.cell? ⟨w.heap.size, 2, none⟩ = some (.int .i64 j) := cell_of_row _ _ 2 _ _ _ x1
  have z0 : w'.cell? ⟨w.heap.size + 1, 0, none⟩ = some (.slice q1 m1 c1) := cell_of_row _ _ 0 _ _ _ x2
  have z1 : w'.cell? ⟨w.heap.size + 1, 1, none⟩ = some (.int .i64 k1) := cell_of_row _ _ 1 _ _ _ x2
  have s1 := hgr.size
  have P1 : Hid (PL w' base (.slice (some ⟨g, 0, none⟩) (n - 1) c) (n - 1) (dropAt ts i) ∧ (∀ t, t ∈ ts → Bt 5 w' base t.1 t.2.2) ∧ Below base w w') := by
    refine ⟨(H.out.keep (HB.out _ _)).turn ne_types (fun t ht => (dropAt_sub ts i).subset ht) (H.out.dis.sublist (blks_sub (dropAt_sub ts i))) ?_ ?_ hgr, fun t ht => ?_, (HB2.out _ _).grown hgr (by simp; omega) (fun k hk => by cases hk; exact hg)⟩
    · rw [dropAt_length (by rw [H.out.len]; exact hi), H.out.len]
    · unfold dropAt; rw [List.map_append, List.map_take, List.map_drop]; exact ho
    · exact ((H.out.keep (HB.out _ _)).row t ht).grown ne_types (H.out.keep (HB.out _ _)).own hgr
  have hgs' : g < w'.heap.size := by simp at s1; omega
  have hws : w.heap.size ≤ w'.heap.size := by simp at s1; omega
  clear ho hgr e1 x1 x2 D0 D1 s1
  obtain ⟨n1, hn1⟩ : ∃ n1, n1 = n - 1 := ⟨_, rfl⟩
  have F : ∀ (o : Obj) (k : Nat) (w2 : World), o = .cells #[.slice q1 m1 c1, .int .i64 k1] 174 → k = min j n1 → ∀ (u : Value), u = .slice (some ⟨g, 0, none⟩) (n1 + 1) c →
      w2.ownsRow base 174 2 u (n1 + 1) (pcs (putAtP ((dropAt ts i).map parOf) k (.slice q1 m1 c1, k1))) → (w'.alloc o).grownBy w2 (some g) → PL w2 base u n (putAtP (dropAt ts i) k (.slice q1 m1 c1, k1, xs)) ∧ Below base w w2 := by
    intro o k w2 ho hk u hu how hgr
    have hb : Below w'.heap.size w' (w'.alloc o) := al (Below.refl _ _) (Nat.le_refl _)
    have hpm : (putAtP (dropAt ts i) k (.slice q1 m1 c1, k1, xs)).Perm ts := (putAtP_perm _ _ _).trans (dropAt_perm HT.out)
    refine ⟨⟨?_, ?_, fun t ht => ?_, ?_⟩, ?_⟩
    · rw [hpm.length_eq, H.out.len]
    · rw [show n = n1 + 1 by omega, putAtP_map]; exact how
    · exact ((P1.out.2.1 t (hpm.subset ht)).keep hb).grown ne_types ((P1.out.1.keep hb).own) hgr
    · exact (hpm.filterMap _).nodup_iff.2 H.out.dis
    · exact (P1.out.2.2.trans (hb.mono (by omega))).grown hgr (by simp; omega) (fun k hk => by cases hk; exact hg)
  have HF := Lib.hid F
  have hvb : w'.heap.size ≠ g := by omega
  have HO : Hid (∀ o, (w'.alloc o).ownsRow base 174 2 (.slice (some ⟨g, 0, none⟩) n1 c) n1 (pcs ((dropAt ts i).map parOf))) := fun o => by
    rw [hn1]; exact (P1.out.1.keep (al (Below.refl _ _) (Nat.le_refl _))).own
  have HM : Hid (∀ x, x ∈ (dropAt ts i).map parOf → x.1.oneCell' = true) := P1.out.1.ones
  rw [← hn1]
  have hn1c : n1 + 1 ≤ c := by omega
  have HN := Lib.hid hn1
  clear hn1 F
  by_cases hjn : j < n1
  · have j1 : (j : Int) < (n1 : Int) := by omega
    have hmn := Lib.hid (show min j n1 = j by omega)
    go_wp2_with fail
    rw [show min (j : Int) (n1 : Int) = (j : Int) by omega]
    refine Calls.mono (InsertMid_any base g n1 c j w'.heap.size ((dropAt ts i).map parOf) (.slice q1 m1 c1, k1) _ (HO.out _) hjn hn1c HM.out rfl (hnew rfl) hvb) ?_
    rintro e w2 ⟨rfl, how, hgr2⟩
    have FIN := Lib.hid (HF.out _ j w2 rfl hmn.out.symm _ rfl how hgr2)
    clear how hgr2
    go_wp2
    go_ret
    refine RetP.of FIN.out.1 FIN.out.2 ?_
    rw [putAtP_map, dropAt_map, ← HN.out, hmn.out]
  · have j1 : (n1 : Int) ≤ (j : Int) := by omega
    have hmn := Lib.hid (show min j n1 = n1 by omega)
    go_wp2_with fail
    rw [show min (j : Int) (n1 : Int) = (n1 : Int) by omega]
    refine Calls.mono (InsertEnd_any base g n1 c w'.heap.size ((dropAt ts i).map parOf) (.slice q1 m1 c1, k1) _ (HO.out _) hn1c rfl (hnew rfl)) ?_
    rintro e w2 ⟨rfl, how, hgr2⟩
    have FIN : Hid _ := Lib.hid (HF.out _ n1 w2 rfl hmn.out.symm _ rfl (by
      have hl : ((dropAt ts i).map parOf).length = n1 := by rw [List.length_map, dropAt_length (by rw [H.out.len]; exact hi), H.out.len, HN.out]
      unfold putAtP
      rw [List.take_of_length_le (by omega), List.drop_eq_nil_of_le (by omega)]
      exact how) hgr2)
    clear how hgr2
    go_wp2
    go_ret
    refine RetP.of FIN.out.1 FIN.out.2 ?_
    rw [putAtP_map, dropAt_map, ← HN.out, hmn.out]
end Go.Proofs.YtfbmdlfkipipfaaGreatDoor
namespace Go.Proofs.YtfbmdlfkipipfaaGreatDoor
open Go.RowKit Go.By
set_option maxRecDepth 100000 in
set_option maxHeartbeats 4000000 in
theorem double_any (base n i : Nat) (j : Int) (v : Value) (ts : List Par) (t : Par) (d b : Int) (av : Value) (w : World) (h : PL w base v n ts) (ht : ts[i]? = some t) (hbase : base ≤ w.heap.size) (hr : Room t.2.2.length) (hn : n < 4096) :
    Calls Tryz.prog 145 #[actV d i j b av, v] w (RetP base w (ts.map parIs ++ [parIs t])) := by
  obtain ⟨i0, hi0, hz0, hz1, hz2⟩ := info_parts info_parcel
  have hi : i < n := by have := (List.getElem?_eq_some_iff.1 ht).1; rw [h.len] at this; exact this
  obtain ⟨q, c, rfl⟩ : ∃ q c, v = .slice q n c := by
    rcases h.own.2 with ⟨h1, h0⟩ | ⟨g, cap, cur, hv, _⟩
    · omega
    · exact ⟨_, _, hv⟩
  obtain ⟨g, cur, rfl, hg, hh, hnc, hcm, hcl, hct⟩ := owns2_open h.own (by omega)
  unfold maxLen at hcm
  have hgs : g < w.heap.size := lt_of_cell (par_cells h ht).1
  obtain ⟨q1, m1, c1, ht1, hto⟩ := h.row t (List.mem_of_getElem? ht)
  obtain ⟨t1, k1, xs⟩ := t
  simp only at ht1 hto hr
  subst ht1
  obtain ⟨d0, d1⟩ := par_cells h ht
  simp only at d0 d1
  have hB := fun o1 => al (o := o1) (Below.refl w.heap.size w) (Nat.le_refl _)
  obtain ⟨W, hW⟩ : ∃ W, W = w.alloc (.cells #[.int .i64 d, .int .i64 i, .int .i64 j, .int .u32 b, av] 176) := ⟨_, rfl⟩
  have hBW : Below w.heap.size w W := by rw [hW]; exact hB _
  have x1 : W.heap[w.heap.size]? = some (.cells #[.int .i64 d, .int .i64 i, .int .i64 j, .int .u32 b, av] 176 (0, 0)) := by rw [hW]; exact hnew rfl
  have hWs : W.heap.size = w.heap.size + 1 := by rw [hW]; simp
  have R0 : ∀ W', Below W.heap.size W W' → W'.cell? ⟨g, i * 2, none⟩ = some (.slice q1 m1 c1) := fun W' hb => ((hBW.trans (hb.mono (by omega))).cell (p := ⟨g, i * 2, none⟩) hgs).trans d0
  have R1 : ∀ W', Below W.heap.size W W' → W'.cell? ⟨g, i * 2 + 1, none⟩ = some (.int .i64 k1) := fun W' hb => ((hBW.trans (hb.mono (by omega))).cell (p := ⟨g, i * 2 + 1, none⟩) hgs).trans d1
  have R2 : ∀ W', Below W.heap.size W W' → W'.cell? ⟨w.heap.size, 1, none⟩ = some (.int .i64 i) := fun W' hb => cell_of_row _ _ 1 _ _ _ ((hb.block _ (by omega)).trans x1)
  have i1 : (i : Int) < (n : Int) := by omega
  have h4 : ¬ (4096 : Int) ≤ (n : Int) := by omega
  obtain ⟨m0, hm0⟩ : ∃ m0, m0 = xs.length := ⟨_, rfl⟩
  have hml : m1 = m0 := by have := hto.1; simp at this; omega
  rw [← hm0] at hr
  have HM0 := Lib.hid hm0
  clear hm0
  subst hml
  have C1 : Hid (∀ W', Below W.heap.size W W' → Calls Tryz.prog 150 #[.slice q1 m1 c1] W' fun e w' => ∃ q c', e = .returned (.slice q m1 c') ∧ w'.ownsRow W'.heap.size 5 1 (.slice q m1 c') m1 (xs.map B8) ∧ Below W'.heap.size W' w') := fun W' hb =>
    BClone_any q1 m1 c1 xs W' ((Sl.of_owns hto).keep (hBW.trans (hb.mono (by omega)))) hr
  have s0 := R0 W (Below.refl _ _); have s1 := R1 W (Below.refl _ _); have s2 := R2 W (Below.refl _ _)
  have hd : Below W.heap.size W W.drew := (Below.refl _ _).drew
  have H := Lib.hid h; have HT := Lib.hid ht; have HBW := Lib.hid hBW
  clear h hh hct hcl d0 d1 ht hto hB hBW x1
  go_enter Tryz.func145, Tryz.ntmps145
  go_wp2_with fail
  rw [← hW]
  clear hW
  have hNews : Hid (∀ (w1 : World) (q2 : Option Addr) (c2 : Nat), ∀ (jj : Nat) (u : Value), [Value.slice q2 m1 c2, Value.int .i64 k1][jj]? = some u → (w1.alloc (.cells #[.slice q2 m1 c2, .int .i64 k1] 174)).cell? ((⟨w1.heap.size, 0, none⟩ : Addr).add jj) = some u) := fun w1 q2 c2 jj u hj => by
    rw [Addr.add_lit, Nat.zero_add, cell_of_row _ _ jj _ _ _ (hnew rfl)]
    match jj with
    | 0 => simpa using hj
    | 1 => simpa using hj
    | jj + 2 => simp at hj
  have hOnes : Hid (∀ (q2 : Option Addr) (c2 : Nat), ∀ u ∈ [Value.slice q2 m1 c2, Value.int .i64 k1], u.oneCell' = true) := fun q2 c2 x hx => by simp at hx; rcases hx with rfl | rfl <;> rfl
  have hOwn : Hid (∀ (w1 : World) (o : Obj), Below W.heap.size W w1 → (w1.alloc o).ownsRow base 174 2 (.slice (some ⟨g, 0, none⟩) n c) n (pcs (ts.map parOf))) := fun w1 o hb =>
    ((H.out.keep (HBW.out.trans (hb.mono (by omega)))).keep (al (Below.refl _ _) (Nat.le_refl _))).own
  have hMx : n + 1 ≤ maxLen := by unfold maxLen; omega
  have hBy : (n + 1) * 32 ≤ 140737488355328 := by omega
  have hBs : Hid (∀ (w1 : World) (o : Obj), Below W.heap.size W w1 → base ≤ (w1.alloc o).heap.size) := fun w1 o hb => by have := hb.size; simp; omega
  have hFin : Hid (∀ (w1 w2 : World) (q2 : Option Addr) (c2 g3 cap3 : Nat), Below W.heap.size W w1 → w1.ownsRow W.heap.size 5 1 (.slice q2 m1 c2) m1 (xs.map B8) →
      w2.ownsRow base 174 2 (.slice (some ⟨g3, 0, none⟩) (n + 1) cap3) (n + 1) (pcs (ts.map parOf) ++ [.slice q2 m1 c2, .int .i64 k1]) → (w1.alloc (.cells #[.slice q2 m1 c2, .int .i64 k1] 174)).grownBy w2 (Value.slice (some ⟨g, 0, none⟩) n c).ownBlock →
      PL w2 base (.slice (some ⟨g3, 0, none⟩) (n + 1) cap3) (n + 1) (ts ++ [(.slice q2 m1 c2, k1, xs)]) ∧ Below base w w2) := fun w1 w2 q2 c2 g3 cap3 hb ho1 ho2 hgr => by
    have hal : Below w1.heap.size w1 (w1.alloc (.cells #[.slice q2 m1 c2, .int .i64 k1] 174)) := al (Below.refl _ _) (Nat.le_refl _)
    have hs := hb.size
    refine ⟨Pl.push (w1 := W) (H.out.keep HBW.out) ne_types ⟨_, _, _, rfl, owns_keep ho1 hal⟩ (by omega) (hb.trans (hal.mono hs)) ho2 hgr, ?_⟩
    exact (((HBW.out.trans (hb.mono (by omega))).mono hbase).trans (hal.mono (by omega))).grown hgr (by simp; omega) (fun k hk => by cases hk; exact hg)
  go_region_law (first
    | (go_simp; go_at_call 150; (with_reducible refine Calls.mono (C1.out _ (by assumption)) ?_); rintro e w1 ⟨q2, c2, rfl, ho2, hb2⟩; have hw1 := stp (by assumption) hb2 rfl (Nat.le_refl _); have f0 := R0 w1 hw1; have f1 := R1 w1 hw1; have f2 := R2 w1 hw1)
    | (refine step_append_lies _ rfl (.tmp 9) (.tmp 24) 171 rfl base 174 i0 _ 2 32 Tryz.underlying171 hi0 hz0 hz1 hz2 rfl (by omega) (.slice (some ⟨g, 0, none⟩) n c) n (pcs (ts.map parOf)) (by simp [Act.eval, Act.put]) (hOwn.out _ _ (by assumption)) _ 1 1 _ (by simp [Act.eval, Act.put]) rfl (hNews.out _ _ _) (hOnes.out _ _) (by omega) hMx hBy (hBs.out _ _ (by assumption)) _ rfl ?_; intro g3 cap3 w3 ho3 hgr3 hat3 hlt3))
  all_goals go_wp2
  all_goals go_ret
  all_goals (have hF := hFin.out _ _ _ _ _ _ hw1 ho2 ho3 hgr3; exact RetP.of hF.1 hF.2 (by simp [parIs]))
end Go.Proofs.YtfbmdlfkipipfaaGreatDoor
namespace Go.Proofs.YtfbmdlfkipipfaaGreatDoor
open Go.RowKit Go.By
/-- what a cut does to a parcel -/
def cutP (p : List UInt8 × Int) (j : Nat) : List UInt8 × Int := if j < p.1.length then (p.1.take j, -1) else p
set_option maxRecDepth 100000 in
set_option maxHeartbeats 4000000 in
theorem cut_any (base n i j : Nat) (v : Value) (ts : List Par) (t : Par) (d b : Int) (av : Value) (w : World) (h : PL w base v n ts) (ht : ts[i]? = some t) (hbase : base ≤ w.heap.size) (hr : Room t.2.2.length) (hj : j ≤ 9223372036854775807) :
    Calls Tryz.prog 147 #[actV d i j b av, v] w (RetP base w ((ts.map parIs).set i (cutP (parIs t) j))) := by
  have hi : i < n := by have := (List.getElem?_eq_some_iff.1 ht).1; rw [h.len] at this; exact this
  obtain ⟨q, c, rfl⟩ : ∃ q c, v = .slice q n c := by
    rcases h.own.2 with ⟨h1, h0⟩ | ⟨g, cap, cur, hv, _⟩
    · omega
    · exact ⟨_, _, hv⟩
  obtain ⟨g, cur, rfl, hg, hh, hnc, hcm, hcl, hct⟩ := owns2_open h.own (by omega)
  unfold maxLen at hcm
  have hgs : g < w.heap.size := lt_of_cell (par_cells h ht).1
  obtain ⟨q1, m1, c1, ht1, hto⟩ := h.row t (List.mem_of_getElem? ht)
  obtain ⟨t1, k1, xs⟩ := t
  simp only at ht1 hto hr
  subst ht1
  obtain ⟨d0, d1⟩ := par_cells h ht
  simp only at d0 d1
  have hB := fun o1 => al (o := o1) (Below.refl w.heap.size w) (Nat.le_refl _)
  obtain ⟨W, hW⟩ : ∃ W, W = w.alloc (.cells #[.int .i64 d, .int .i64 i, .int .i64 j, .int .u32 b, av] 176) := ⟨_, rfl⟩
  have hBW : Below w.heap.size w W := by rw [hW]; exact hB _
  have x1 : W.heap[w.heap.size]? = some (.cells #[.int .i64 d, .int .i64 i, .int .i64 j, .int .u32 b, av] 176 (0, 0)) := by rw [hW]; exact hnew rfl
  have hWs : W.heap.size = w.heap.size + 1 := by rw [hW]; simp
  have R0 : ∀ W', Below W.heap.size W W' → W'.cell? ⟨g, i * 2, none⟩ = some (.slice q1 m1 c1) := fun W' hb => ((hBW.trans (hb.mono (by omega))).cell (p := ⟨g, i * 2, none⟩) hgs).trans d0
  have R1 : ∀ W', Below W.heap.size W W' → W'.cell? ⟨g, i * 2 + 1, none⟩ = some (.int .i64 k1) := fun W' hb => ((hBW.trans (hb.mono (by omega))).cell (p := ⟨g, i * 2 + 1, none⟩) hgs).trans d1
  have R2 : ∀ W', Below W.heap.size W W' → W'.cell? ⟨w.heap.size, 1, none⟩ = some (.int .i64 i) := fun W' hb => cell_of_row _ _ 1 _ _ _ ((hb.block _ (by omega)).trans x1)
  have R3 : ∀ W', Below W.heap.size W W' → W'.cell? ⟨w.heap.size, 2, none⟩ = some (.int .i64 j) := fun W' hb => cell_of_row _ _ 2 _ _ _ ((hb.block _ (by omega)).trans x1)
  have Z0 : ∀ W', Below W.heap.size W W' → W'.frozen? ⟨g, i * 2, none⟩ = false := fun W' hb => frozen_arr (cur := cur) (((hBW.trans (hb.mono (by omega))).block g hgs).trans hh) _
  have Z1 : ∀ W', Below W.heap.size W W' → W'.frozen? ⟨g, i * 2 + 1, none⟩ = false := fun W' hb => frozen_arr (cur := cur) (((hBW.trans (hb.mono (by omega))).block g hgs).trans hh) _
  have i1 : (i : Int) < (n : Int) := by omega
  have s0 := R0 W (Below.refl _ _); have s1 := R1 W (Below.refl _ _); have s2 := R2 W (Below.refl _ _); have s3 := R3 W (Below.refl _ _)
  obtain ⟨m0, hm0⟩ : ∃ m0, m0 = xs.length := ⟨_, rfl⟩
  have hml : m1 = m0 := by have := hto.1; simp at this; omega
  rw [← hm0] at hr
  have HM0 := Lib.hid hm0
  clear hm0
  subst hml
  have H := Lib.hid h; have HT := Lib.hid ht; have HBW := Lib.hid hBW
  have HS := Lib.hid (Sl.of_owns hto)
  have bm := HS.out.le; have bc := HS.out.max; unfold maxLen at bc
  clear h hh hct hcl d0 d1 ht hB hBW x1
  by_cases hjm : j < m1
  · have j1 : (j : Int) < (m1 : Int) := by omega
    have HC : Hid (cutP (parIs (.slice q1 m1 c1, k1, xs)) j = (xs.take j, -1)) := by unfold cutP parIs; rw [Hid, if_pos (by rw [← HM0.out]; exact hjm)]
    rw [HC.out]
    obtain ⟨ad, rfl⟩ : ∃ ad, q1 = some ad := by
      cases q1 with
      | none => have := HS.out.nil rfl; omega
      | some ad => exact ⟨ad, rfl⟩
    have C1 : Hid (∀ W', Below W.heap.size W W' → Calls Tryz.prog 150 #[.slice (some ad) j c1] W' fun e w' => ∃ q c', e = .returned (.slice q j c') ∧ w'.ownsRow W'.heap.size 5 1 (.slice q j c') j ((xs.take j).map B8) ∧ Below W'.heap.size W' w') := fun W' hb =>
      BClone_any (some ad) j c1 (xs.take j) W' ((Sl.take_c HS.out (by omega)).keep (HBW.out.trans (hb.mono (by omega)))) (hr.le (by omega))
    have j2 : j ≤ c1 := by omega
    clear hto
    go_enter Tryz.func147, Tryz.ntmps147
    go_wp2_with fail
    rw [← hW]
    clear hW
    go_quiet (fail)
    go_wp2_with fail
    have hd : Below W.heap.size W (W.drewN (nq + 1)) := bdn (Below.refl _ _)
    have hFin : Hid (∀ (w1 : World) (q2 : Option Addr) (c2 : Nat), Below W.heap.size W w1 → w1.ownsRow W.heap.size 5 1 (.slice q2 j c2) j ((xs.take j).map B8) →
        PL ((w1.setCell ⟨g, i * 2, none⟩ (.slice q2 j c2)).setCell ⟨g, i * 2 + 1, none⟩ (.int .i64 (-1))) base (.slice (some ⟨g, 0, none⟩) n c) n (ts.set i (.slice q2 j c2, -1, xs.take j)) ∧ Below base w ((w1.setCell ⟨g, i * 2, none⟩ (.slice q2 j c2)).setCell ⟨g, i * 2 + 1, none⟩ (.int .i64 (-1)))) := fun w1 q2 c2 hb ho => by
      have how := ((H.out.keep (HBW.out.trans (hb.mono (by omega)))).own.stored (i * 2) (.slice q2 j c2)).1
      have how2 := (how.stored (i * 2 + 1) (.int .i64 (-1))).1
      have hs := hb.size
      refine ⟨Pl.swap (w1 := W) (w2 := w1) (H.out.keep HBW.out) hi ne_types ⟨_, _, _, rfl, ho⟩ (by omega) hb ?_ (grown_trans (grownBy_setCell _ g _ _) (grownBy_setCell _ g _ _)), ?_⟩
      · rw [pcs_set _ _ _ (by rw [List.length_map, H.out.len]; exact hi)]; exact how2
      · exact (((HBW.out.mono hbase).trans (hb.mono (by omega))).setCell hg _).setCell hg _
    go_region_law (first
      | (go_simp; go_at_call 150; (with_reducible refine Calls.mono (C1.out _ (by assumption)) ?_); rintro e w1 ⟨q2, c2, rfl, ho2, hb2⟩; have hw1 := stp (by assumption) hb2 rfl (Nat.le_refl _); have f0 := R0 w1 hw1; have f1 := R1 w1 hw1; have f2 := R2 w1 hw1; have f3 := R3 w1 hw1; have z0 := Z0 w1 hw1; have z1 := Z1 w1 hw1))
    all_goals go_wp2
    all_goals go_ret
    all_goals (have hF := hFin.out _ _ _ hw1 ho2; exact RetP.of hF.1 hF.2 (by simp [List.map_set, parIs]))
  · have j1 : (m1 : Int) ≤ (j : Int) := by omega
    have HC : Hid (cutP (parIs (.slice q1 m1 c1, k1, xs)) j = (xs, k1)) := by unfold cutP parIs; rw [Hid, if_neg (by rw [← HM0.out]; exact hjm)]
    rw [HC.out]
    clear hto
    go_enter Tryz.func147, Tryz.ntmps147
    go_wp2_with fail
    rw [← hW]
    clear hW
    go_quiet (fail)
    go_wp2
    go_ret
    refine RetP.of (H.out.keep (bdn HBW.out)) (bdn (HBW.out.mono hbase)) ?_
    apply List.ext_getElem?
    intro jj
    rw [List.getElem?_set, List.getElem?_map]
    split
    · rename_i e; subst e; rw [HT.out]; simp [parIs, hi, H.out.len]
    · rfl
end Go.Proofs.YtfbmdlfkipipfaaGreatDoor
namespace Go.Proofs.YtfbmdlfkipipfaaGreatDoor
open Go.RowKit Go.By
theorem set_get {α : Type} {ts : List α} {i : Nat} {t : α} (h : ts[i]? = some t) : ts.set i t = ts := by
  apply List.ext_getElem?
  intro j
  rw [List.getElem?_set]
  split
  · rename_i e; subst e
    have := (List.getElem?_eq_some_iff.1 h).1
    rw [if_pos this, h]
  · rfl
theorem par_lt {w : World} {base n i : Nat} {v : Value} {ts : List Par} {t : Par} (h : PL w base v n ts) (ht : ts[i]? = some t) : i < n := by
  have := (List.getElem?_eq_some_iff.1 ht).1; rw [h.len] at this; exact this
/-- where it came from is written -/
theorem Pl.from_set {w : World} {base n c g i : Nat} {ts : List Par} {t : Par} (h : PL w base (.slice (some ⟨g, 0, none⟩) n c) n ts) (ht : ts[i]? = some t) (k : Int) :
    PL (w.setCell ⟨g, i * 2 + 1, none⟩ (.int .i64 k)) base (.slice (some ⟨g, 0, none⟩) n c) n (ts.set i (t.1, k, t.2.2)) := by
  have hi := par_lt h ht
  have hil : i < ts.length := by rw [h.len]; exact hi
  have hg := grownBy_setCell w g (i * 2 + 1) (.int .i64 k)
  refine ⟨by rw [List.length_set, h.len], ?_, fun s hs => ?_, ?_⟩
  · have := (h.own.stored (i * 2 + 1) (.int .i64 k)).1
    rw [List.map_set, pcs_set _ _ _ (by rw [List.length_map]; exact hil)]
    have hp := pcs_at (us := ts.map parOf) (i := i) (u := parOf t) (by rw [List.getElem?_map, ht]; rfl)
    have e : (pcs (ts.map parOf)).set (i * 2) t.1 = pcs (ts.map parOf) := set_get hp.1
    show World.ownsRow _ _ _ _ _ _ (((pcs (ts.map parOf)).set (i * 2) t.1).set (i * 2 + 1) _)
    rw [e]; exact this
  · rcases List.mem_or_eq_of_mem_set hs with hs | rfl
    · exact (h.row s hs).grown ne_types h.own hg
    · exact (h.row t (List.mem_of_getElem? ht)).grown ne_types h.own hg
  · have e : blks (ts.set i (t.1, k, t.2.2)) = blks ts := by
      have h1 : (ts.set i (t.1, k, t.2.2)).map (·.1) = ts.map (·.1) := by
        rw [List.map_set]; exact set_get (by rw [List.getElem?_map, ht]; rfl)
      have h2 : ∀ ss : List Par, blks ss = (ss.map (·.1)).filterMap (·.ownBlock) := fun ss => by simp [blks, List.filterMap_map]; rfl
      rw [h2, h2, h1]
    rw [e]; exact h.dis
/-- a byte of it is written -/
theorem Pl.byte_set {w : World} {base n i gb m c k : Nat} {v : Value} {ts : List Par} {f : Int} {xs : List UInt8} (h : PL w base v n ts) (ht : ts[i]? = some (.slice (some ⟨gb, 0, none⟩) m c, f, xs)) (y : UInt8) :
    PL (w.setCell ⟨gb, k, none⟩ (B8 y)) base v n (ts.set i (.slice (some ⟨gb, 0, none⟩) m c, f, xs.set k y)) := by
  have hi := par_lt h ht
  have hil : i < ts.length := by rw [h.len]; exact hi
  have hg := grownBy_setCell w gb k (B8 y)
  obtain ⟨q', m', c', e1, hrow⟩ := h.row _ (List.mem_of_getElem? ht)
  simp only at e1 hrow
  obtain ⟨rfl, rfl, rfl⟩ : some ⟨gb, 0, none⟩ = q' ∧ m = m' ∧ c = c' := by simpa using e1
  have hne : ∀ kk, v.ownBlock = some kk → some kk ≠ some gb := fun kk hk => owns_ne h.own hrow (fun e => ne_types e.symm) kk hk
  refine ⟨by rw [List.length_set, h.len], ?_, fun s hs => ?_, ?_⟩
  · rw [List.map_set]
    have e : (ts.map parOf).set i (parOf (.slice (some ⟨gb, 0, none⟩) m c, f, xs.set k y)) = ts.map parOf := set_get (by rw [List.getElem?_map, ht]; rfl)
    rw [e]; exact owns_kept h.own hg hne
  · obtain ⟨j, hj, e⟩ := List.getElem_of_mem hs
    rw [List.getElem_set] at e
    split at e
    · subst e
      have := (hrow.stored k (B8 y)).1
      rw [← List.map_set] at this
      exact ⟨_, _, _, rfl, this⟩
    · rename_i hij
      have hjl : j < ts.length := by rw [List.length_set] at hj; exact hj
      have hs' : s ∈ ts := by rw [← e]; exact List.getElem_mem hjl
      obtain ⟨q2, m2, c2, e2, hrow2⟩ := h.row s hs'
      refine ⟨q2, m2, c2, e2, owns_kept hrow2 hg (fun kk hk e3 => ?_)⟩
      have hd := h.dis
      unfold blks at hd
      rw [List.Nodup, List.pairwise_filterMap, List.pairwise_iff_getElem] at hd
      have ei : ts[i] = (.slice (some ⟨gb, 0, none⟩) m c, f, xs) := Option.some.inj ((List.getElem?_eq_getElem hil).symm.trans ht)
      have b1 : (ts[i]).1.ownBlock = some gb := by rw [ei]; rfl
      have b2 : (ts[j]).1.ownBlock = some gb := by rw [e, e2, hk]; exact e3
      rcases Nat.lt_or_ge i j with hlt | hge
      · exact hd i j hil hjl hlt gb b1 gb b2 rfl
      · exact hd j i hjl hil (by omega) gb b2 gb b1 rfl
  · have e : blks (ts.set i (.slice (some ⟨gb, 0, none⟩) m c, f, xs.set k y)) = blks ts := by
      have h1 : (ts.set i (.slice (some ⟨gb, 0, none⟩) m c, f, xs.set k y)).map (·.1) = ts.map (·.1) := by
        rw [List.map_set]; exact set_get (by rw [List.getElem?_map, ht]; rfl)
      have h2 : ∀ ss : List Par, blks ss = (ss.map (·.1)).filterMap (·.ownBlock) := fun ss => by simp [blks, List.filterMap_map]; rfl
      rw [h2, h2, h1]
    rw [e]; exact h.dis
/-- the byte k of a parcel, with bit o turned -/
def flip (xs : List UInt8) (at' : Nat) : List UInt8 := xs.set (at' / 8) ((xs.getD (at' / 8) 0) ^^^ UInt8.ofNat (2 ^ (at' % 8)))
/-- behind so many bits: the bytes, and whether any was turned -/
def maskF (b j : Nat) (xs : List UInt8) : Nat → List UInt8 × Bool
  | 0 => (xs, false)
  | k + 1 => if b.testBit k = true ∧ (j + k) / 8 < xs.length then (flip (maskF b j xs k).1 (j + k), true) else maskF b j xs k
theorem maskF_len (b j : Nat) (xs : List UInt8) : ∀ k, (maskF b j xs k).1.length = xs.length
  | 0 => rfl
  | k + 1 => by
    unfold maskF
    split
    · simp [flip, maskF_len b j xs k]
    · exact maskF_len b j xs k
end Go.Proofs.YtfbmdlfkipipfaaGreatDoor
namespace Go.Proofs.YtfbmdlfkipipfaaGreatDoor
open Go.RowKit Go.By
/-- what a mask does to a parcel -/
def maskP (p : List UInt8 × Int) (b j : Nat) : List UInt8 × Int := ((maskF b j p.1 32).1, if (maskF b j p.1 32).2 then -1 else p.2)
theorem maskF_far (b j : Nat) (xs : List UInt8) (h : xs.length ≤ j / 8) : ∀ k, maskF b j xs k = (xs, false)
  | 0 => rfl
  | k + 1 => by
    unfold maskF
    rw [if_neg (by rintro ⟨_, h2⟩; have : j / 8 ≤ (j + k) / 8 := Nat.div_le_div_right (by omega); omega)]
    exact maskF_far b j xs h k
theorem wraps_u32' (n : Int) (h₀ : 0 ≤ n) (h₁ : n < 2 ^ 32) : IntKind.u32.wrap n = n := by rw [IntKind.wrap_u32]; omega
theorem flip_val (x : UInt8) (e : Nat) (he : e < 8) : Value.int .u8 (bits .xor .u8 (x.toNat : Int) ((2 : Int) ^ e % 256)) = B8 (x ^^^ UInt8.ofNat (2 ^ e)) := by
  have h2 : ∀ e, e < 8 → ((UInt8.ofNat (2 ^ e)).toNat : Int) = (2 : Int) ^ e % 256 := by decide
  rw [← h2 e he, bits_xor]
theorem and_one (b k : Nat) (hb : b < 4294967296) : bits .and .u32 ((b : Int) / 2 ^ k) 1 = if b.testBit k = true then 1 else 0 := by
  have e : (b : Int) / 2 ^ k = ((b / 2 ^ k : Nat) : Int) := by simp
  have hlt : b / 2 ^ k < 2 ^ 32 := Nat.lt_of_le_of_lt (Nat.div_le_self _ _) hb
  have h := (bits_nat .u32 32 (by decide) wraps_u32' (b / 2 ^ k) 1 hlt (by decide)).1
  rw [e]
  refine h.trans ?_
  rw [Nat.and_one_is_mod, Nat.testBit_eq_decide_div_mod_eq]
  rcases Nat.mod_two_eq_zero_or_one (b / 2 ^ k) with h | h <;> simp [h]
set_option maxRecDepth 100000 in
set_option maxHeartbeats 4000000 in
theorem mask_any (base n i j b : Nat) (v : Value) (ts : List Par) (t : Par) (d : Int) (av : Value) (w : World) (h : PL w base v n ts) (ht : ts[i]? = some t) (hbase : base ≤ w.heap.size) (hr : Room t.2.2.length) (hj : j ≤ 9223372036854775807) (hb32 : b < 4294967296) :
    Calls Tryz.prog 148 #[actV d i j b av, v] w (RetP base w ((ts.map parIs).set i (maskP (parIs t) b j))) := by
  have hi := par_lt h ht
  obtain ⟨q, c, rfl⟩ : ∃ q c, v = .slice q n c := by
    rcases h.own.2 with ⟨h1, h0⟩ | ⟨g, cap, cur, hv, _⟩
    · omega
    · exact ⟨_, _, hv⟩
  obtain ⟨g, cur, rfl, hg, hh, hnc, hcm, hcl, hct⟩ := owns2_open h.own (by omega)
  unfold maxLen at hcm
  have hgs : g < w.heap.size := lt_of_cell (par_cells h ht).1
  obtain ⟨q1, m1, c1, ht1, hto⟩ := h.row t (List.mem_of_getElem? ht)
  obtain ⟨t1, k1, xs⟩ := t
  simp only at ht1 hto hr
  subst ht1
  obtain ⟨d0, d1⟩ := par_cells h ht
  simp only at d0 d1
  have hB := fun o1 => al (o := o1) (Below.refl w.heap.size w) (Nat.le_refl _)
  obtain ⟨W, hW⟩ : ∃ W, W = w.alloc (.cells #[.int .i64 d, .int .i64 i, .int .i64 j, .int .u32 b, av] 176) := ⟨_, rfl⟩
  have hBW : Below w.heap.size w W := by rw [hW]; exact hB _
  have x1 : W.heap[w.heap.size]? = some (.cells #[.int .i64 d, .int .i64 i, .int .i64 j, .int .u32 b, av] 176 (0, 0)) := by rw [hW]; exact hnew rfl
  have hWs : W.heap.size = w.heap.size + 1 := by rw [hW]; simp
  have s0 : W.cell? ⟨g, i * 2, none⟩ = some (.slice q1 m1 c1) := (hBW.cell (p := ⟨g, i * 2, none⟩) hgs).trans d0
  have s2 : W.cell? ⟨w.heap.size, 1, none⟩ = some (.int .i64 i) := cell_of_row _ _ 1 _ _ _ x1
  have s3 : W.cell? ⟨w.heap.size, 2, none⟩ = some (.int .i64 j) := cell_of_row _ _ 2 _ _ _ x1
  have i1 : (i : Int) < (n : Int) := by omega
  obtain ⟨m0, hm0⟩ : ∃ m0, m0 = xs.length := ⟨_, rfl⟩
  have hml : m1 = m0 := by have := hto.1; simp at this; omega
  rw [← hm0] at hr
  have HM0 := Lib.hid hm0
  clear hm0
  subst hml
  have H := Lib.hid h; have HT := Lib.hid ht; have HBW := Lib.hid hBW
  have HS := Lib.hid (Sl.of_owns hto)
  have bm := HS.out.le; have bc := HS.out.max; unfold maxLen at bc
  unfold Room at hr
  have X1 := Lib.hid x1
  clear h hh hct hcl d0 d1 ht hB hBW x1
  by_cases hjm : j / 8 < m1
  · have j1 : ¬ (m1 : Int) ≤ (j : Int) / 8 := by omega
    have HTO := Lib.hid hto
    clear hto
    go_enter Tryz.func148, Tryz.ntmps148
    go_wp2_with fail
    rw [← hW]
    clear hW
    go_quiet (fail)
    go_wp2_with fail
    obtain ⟨gb, rfl⟩ : ∃ gb, q1 = some ⟨gb, 0, none⟩ := by
      rcases HTO.out.2 with ⟨h1, h0⟩ | ⟨g', cap, cur', hv, _⟩
      · omega
      · obtain ⟨rfl, -⟩ : q1 = some ⟨g', 0, none⟩ ∧ c1 = cap := by simpa using hv
        exact ⟨g', rfl⟩
    have jk : j ≤ 2 ^ 52 := by omega
    clear s0 s2 s3
    go_loopw [22] (fun i' wr => ∃ k : Nat, k ≤ 32 ∧ i' = .int .i64 k ∧ Hid (PL wr base (.slice (some ⟨g, 0, none⟩) n c) n (ts.set i (.slice (some ⟨gb, 0, none⟩) m1 c1, if (maskF b j xs k).2 then -1 else k1, (maskF b j xs k).1))) ∧ Hid (Below base w wr) ∧
      Hid (wr.heap[w.heap.size]? = some (.cells #[.int .i64 d, .int .i64 i, .int .i64 j, .int .u32 b, av] 176 (0, 0)))) (fun i' _ => 32 - (intOf i').toNat)
    case atStart => exact ⟨0, by omega, rfl, by
      show PL _ _ _ _ _
      rw [show (ts.set i (Value.slice (some ⟨gb, 0, none⟩) m1 c1, if (maskF b j xs 0).2 then -1 else k1, (maskF b j xs 0).1)) = ts from set_get HT.out]
      exact H.out.keep (bdn HBW.out), bdn (HBW.out.mono hbase), X1.out⟩
    case round =>
      obtain ⟨k, hk, rfl, hP, hBl, hX⟩ := hrel
      by_cases hlt : k < 32
      · have hss := List.getElem?_set_self (l := ts) (i := i) (a := (Value.slice (some ⟨gb, 0, none⟩) m1 c1, (if (maskF b j xs k).2 then (-1 : Int) else k1), (maskF b j xs k).1)) (by rw [H.out.len]; exact hi)
        have s0 := (par_cells hP.out hss).1
        simp only at s0
        have s2 : wr.cell? ⟨w.heap.size, 2, none⟩ = some (.int .i64 j) := cell_of_row _ _ 2 _ _ _ hX.out
        have s3 : wr.cell? ⟨w.heap.size, 3, none⟩ = some (.int .u32 b) := cell_of_row _ _ 3 _ _ _ hX.out
        have HSS := Lib.hid hss; clear hss
        by_cases hin : (j + k) / 8 < m1
        · have in1 : ((j : Int) + (k : Int)) / 8 < (m1 : Int) := by omega
          have hidx : (((j : Int) + (k : Int)) / 8).toNat = (j + k) / 8 := by omega
          have hand := and_one b k hb32
          obtain ⟨q2, m2, c2, e2, hrow⟩ := hP.out.row _ (List.mem_of_getElem? HSS.out)
          simp only at e2 hrow
          obtain ⟨rfl, rfl, rfl⟩ : some ⟨gb, 0, none⟩ = q2 ∧ m1 = m2 ∧ c1 = c2 := by simpa using e2
          have hx : ∃ x, (maskF b j xs k).1[(j + k) / 8]? = some x := by
            have : (j + k) / 8 < (maskF b j xs k).1.length := by rw [maskF_len, ← HM0.out]; exact hin
            exact ⟨_, List.getElem?_eq_getElem this⟩
          obtain ⟨x, hx⟩ := hx
          have cx : wr.cell? ⟨gb, (j + k) / 8, none⟩ = some (B8 x) := by rw [hrow.cellAt _ (by omega), List.getElem?_map, hx]; rfl
          have zx : wr.frozen? ⟨gb, (j + k) / 8, none⟩ = false := hrow.frozenAt _
          have HX := Lib.hid hx
          clear hx e2
          by_cases hbit : b.testBit k = true
          · rw [if_pos hbit] at hand
            go_wp2_with fail
            go_region
            rw [flip_val x _ (Nat.mod_lt _ (by decide))]
            have P2 := Pl.byte_set (k := (j + k) / 8) hP.out HSS.out (x ^^^ UInt8.ofNat (2 ^ ((j + k) % 8)))
            rw [List.set_set] at P2
            have HSS2 := List.getElem?_set_self (l := ts) (i := i) (a := (Value.slice (some ⟨gb, 0, none⟩) m1 c1, (if (maskF b j xs k).2 then (-1 : Int) else k1), (maskF b j xs k).1.set ((j + k) / 8) (x ^^^ UInt8.ofNat (2 ^ ((j + k) % 8))))) (by rw [H.out.len]; exact hi)
            have hgb : gb < wr.heap.size ∧ base ≤ gb := ⟨lt_of_cell cx, (hrow.lt gb rfl).1⟩
            have hne1 : w.heap.size ≠ gb := by have := (HTO.out.lt gb rfl).2; omega
            have hX2 : Hid ((wr.setCell ⟨gb, (j + k) / 8, none⟩ (B8 (x ^^^ UInt8.ofNat (2 ^ ((j + k) % 8))))).heap[w.heap.size]? = some (.cells #[.int .i64 d, .int .i64 i, .int .i64 j, .int .u32 b, av] 176 (0, 0))) := hsc hX.out hne1
            have hBl2 : Hid (Below base w (wr.setCell ⟨gb, (j + k) / 8, none⟩ (B8 (x ^^^ UInt8.ofNat (2 ^ ((j + k) % 8)))))) := hBl.out.setCell hgb.2 _
            have HP2 := Lib.hid P2; have HH2 := Lib.hid HSS2
            clear cx zx s0 s2 s3 hrow P2 HSS2
            generalize wr.setCell ⟨gb, (j + k) / 8, none⟩ (B8 (x ^^^ UInt8.ofNat (2 ^ ((j + k) % 8)))) = w2 at *
            obtain ⟨y0, y1⟩ := par_cells HP2.out HH2.out
            simp only at y1
            have z1 : w2.frozen? ⟨g, i * 2 + 1, none⟩ = false := HP2.out.own.frozenAt _
            clear y0
            go_wp2
            go_roundw
            case rel =>
              refine ⟨k + 1, by omega, by go_num, ?_, ?_, ?_⟩
              · have P3 := Pl.from_set (HP2.out.keep (Below.refl _ _).drew) HH2.out (-1)
                rw [List.set_set] at P3
                have e : maskF b j xs (k + 1) = ((maskF b j xs k).1.set ((j + k) / 8) (x ^^^ UInt8.ofNat (2 ^ ((j + k) % 8))), true) := by
                  show (if b.testBit k = true ∧ (j + k) / 8 < xs.length then (flip (maskF b j xs k).1 (j + k), true) else maskF b j xs k) = _
                  rw [if_pos ⟨hbit, by rw [← HM0.out]; exact hin⟩]
                  unfold flip
                  rw [show (maskF b j xs k).1.getD ((j + k) / 8) 0 = x by simp [List.getD, HX.out]]
                rw [e]
                exact P3
              · exact (hBl2.out.drew).setCell hg _
              · exact hsc (show w2.drew.heap[w.heap.size]? = _ from hX2.out) (by show w.heap.size ≠ g; omega)
            case measure => simp [intOf]; omega
          · rw [if_neg hbit] at hand
            clear cx zx hrow
            go_wp2
            go_roundw
            case rel =>
              have e : maskF b j xs (k + 1) = maskF b j xs k := by
                show (if b.testBit k = true ∧ (j + k) / 8 < xs.length then (flip (maskF b j xs k).1 (j + k), true) else maskF b j xs k) = _
                rw [if_neg (fun h => hbit h.1)]
              exact ⟨k + 1, by omega, by go_num, by rw [e]; exact hP.out, hBl.out, hX.out⟩
            case measure => simp [intOf]; omega
        · have in1 : ¬ ((j : Int) + (k : Int)) / 8 < (m1 : Int) := by omega
          have hand := and_one b k hb32
          have e : Hid (maskF b j xs (k + 1) = maskF b j xs k) := by
            show (if b.testBit k = true ∧ (j + k) / 8 < xs.length then (flip (maskF b j xs k).1 (j + k), true) else maskF b j xs k) = _
            rw [if_neg (fun h => hin (by rw [HM0.out]; exact h.2))]
          by_cases hbit : b.testBit k = true
          · rw [if_pos hbit] at hand
            go_wp2
            go_roundw
            case rel => exact ⟨k + 1, by omega, by go_num, by rw [e.out]; exact hP.out, hBl.out, hX.out⟩
            case measure => simp [intOf]; omega
          · rw [if_neg hbit] at hand
            go_wp2
            go_roundw
            case rel => exact ⟨k + 1, by omega, by go_num, by rw [e.out]; exact hP.out, hBl.out, hX.out⟩
            case measure => simp [intOf]; omega
      · have hk32 : k = 32 := by omega
        subst hk32
        go_wp2
        go_ret
        refine RetP.of hP.out hBl.out ?_
        rw [List.map_set]; rfl
  · have j1 : (m1 : Int) ≤ (j : Int) / 8 := by omega
    have HC : Hid (maskP (parIs (.slice q1 m1 c1, k1, xs)) b j = (xs, k1)) := by unfold maskP parIs; rw [Hid]; simp only; rw [maskF_far b j xs (by rw [← HM0.out]; omega) 32]; rfl
    rw [HC.out]
    clear hto
    go_enter Tryz.func148, Tryz.ntmps148
    go_wp2_with fail
    rw [← hW]
    clear hW
    go_quiet (fail)
    go_wp2
    go_ret
    refine RetP.of (H.out.keep (bdn HBW.out)) (bdn (HBW.out.mono hbase)) ?_
    exact (set_get (by rw [List.getElem?_map, HT.out]; rfl)).symm
end Go.Proofs.YtfbmdlfkipipfaaGreatDoor
namespace Go.Proofs.YtfbmdlfkipipfaaGreatDoor
open Go.RowKit Go.By
structure ActD where
  d : Int
  i : Int
  j : Int
  b : Nat
  bs : List UInt8
abbrev Pack := List UInt8 × Int
def stepS (ps : List Pack) (a : ActD) : List Pack :=
  if a.d < 0 ∨ 6 ≤ a.d ∨ a.j < 0 then ps
  else if a.d = 5 then ps ++ [(a.bs, -1)]
  else match ps[a.i.toNat]? with
    | none => ps
    | some p => if a.i < 0 then ps
      else if a.d = 0 then dropAt ps a.i.toNat
      else if a.d = 1 then ps ++ [p]
      else if a.d = 2 then putAtP (dropAt ps a.i.toNat) (min a.j.toNat (ps.length - 1)) p
      else if a.d = 3 then ps.set a.i.toNat (cutP p a.j.toNat)
      else ps.set a.i.toNat (maskP p a.b a.j.toNat)
def playS (ps : List Pack) (acs : List ActD) : List Pack := acs.foldl stepS ps
theorem stepS_len (ps : List Pack) (a : ActD) : (stepS ps a).length ≤ ps.length + 1 := by
  unfold stepS
  split
  · omega
  · split
    · simp
    · split
      · omega
      · rename_i p hp
        have hi := (List.getElem?_eq_some_iff.1 hp).1
        split
        · omega
        · split
          · rw [dropAt_length hi]; omega
          · split
            · simp
            · split
              · rw [(putAtP_perm _ _ _).length_eq, List.length_cons, dropAt_length hi]; omega
              · split <;> simp
theorem stepS_room {ps : List Pack} {a : ActD} (h : ∀ p, p ∈ ps → Room p.1.length) (ha : Room a.bs.length) : ∀ p, p ∈ stepS ps a → Room p.1.length := by
  unfold stepS
  split
  · exact h
  · split
    · intro p hp
      rcases List.mem_append.1 hp with hp | hp
      · exact h p hp
      · simp at hp; subst hp; exact ha
    · split
      · exact h
      · rename_i p hp
        have hpm := List.mem_of_getElem? hp
        split
        · exact h
        · split
          · intro x hx; exact h x ((dropAt_sub _ _).subset hx)
          · split
            · intro x hx
              rcases List.mem_append.1 hx with hx | hx
              · exact h x hx
              · simp at hx; subst hx; exact h _ hpm
            · split
              · intro x hx
                rcases List.mem_cons.1 ((putAtP_perm _ _ _).subset hx) with rfl | hx
                · exact h _ hpm
                · exact h x ((dropAt_sub _ _).subset hx)
              · split
                · intro x hx
                  rcases List.mem_or_eq_of_mem_set hx with hx | rfl
                  · exact h x hx
                  · unfold cutP
                    split
                    · exact (h _ hpm).le (by rw [List.length_take]; omega)
                    · exact h _ hpm
                · intro x hx
                  rcases List.mem_or_eq_of_mem_set hx with hx | rfl
                  · exact h x hx
                  · unfold maskP; simp only; rw [maskF_len]; exact h _ hpm
/-- a slice value of acts that reads as a list -/
structure SlA (w : World) (p : Option Addr) (n c : Nat) (acs : List ActD) : Prop where
  len : acs.length = n
  max : c ≤ maxLen
  le : n ≤ c
  rs : ∀ k a, acs[k]? = some a → ∃ b o q m c', p = some ⟨b, o, none⟩ ∧ w.cell? ⟨b, o + k * 5, none⟩ = some (.int .i64 a.d) ∧ w.cell? ⟨b, o + k * 5 + 1, none⟩ = some (.int .i64 a.i) ∧ w.cell? ⟨b, o + k * 5 + 2, none⟩ = some (.int .i64 a.j) ∧
    w.cell? ⟨b, o + k * 5 + 3, none⟩ = some (.int .u32 a.b) ∧ w.cell? ⟨b, o + k * 5 + 4, none⟩ = some (.slice q m c') ∧ Sl B8 w q m c' a.bs ∧ a.i ≤ 9223372036854775807 ∧ a.j ≤ 9223372036854775807 ∧ a.b < 4294967296
theorem SlA.keep {w w' : World} {p : Option Addr} {n c : Nat} {acs : List ActD} (h : SlA w p n c acs) (hb : Below w.heap.size w w') : SlA w' p n c acs :=
  ⟨h.len, h.max, h.le, fun k a hk => by
    obtain ⟨b, o, q, m, c', hp, h0, h1, h2, h3, h4, h5, h6⟩ := h.rs k a hk
    have hlt := lt_of_cell h0
    exact ⟨b, o, q, m, c', hp, (hb.cell (p := ⟨b, o + k * 5, none⟩) hlt).trans h0, (hb.cell (p := ⟨b, o + k * 5 + 1, none⟩) hlt).trans h1, (hb.cell (p := ⟨b, o + k * 5 + 2, none⟩) hlt).trans h2, (hb.cell (p := ⟨b, o + k * 5 + 3, none⟩) hlt).trans h3, (hb.cell (p := ⟨b, o + k * 5 + 4, none⟩) hlt).trans h4, h5.keep hb, h6⟩⟩
theorem SlA.bound {w : World} {p : Option Addr} {n c : Nat} {acs : List ActD} (h : SlA w p n c acs) : n ≤ 9223372036854775807 := by have := h.le; have := h.max; unfold maxLen at this; omega
/-- the packets, each with its place -/
def initS (xss : List (List UInt8)) : List Pack := (List.range xss.length).map fun i => (xss.getD i [], (i : Int))
def blankS (n : Nat) : List Pack := List.replicate n ([], 0)
theorem initS_len (xss : List (List UInt8)) : (initS xss).length = xss.length := by simp [initS]
theorem initS_at {xss : List (List UInt8)} {k : Nat} {x : List UInt8} (h : xss[k]? = some x) : (initS xss)[k]? = some (x, (k : Int)) := by
  have hk := (List.getElem?_eq_some_iff.1 h).1
  obtain ⟨hk', e⟩ := List.getElem?_eq_some_iff.1 h
  simp [initS, hk, e]
end Go.Proofs.YtfbmdlfkipipfaaGreatDoor
namespace Go.Proofs.YtfbmdlfkipipfaaGreatDoor
open Go.RowKit Go.By Go.ChangeShapes Go.WideShapes Go.Deep
section
variable {H : Type} {enc : TypeId × Value → H} {P : Program} {w : World} {base : Nat} {held : Bool}
instance : Inhabited ActD := ⟨⟨0, 0, 0, 0, []⟩⟩
theorem trod_struct5 {t : TypeId} {f0 f1 f2 f3 f4 : Field} {fuel : Nat} {cs : List Value} {x : DataW H × List MemPlace} {spare : Nat → Bool} (ht : P.underlying t = some (.struct #[f0, f1, f2, f3, f4])) (h : DataW.trod enc P w base spare held fuel t cs = some x) :
    ∃ y0 y1 y2 y3 y4 n, cs.length = P.cellsOf t ∧ DataW.trod enc P w base spare held n f0.type ((cs.drop f0.offset).take (P.cellsOf f0.type)) = some y0 ∧
      DataW.trod enc P w base spare held n f1.type ((cs.drop f1.offset).take (P.cellsOf f1.type)) = some y1 ∧ DataW.trod enc P w base spare held n f2.type ((cs.drop f2.offset).take (P.cellsOf f2.type)) = some y2 ∧
      DataW.trod enc P w base spare held n f3.type ((cs.drop f3.offset).take (P.cellsOf f3.type)) = some y3 ∧ DataW.trod enc P w base spare held n f4.type ((cs.drop f4.offset).take (P.cellsOf f4.type)) = some y4 := by
  obtain ⟨xs, n, _, rfl, hl, hlen, hf⟩ := DataW.trod_struct ht h
  match xs, hlen with
  | [y0, y1, y2, y3, y4], _ => exact ⟨y0, y1, y2, y3, y4, n, hl, by simpa using hf 0 f0 rfl, by simpa using hf 1 f1 rfl, by simpa using hf 2 f2 rfl, by simpa using hf 3 f3 rfl, by simpa using hf 4 f4 rfl⟩
theorem list5 {α : Type} {cs : List α} (h : cs.length = 5) : ∃ c0 c1 c2 c3 c4, cs = [c0, c1, c2, c3, c4] := by
  match cs, h with
  | [c0, c1, c2, c3, c4], _ => exact ⟨c0, c1, c2, c3, c4, rfl⟩
/-- one act, cell by cell -/
theorem open_act {t q : TypeId} {f0 f1 f2 f3 f4 : Field} {fuel : Nat} {cs : List Value} {x : DataW H × List MemPlace} (ht : P.underlying t = some (.struct #[f0, f1, f2, f3, f4])) (hone : oneCellFields P #[f0, f1, f2, f3, f4] = true) (hC : P.cellsOf t = 5)
    (h0 : P.underlying f0.type = some (.int .i64)) (h1 : P.underlying f1.type = some (.int .i64)) (h2 : P.underlying f2.type = some (.int .i64)) (h3 : P.underlying f3.type = some (.int .u32)) (h4 : P.underlying f4.type = some (.slice q)) (hq : P.underlying q = some (.int .u8)) (cq : P.cellsOf q = 1)
    (h : DataW.trod enc P w base (fun _ => true) held fuel t cs = some x) :
    ∃ (a : ActD) (p : Option Addr) (m c : Nat), cs = [.int .i64 a.d, .int .i64 a.i, .int .i64 a.j, .int .u32 a.b, .slice p m c] ∧ Sl B8 w p m c a.bs ∧ a.i ≤ 9223372036854775807 ∧ a.j ≤ 9223372036854775807 ∧ a.b < 4294967296 := by
  obtain ⟨y0, y1, y2, y3, y4, n, hl, g0, g1, g2, g3, g4⟩ := trod_struct5 ht h
  obtain ⟨c0, c1, c2, c3, c4, rfl⟩ := list5 (hl.trans hC)
  obtain ⟨o0, k0⟩ := hone_of hone 0 f0 rfl
  obtain ⟨o1, k1⟩ := hone_of hone 1 f1 rfl
  obtain ⟨o2, k2⟩ := hone_of hone 2 f2 rfl
  obtain ⟨o3, k3⟩ := hone_of hone 3 f3 rfl
  obtain ⟨o4, k4⟩ := hone_of hone 4 f4 rfl
  rw [o0, k0] at g0; rw [o1, k1] at g1; rw [o2, k2] at g2; rw [o3, k3] at g3; rw [o4, k4] at g4
  obtain ⟨d, e0, -, w0⟩ := DataW.trod_int h0 g0
  obtain ⟨i, e1, -, w1⟩ := DataW.trod_int h1 g1
  obtain ⟨j, e2, -, w2⟩ := DataW.trod_int h2 g2
  obtain ⟨b, e3, -, w3⟩ := DataW.trod_int h3 g3
  obtain ⟨p, m, c, bs, e4, hs⟩ : ∃ p m c bs, c4 = .slice p m c ∧ Sl B8 w p m c bs := by
    rcases open_ints h4 hq cq g4 with ⟨hcs, _⟩ | ⟨x, l, c, zs, hcs, _, hl, hm, hz, _, hcell, hwz⟩
    · simp at hcs
      exact ⟨none, 0, 0, [], hcs, Sl.nil0 _ _⟩
    · simp at hcs
      obtain ⟨xs, hx⟩ := sl_of_row (.inr ⟨_, rfl, hl, hm, by simpa using hz, hcell, hwz⟩)
      exact ⟨_, _, _, xs, hcs, hx⟩
  have b3 : 0 ≤ b ∧ b ≤ 4294967295 := by
    simp [Lit.wf, IntKind.min, IntKind.max, IntKind.signed, IntKind.bits] at w3
    omega
  obtain ⟨bn, rfl⟩ := Int.eq_ofNat_of_zero_le b3.1
  simp at e0 e1 e2 e3
  subst e0; subst e1; subst e2; subst e3; subst e4
  exact ⟨⟨d, i, j, bn, bs⟩, p, m, c, rfl, hs, (Go.bounds_i64 w1).2, (Go.bounds_i64 w2).2, by show bn < 4294967296; have := b3.2; omega⟩
theorem open_acts {t e q : TypeId} {f0 f1 f2 f3 f4 : Field} {fuel : Nat} {cs : List Value} {x : DataW H × List MemPlace} (ht : P.underlying t = some (.slice e)) (he : P.underlying e = some (.struct #[f0, f1, f2, f3, f4])) (hone : oneCellFields P #[f0, f1, f2, f3, f4] = true) (hC : P.cellsOf e = 5)
    (h0 : P.underlying f0.type = some (.int .i64)) (h1 : P.underlying f1.type = some (.int .i64)) (h2 : P.underlying f2.type = some (.int .i64)) (h3 : P.underlying f3.type = some (.int .u32)) (h4 : P.underlying f4.type = some (.slice q)) (hq : P.underlying q = some (.int .u8)) (cq : P.cellsOf q = 1)
    (h : DataW.trod enc P w base (fun _ => true) held fuel t cs = some x) : ∃ p n c acs, cs = [.slice p n c] ∧ SlA w p n c acs := by
  rcases open_slice ht h with ⟨hcs, _⟩ | ⟨a, len, cap, m, n, D, Pl, rfl, hb, hl, hm, hmm, rfl, hx⟩
  · exact ⟨none, 0, 0, [], hcs, ⟨rfl, by simp [maxLen], Nat.le_refl _, fun k a hk => by simp at hk⟩⟩
  simp only [if_true] at hmm
  have hmm' := hmm.symm
  subst hmm'
  have hsp : 0 < len → a.spot = none := fun h => by
    obtain ⟨cs', hc, htr⟩ := hx 0 (by omega)
    obtain ⟨y, p, m', c', rfl, -⟩ := open_act he hone hC h0 h1 h2 h3 h4 hq cq htr
    obtain ⟨_, _, hcell⟩ := World.cells?_some hc
    have z0 := hcell 0 (by omega)
    simpa [Addr.add] using World.cell?_spot (z0.trans rfl)
  have each : ∀ k, k < len → ∃ y : ActD, ∃ b o q m c', a = ⟨b, o, none⟩ ∧ w.cell? ⟨b, o + k * 5, none⟩ = some (.int .i64 y.d) ∧ w.cell? ⟨b, o + k * 5 + 1, none⟩ = some (.int .i64 y.i) ∧ w.cell? ⟨b, o + k * 5 + 2, none⟩ = some (.int .i64 y.j) ∧
      w.cell? ⟨b, o + k * 5 + 3, none⟩ = some (.int .u32 y.b) ∧ w.cell? ⟨b, o + k * 5 + 4, none⟩ = some (.slice q m c') ∧ Sl B8 w q m c' y.bs ∧ y.i ≤ 9223372036854775807 ∧ y.j ≤ 9223372036854775807 ∧ y.b < 4294967296 := by
    intro k hk
    obtain ⟨cs', hc, htr⟩ := hx k (by omega)
    obtain ⟨y, p, m', c', rfl, hs, hb1, hb2, hb3⟩ := open_act he hone hC h0 h1 h2 h3 h4 hq cq htr
    obtain ⟨_, _, hcell⟩ := World.cells?_some hc
    rw [hC] at hcell
    obtain ⟨b, o, spot⟩ := a
    have z0 := hcell 0 (by omega)
    have hspot : spot = none := hsp (by omega)
    subst hspot
    have z1 := hcell 1 (by omega); have z2 := hcell 2 (by omega); have z3 := hcell 3 (by omega); have z4 := hcell 4 (by omega)
    simp only [add_plain] at z0 z1 z2 z3 z4
    exact ⟨y, b, o, p, m', c', rfl, z0, z1, z2, z3, z4, hs, hb1, hb2, hb3⟩
  obtain ⟨f, hf⟩ := choose_lt each
  refine ⟨some a, len, cap, (List.range len).map f, rfl, ⟨by simp, hm, hl, fun k y hk => ?_⟩⟩
  rw [List.getElem?_map] at hk
  cases hr : (List.range len)[k]? with
  | none => rw [hr] at hk; simp at hk
  | some k' =>
    rw [hr] at hk
    obtain ⟨hk1, hk2⟩ := List.getElem?_eq_some_iff.1 hr
    simp at hk1 hk2 hk
    subst hk2; subst hk
    obtain ⟨b, o, q, m, c', e, r⟩ := hf k hk1
    exact ⟨b, o, q, m, c', by rw [e], r⟩
end
end Go.Proofs.YtfbmdlfkipipfaaGreatDoor
namespace Go.Proofs.YtfbmdlfkipipfaaGreatDoor
open Go.RowKit Go.By
def zp : Par := (.slice none 0 0, 0, [])
theorem made_two (x y : Value) (n : Nat) : (madeCells #[x, y] (n * 2)).toList = (List.replicate n [x, y]).flatten := by
  apply List.ext_getElem
  · simp [madeCells]
  · intro j h1 h2
    simp only [madeCells, Array.toList_map, List.getElem_map, Array.toList_range, List.getElem_range]
    have e : ∀ n j : Nat, j < n * 2 → (List.replicate n [x, y]).flatten[j]? = some (#[x, y][j % 2]!) := by
      intro n
      induction n with
      | zero => intro j hj; omega
      | succ n ih =>
        intro j hj
        rw [List.replicate_succ, List.flatten_cons]
        match j with
        | 0 => rfl
        | 1 => rfl
        | j + 2 =>
          rw [List.getElem?_append_right (by simp)]
          have := ih j (by omega)
          simpa using this
    have h3 := e n j (by simpa [madeCells] using h1)
    rw [List.getElem?_eq_getElem h2] at h3
    exact (Option.some.inj h3).symm
theorem pcs_zero (n : Nat) : pcs ((List.replicate n zp).map parOf) = (List.replicate n [Value.slice none 0 0, .int .i64 0]).flatten := by
  rw [List.map_replicate]
  simp [pcs, List.flatMap_replicate, zp, parOf]
theorem pl_made {w : World} {base n : Nat} {v : Value} (h : w.ownsRow base 174 2 v n (madeCells #[.slice none 0 0, .int .i64 0] (n * 2)).toList) : PL w base v n (List.replicate n zp) := by
  refine ⟨by simp, by rw [pcs_zero, ← made_two]; exact h, fun t ht => ?_, ?_⟩
  · obtain rfl := List.eq_of_mem_replicate ht
    exact ⟨none, 0, 0, rfl, World.ownsRow_nil _ _ _ _⟩
  · have : blks (List.replicate n zp) = [] := by
      rw [blks, List.filterMap_eq_nil_iff]
      intro t ht
      obtain rfl := List.eq_of_mem_replicate ht
      rfl
    rw [this]; exact List.nodup_nil
def doesV : Array Value := #[.func (.func 144) #[] #[], .func (.func 145) #[] #[], .func (.func 146) #[] #[], .func (.func 147) #[] #[], .func (.func 148) #[] #[], .func (.func 149) #[] #[]]
theorem does_ones : doesV.all (·.oneCell') = true := by simp [doesV, Value.oneCell']
theorem info_does : (Tryz.prog.info? 235).map (·.size) = some 6 := by kernel_rfl
theorem Pl.mono {w : World} {base base' n : Nat} {v : Value} {ts : List Par} (h : PL w base v n ts) (hb : base' ≤ base) : PL w base' v n ts :=
  ⟨h.len, owns_mono h.own hb, fun t ht => by obtain ⟨q, m, c, e, hr⟩ := h.row t ht; exact ⟨q, m, c, e, owns_mono hr hb⟩, h.dis⟩
theorem Pl.shape {w : World} {base n : Nat} {v : Value} {ts : List Par} (h : PL w base v n ts) : ∃ q c, v = .slice q n c := by
  rcases h.own.2 with ⟨h1, h0⟩ | ⟨g, cap, cur, hv, _⟩
  · exact ⟨none, 0, by rw [h1, h0]⟩
  · exact ⟨_, _, hv⟩
theorem playS_snoc {ps : List Pack} {acs : List ActD} {k : Nat} {a : ActD} (h : acs[k]? = some a) : playS ps (acs.take (k + 1)) = stepS (playS ps (acs.take k)) a := by
  obtain ⟨hk, e⟩ := List.getElem?_eq_some_iff.1 h
  unfold playS; rw [foldl_take_succ _ _ _ _ hk, e]
theorem playS_len (ps : List Pack) (acs : List ActD) : (playS ps acs).length ≤ ps.length + acs.length := by
  induction acs generalizing ps with
  | nil => simp [playS]
  | cons a acs ih =>
    have h1 := ih (stepS ps a)
    have h2 := stepS_len ps a
    simp only [playS, List.foldl_cons, List.length_cons] at h1 ⊢
    omega
theorem playS_room {acs : List ActD} : ∀ {ps : List Pack}, (∀ p, p ∈ ps → Room p.1.length) → (∀ a, a ∈ acs → Room a.bs.length) → ∀ p, p ∈ playS ps acs → Room p.1.length := by
  induction acs with
  | nil => intro ps h _; exact h
  | cons a acs ih =>
    intro ps h ha
    exact ih (stepS_room h (ha a List.mem_cons_self)) (fun x hx => ha x (List.mem_cons_of_mem _ hx))
theorem initS_room {xss : List (List UInt8)} (h : ∀ xs, xs ∈ xss → Room xs.length) : ∀ p, p ∈ initS xss → Room p.1.length := by
  intro p hp
  simp only [initS, List.mem_map, List.mem_range] at hp
  obtain ⟨i, hi, rfl⟩ := hp
  simp only [List.getD, List.getElem?_eq_getElem hi]
  exact h _ (List.getElem_mem hi)
set_option maxRecDepth 100000 in
set_option maxHeartbeats 4000000 in
theorem play_any (p1 p2 : Option Addr) (n1 c1 n2 c2 : Nat) (xss : List (List UInt8)) (acs : List ActD) (w : World) (h1 : Sl2 w p1 n1 c1 xss) (h2 : SlA w p2 n2 c2 acs) (hr : ∀ xs, xs ∈ xss → Room xs.length) (hra : ∀ a, a ∈ acs → Room a.bs.length) (hlen : n1 + n2 < 4096) :
    Calls Tryz.prog 94 #[.slice p1 n1 c1, .slice p2 n2 c2] w (RetP w.heap.size w (playS (initS xss) acs)) := by
  obtain ⟨i0, hi0, hz0, hz1, hz2⟩ := info_parts info_parcel
  have b1 := h1.bound; have b2 := h2.bound
  have H1 := Lib.hid h1; have H2 := Lib.hid h2; have HR := Lib.hid hr; have HRA := Lib.hid hra
  clear h1 h2 hr hra
  have e1 := Lib.hid (show n1 ≤ maxLen by unfold maxLen; omega); have e2 := Lib.hid (show 32 * n1 ≤ 281474976710656 by omega)
  go_enter Tryz.func94, Tryz.ntmps94
  go_wp2_with (first
    | (refine wpList_store_row (o := ⟨none, .store 235 (.tmp 5) (.tmp 11), _, _, _, _⟩) rfl 235 (.tmp 5) (.tmp 11) rfl w.heap.size doesV rfl rfl _ _ (hnew rfl) info_does rfl does_ones ?_)
    | (at_make; refine wpList_make_full _ rfl _ _ 171 rfl (w.heap.size + 1) 174 i0 (.agg #[.slice none 0 0, .int .i64 0]) 2 Tryz.underlying171 hi0 hz0 hz1 .i64 .i64 _ _ n1 rfl rfl rfl rfl (by rw [hz2]; exact e2.out) e1.out (by simp) ?_))
  intro w1 ho hg
  have P0 := Lib.hid (pl_made ho)
  have hD : Hid (w1.heap[w.heap.size]? = some (.cells doesV 235 (0, 0))) := by
    show _ = _
    rw [hg.block _ (by simp) (by simp)]; exact hrs (hnew rfl)
  have k1 : Hid (Below w.heap.size w w1) := (below_setRow (al (Below.refl _ _) (Nat.le_refl _)) (Nat.le_refl _) _).grown hg (by simp) (by simp)
  have s1 : Hid (w.heap.size + 1 ≤ w1.heap.size) := by have := hg.size; simp at this; exact this
  clear ho hg e1 e2
  go_wp2
  go_loopw [17] (fun i wr => ∃ (k : Nat) (ts : List Par), k ≤ n1 ∧ i = .int .i64 k ∧ Hid (PL wr (w.heap.size + 1) (.slice (some ⟨w.heap.size + 1, 0, none⟩) n1 n1) n1 ts) ∧ Hid (ts.map parIs = prog (initS xss) (blankS n1) k) ∧ Hid (Below (w.heap.size + 1) w1 wr)) (fun i _ => n1 - (intOf i).toNat)
  case atStart => exact ⟨0, _, Nat.zero_le _, rfl, P0.out, by rw [Hid, prog_zero, List.map_replicate]; rfl, Below.refl _ _⟩
  case round =>
    obtain ⟨k, ts, hk, rfl, hP, hM, hB⟩ := hrel
    by_cases hlt : k < n1
    · obtain ⟨b, o, q, m, c', x, rfl, hc, hs, hx⟩ := H1.out.at k hlt
      have kw : Below w.heap.size w wr := k1.out.trans (hB.out.mono (by omega))
      have hcw := (kw.cell (p := ⟨b, o + k, none⟩) (lt_of_cell hc)).trans hc
      have HS := Lib.hid (hs.keep kw)
      have hrm : Room m := by have := HR.out x (List.mem_of_getElem? hx.out); rw [hs.len] at this; exact this
      have i1 : (k : Int) < (n1 : Int) := by omega
      have hsz := Nat.le_trans s1.out hB.out.size
      clear hc hs kw
      go_wp2_with fail
      refine Calls.mono (BClone_any q m c' x wr HS.out hrm) ?_; rintro e w2 ⟨q2, c2', rfl, ho2, hb2⟩
      have hPw := hP.out.keep hb2
      obtain ⟨t, ht⟩ : ∃ t, ts[k]? = some t := ⟨_, List.getElem?_eq_getElem (by rw [hPw.len]; exact hlt)⟩
      obtain ⟨y0, y1⟩ := par_cells hPw ht
      have z0 : w2.frozen? ⟨w.heap.size + 1, k * 2, none⟩ = false := hPw.own.frozenAt _
      have z1 : w2.frozen? ⟨w.heap.size + 1, k * 2 + 1, none⟩ = false := hPw.own.frozenAt _
      have FIN : Hid (PL ((w2.setCell ⟨w.heap.size + 1, k * 2, none⟩ (.slice q2 m c2')).setCell ⟨w.heap.size + 1, k * 2 + 1, none⟩ (.int .i64 k)) (w.heap.size + 1) (.slice (some ⟨w.heap.size + 1, 0, none⟩) n1 n1) n1 (ts.set k (.slice q2 m c2', (k : Int), x)) ∧
          (ts.set k (.slice q2 m c2', (k : Int), x)).map parIs = prog (initS xss) (blankS n1) (k + 1) ∧ Below (w.heap.size + 1) w1 ((w2.setCell ⟨w.heap.size + 1, k * 2, none⟩ (.slice q2 m c2')).setCell ⟨w.heap.size + 1, k * 2 + 1, none⟩ (.int .i64 k))) := by
        have how := (hPw.own.stored (k * 2) (.slice q2 m c2')).1
        have how2 := (how.stored (k * 2 + 1) (.int .i64 k)).1
        refine ⟨Pl.swap (w1 := wr) (w2 := w2) hP.out hlt ne_types ⟨_, _, _, rfl, ho2⟩ hsz hb2 ?_ (grown_trans (grownBy_setCell _ _ _ _) (grownBy_setCell _ _ _ _)), ?_, ?_⟩
        · rw [pcs_set _ _ _ (by rw [List.length_map, hP.out.len]; exact hlt)]; exact how2
        · rw [List.map_set, hM.out]
          exact prog_succ _ _ k n1 (by rw [initS_len]; exact H1.out.len) (by simp [blankS]) hlt _ (initS_at hx.out)
        · exact ((hB.out.trans (hb2.mono hsz)).setCell (Nat.le_refl _) _).setCell (Nat.le_refl _) _
      clear hPw ht ho2 hb2
      go_wp2
      go_roundw
      case rel => exact ⟨k + 1, _, by omega, by go_num, FIN.out.1, FIN.out.2.1, FIN.out.2.2⟩
      case measure => simp [intOf]; omega
    · have hkn : k = n1 := by omega
      subst hkn
      have hM2 : Hid (ts.map parIs = initS xss) := by
        show _ = _
        rw [hM.out]; exact prog_full _ _ _ (by rw [initS_len]; exact H1.out.len) (by simp [blankS])
      have hPl : Hid (PL wr (w.heap.size + 1) (.slice (some ⟨w.heap.size + 1, 0, none⟩) (initS xss).length k) (initS xss).length ts) := by
        show PL _ _ _ _ _
        rw [initS_len, H1.out.len]; exact hP.out
      clear hP hM
      go_wp2
      go_loopw [6, 32] (fun v i wv => ∃ (j : Nat) (ss : List Par) (uq : Option Addr) (uc : Nat), j ≤ n2 ∧ i = .int .i64 j ∧ v = .slice uq (playS (initS xss) (acs.take j)).length uc ∧ Hid (PL wv (w.heap.size + 1) (.slice uq (playS (initS xss) (acs.take j)).length uc) (playS (initS xss) (acs.take j)).length ss) ∧ Hid (ss.map parIs = playS (initS xss) (acs.take j)) ∧ Hid (Below (w.heap.size + 1) w1 wv)) (fun _ i _ => n2 - (intOf i).toNat)
      case atStart => exact ⟨0, ts, some ⟨w.heap.size + 1, 0, none⟩, k, Nat.zero_le _, rfl, by show _ = Value.slice _ (initS xss).length _; rw [initS_len, H1.out.len], hPl.out, hM2.out, hB.out⟩
      case round =>
        obtain ⟨j, ss, uq, uc, hj, rfl, rfl, hP, hM, hBv⟩ := hrel
        by_cases hjn : j < n2
        · have hal' : j < acs.length := by rw [H2.out.len]; exact hjn
          obtain ⟨a, ha⟩ : ∃ a, acs[j]? = some a := ⟨_, List.getElem?_eq_getElem hal'⟩
          have hNext := Lib.hid (playS_snoc (ps := initS xss) ha)
          have hL : (playS (initS xss) (acs.take j)).length < 4096 := by
            have := playS_len (initS xss) (acs.take j)
            rw [initS_len, H1.out.len, List.length_take] at this; omega
          have hRoom := Lib.hid (playS_room (initS_room HR.out) (fun a ha => HRA.out a (List.mem_of_mem_take ha)) : ∀ p, p ∈ playS (initS xss) (acs.take j) → Room p.1.length)
          have hra := HRA.out a (List.mem_of_getElem? ha)
          obtain ⟨PS, hPS⟩ : ∃ PS, PS = playS (initS xss) (acs.take j) := ⟨_, rfl⟩
          rw [← hPS] at hP hM hNext hRoom hL ⊢
          have HPS := Lib.hid hPS; clear hPS
          have kw : Below w.heap.size w wr := k1.out.trans (hBv.out.mono (by omega))
          obtain ⟨b, o, q, m, c', rfl, y0, y1, y2, y3, y4, hs, bi, bj, bb⟩ := (H2.out.keep kw).rs j a ha
          obtain ⟨d, i, jj, bt, bs⟩ := a
          simp only at y0 y1 y2 y3 y4 hs bi bj bb hra
          have i1 : (j : Int) < (n2 : Int) := by omega
          have hsz := Nat.le_trans s1.out hBv.out.size
          obtain ⟨W, hW⟩ : ∃ W, W = wr.alloc (.cells #[.int .i64 d, .int .i64 i, .int .i64 jj, .int .u32 bt, .slice q m c'] 176) := ⟨_, rfl⟩
          have hBW : Below wr.heap.size wr W := by rw [hW]; exact al (Below.refl _ _) (Nat.le_refl _)
          have x1 : W.heap[wr.heap.size]? = some (.cells #[.int .i64 d, .int .i64 i, .int .i64 jj, .int .u32 bt, .slice q m c'] 176 (0, 0)) := by rw [hW]; exact hnew rfl
          have hWs : W.heap.size = wr.heap.size + 1 := by rw [hW]; simp
          have SK : Hid (stepS PS ⟨d, i, jj, bt, bs⟩ = PS → PL W (w.heap.size + 1) (.slice uq (playS (initS xss) (acs.take (j + 1))).length uc) (playS (initS xss) (acs.take (j + 1))).length ss ∧ ss.map parIs = playS (initS xss) (acs.take (j + 1)) ∧ Below (w.heap.size + 1) w1 W ∧ PS.length = (playS (initS xss) (acs.take (j + 1))).length) := fun hst => by
            rw [hNext.out, hst]
            exact ⟨hP.out.keep hBW, hM.out, hBv.out.trans (hBW.mono hsz), rfl⟩
          have HS := Lib.hid hs; have HRA2 := Lib.hid hra; have HBW := Lib.hid hBW; have X1 := Lib.hid x1; have HA := Lib.hid ha
          clear hs hra hBW x1 ha
          by_cases hd0 : d < 0
          · have hst := SK.out (by unfold stepS; rw [if_pos (Or.inl hd0)])
            have HST := Lib.hid hst; clear hst
            go_wp2
            rw [← hW]
            go_roundw
            case rel => exact ⟨j + 1, ss, uq, uc, by omega, by go_num, by rw [HST.out.2.2.2], HST.out.1, HST.out.2.1, HST.out.2.2.1⟩
            case measure => simp [intOf]; omega
          · have hd0' : 0 ≤ d := by omega
            by_cases hd6 : 6 ≤ d
            · have hd6' : ¬ d < 0 := by omega
              have HST := Lib.hid (SK.out (by unfold stepS; rw [if_pos (Or.inr (Or.inl hd6))]))
              clear hd6' hd0
              go_wp2
              rw [← hW]
              go_roundw
              case rel => exact ⟨j + 1, ss, uq, uc, by omega, by go_num, by rw [HST.out.2.2.2], HST.out.1, HST.out.2.1, HST.out.2.2.1⟩
              case measure => simp [intOf]; omega
            · have hd6' : d < 6 := by omega
              by_cases hj0 : jj < 0
              · have HST := Lib.hid (SK.out (by unfold stepS; rw [if_pos (Or.inr (Or.inr hj0))]))
                clear hd0 hd6
                go_wp2
                rw [← hW]
                go_roundw
                case rel => exact ⟨j + 1, ss, uq, uc, by omega, by go_num, by rw [HST.out.2.2.2], HST.out.1, HST.out.2.1, HST.out.2.2.1⟩
                case measure => simp [intOf]; omega
              · have hj0' : 0 ≤ jj := by omega
                have hn3 : Hid (¬ (d < 0 ∨ 6 ≤ d ∨ jj < 0)) := by show ¬ _; omega
                clear hd0 hd6 hj0
                have hDW : Hid (W.heap[w.heap.size]? = some (.cells doesV 235 (0, 0))) := by
                  show _ = _
                  rw [HBW.out.block _ (by omega), hBv.out.block _ (by omega)]; exact hD.out
                have s0' : W.cell? ⟨wr.heap.size, 0, none⟩ = some (.int .i64 d) := cell_of_row _ _ 0 _ _ _ X1.out
                have s1' : W.cell? ⟨wr.heap.size, 1, none⟩ = some (.int .i64 i) := cell_of_row _ _ 1 _ _ _ X1.out
                have s2' : W.cell? ⟨wr.heap.size, 2, none⟩ = some (.int .i64 jj) := cell_of_row _ _ 2 _ _ _ X1.out
                have s3' : W.cell? ⟨wr.heap.size, 3, none⟩ = some (.int .u32 bt) := cell_of_row _ _ 3 _ _ _ X1.out
                have s4' : W.cell? ⟨wr.heap.size, 4, none⟩ = some (.slice q m c') := cell_of_row _ _ 4 _ _ _ X1.out
                have hPW : Hid (PL W.drew (w.heap.size + 1) (.slice uq PS.length uc) PS.length ss) := (hP.out.keep HBW.out).keep (Below.refl _ _).drew
                have hSW : Hid (Sl B8 W.drew q m c' bs) := (HS.out.keep HBW.out).keep (Below.refl _ _).drew
                have hbW : Hid (w.heap.size + 1 ≤ W.drew.heap.size) := by show _ ≤ W.heap.size; omega
                have hml : Hid (bs.length = m) := HS.out.len
                by_cases h5 : d = 5
                · subst h5
                  have hst : stepS PS ⟨5, i, jj, bt, bs⟩ = PS ++ [(bs, -1)] := by unfold stepS; rw [if_neg hn3.out, if_pos rfl]
                  have C : Hid (Calls Tryz.prog 149 #[actV 5 i jj bt (.slice q m c'), .slice uq PS.length uc] W.drew (RetP (w.heap.size + 1) W.drew (playS (initS xss) (acs.take (j + 1))))) := by
                    rw [hNext.out, hst]
                    have := forge_any (w.heap.size + 1) PS.length m c' (.slice uq PS.length uc) ss 5 i jj bt q bs W.drew hPW.out hbW.out hSW.out (by rw [← hml.out]; exact HRA2.out) hL
                    rw [hM.out] at this
                    exact this
                  have dd : W.cell? ⟨w.heap.size, 5, none⟩ = some (.func (.func 149) #[] #[]) := cell_of_row _ _ 5 _ _ _ hDW.out
                  have HC := Lib.hid C.out; clear C hst
                  go_wp2_with fail
                  rw [← hW]
                  clear hW
                  go_region_with (go_at_call 149; refine Calls.mono HC.out ?_; rintro e w3 ⟨u', ss', rfl, hP', hS', hB'⟩; obtain ⟨uq', uc', rfl⟩ := Pl.shape hP'; have HP' := Lib.hid hP'; have HS' := Lib.hid hS'; have HB' := Lib.hid hB'; clear hP' hS' hB')
                  all_goals go_wp2
                  all_goals go_roundw
                  all_goals first
                    | exact ⟨j + 1, ss', uq', uc', by omega, by go_num, rfl, HP'.out, HS'.out, hBv.out.trans ((bdn (n := 1) (HBW.out.mono hsz)).trans (HB'.out))⟩
                    | (simp [intOf]; omega)
                · have h5b : (d != 5) = true := by simpa using h5
                  by_cases hi0 : i < 0
                  · have HST := Lib.hid (SK.out (by unfold stepS; rw [if_neg hn3.out, if_neg h5]; split; rfl; rw [if_pos hi0]))
                    clear h5
                    go_wp2
                    rw [← hW]
                    go_roundw
                    case rel => exact ⟨j + 1, ss, uq, uc, by omega, by go_num, by rw [HST.out.2.2.2], HST.out.1, HST.out.2.1, HST.out.2.2.1⟩
                    case measure => simp [intOf]; omega
                  · by_cases him : (PS.length : Int) ≤ i
                    · have HST := Lib.hid (SK.out (by unfold stepS; rw [if_neg hn3.out, if_neg h5, List.getElem?_eq_none (show PS.length ≤ i.toNat by omega)]))
                      have hi0' : 0 ≤ i := by omega
                      clear h5 hi0
                      go_wp2
                      rw [← hW]
                      go_roundw
                      case rel => exact ⟨j + 1, ss, uq, uc, by omega, by go_num, by rw [HST.out.2.2.2], HST.out.1, HST.out.2.1, HST.out.2.2.1⟩
                      case measure => simp [intOf]; omega
                    · obtain ⟨i0, rfl⟩ := Int.eq_ofNat_of_zero_le (show 0 ≤ i by omega)
                      obtain ⟨j0, rfl⟩ := Int.eq_ofNat_of_zero_le hj0'
                      have him' : (i0 : Int) < (PS.length : Int) := by omega
                      have hil : i0 < ss.length := by rw [hP.out.len]; omega
                      obtain ⟨t, ht⟩ : ∃ t, ss[i0]? = some t := ⟨_, List.getElem?_eq_getElem hil⟩
                      have htp : PS[i0]? = some (parIs t) := by rw [← hM.out, List.getElem?_map, ht]; rfl
                      have hrt := hRoom.out _ (List.mem_of_getElem? htp)
                      have hst0 : Hid (∀ d, d ≠ 5 → 0 ≤ d → d < 6 → stepS PS ⟨d, i0, j0, bt, bs⟩ = if d = 0 then dropAt PS i0 else if d = 1 then PS ++ [parIs t] else if d = 2 then putAtP (dropAt PS i0) (min j0 (PS.length - 1)) (parIs t) else if d = 3 then PS.set i0 (cutP (parIs t) j0) else PS.set i0 (maskP (parIs t) bt j0)) := fun d h5 h0 h6 => by
                        unfold stepS; rw [if_neg (by show ¬ (d < 0 ∨ 6 ≤ d ∨ (j0 : Int) < 0); omega), if_neg h5]; simp only [Int.toNat_natCast, htp]; rw [if_neg (by omega)]
                      have HT := Lib.hid ht; have HRT : Hid (Room t.2.2.length) := hrt
                      have bj' := Lib.hid (show j0 ≤ 9223372036854775807 by omega)
                      clear ht htp hrt hil him hi0
                      have hd5 : d = 0 ∨ d = 1 ∨ d = 2 ∨ d = 3 ∨ d = 4 := by omega
                      clear h5
                      rcases hd5 with rfl | rfl | rfl | rfl | rfl
                      · have hst : stepS PS ⟨0, i0, j0, bt, bs⟩ = dropAt PS i0 := hst0.out 0 (by decide) (by decide) (by decide)
                        have C : Hid (Calls Tryz.prog 144 #[actV 0 i0 j0 bt (.slice q m c'), .slice uq PS.length uc] W.drew (RetP (w.heap.size + 1) W.drew (playS (initS xss) (acs.take (j + 1))))) := by
                          rw [hNext.out, hst]
                          have := drop_any (w.heap.size + 1) PS.length i0 (.slice uq PS.length uc) ss 0 j0 bt (.slice q m c') W.drew hPW.out (by omega) hbW.out
                          rw [hM.out] at this
                          exact this
                        have dd : W.cell? ⟨w.heap.size, 0, none⟩ = some (.func (.func 144) #[] #[]) := cell_of_row _ _ 0 _ _ _ hDW.out
                        have HC := Lib.hid C.out; clear C hst
                        go_wp2_with fail
                        rw [← hW]
                        clear hW
                        go_region_with (go_at_call 144; refine Calls.mono HC.out ?_; rintro e w3 ⟨u', ss', rfl, hP', hS', hB'⟩; obtain ⟨uq', uc', rfl⟩ := Pl.shape hP'; have HP' := Lib.hid hP'; have HS' := Lib.hid hS'; have HB' := Lib.hid hB'; clear hP' hS' hB')
                        all_goals go_wp2
                        all_goals go_roundw
                        all_goals first
                          | exact ⟨j + 1, ss', uq', uc', by omega, by go_num, rfl, HP'.out, HS'.out, hBv.out.trans ((bdn (n := 1) (HBW.out.mono hsz)).trans (HB'.out))⟩
                          | (simp [intOf]; omega)
                      · have hst : stepS PS ⟨1, i0, j0, bt, bs⟩ = PS ++ [parIs t] := hst0.out 1 (by decide) (by decide) (by decide)
                        have C : Hid (Calls Tryz.prog 145 #[actV 1 i0 j0 bt (.slice q m c'), .slice uq PS.length uc] W.drew (RetP (w.heap.size + 1) W.drew (playS (initS xss) (acs.take (j + 1))))) := by
                          rw [hNext.out, hst]
                          have := double_any (w.heap.size + 1) PS.length i0 j0 (.slice uq PS.length uc) ss t 1 bt (.slice q m c') W.drew hPW.out HT.out hbW.out HRT.out hL
                          rw [hM.out] at this
                          exact this
                        have dd : W.cell? ⟨w.heap.size, 1, none⟩ = some (.func (.func 145) #[] #[]) := cell_of_row _ _ 1 _ _ _ hDW.out
                        have HC := Lib.hid C.out; clear C hst
                        go_wp2_with fail
                        rw [← hW]
                        clear hW
                        go_region_with (go_at_call 145; refine Calls.mono HC.out ?_; rintro e w3 ⟨u', ss', rfl, hP', hS', hB'⟩; obtain ⟨uq', uc', rfl⟩ := Pl.shape hP'; have HP' := Lib.hid hP'; have HS' := Lib.hid hS'; have HB' := Lib.hid hB'; clear hP' hS' hB')
                        all_goals go_wp2
                        all_goals go_roundw
                        all_goals first
                          | exact ⟨j + 1, ss', uq', uc', by omega, by go_num, rfl, HP'.out, HS'.out, hBv.out.trans ((bdn (n := 1) (HBW.out.mono hsz)).trans (HB'.out))⟩
                          | (simp [intOf]; omega)
                      · have hst : stepS PS ⟨2, i0, j0, bt, bs⟩ = putAtP (dropAt PS i0) (min j0 (PS.length - 1)) (parIs t) := hst0.out 2 (by decide) (by decide) (by decide)
                        have C : Hid (Calls Tryz.prog 146 #[actV 2 i0 j0 bt (.slice q m c'), .slice uq PS.length uc] W.drew (RetP (w.heap.size + 1) W.drew (playS (initS xss) (acs.take (j + 1))))) := by
                          rw [hNext.out, hst]
                          have := move_any (w.heap.size + 1) PS.length i0 j0 (.slice uq PS.length uc) ss t 2 bt (.slice q m c') W.drew hPW.out HT.out hbW.out bj'.out
                          rw [hM.out] at this
                          exact this
                        have dd : W.cell? ⟨w.heap.size, 2, none⟩ = some (.func (.func 146) #[] #[]) := cell_of_row _ _ 2 _ _ _ hDW.out
                        have HC := Lib.hid C.out; clear C hst
                        go_wp2_with fail
                        rw [← hW]
                        clear hW
                        go_region_with (go_at_call 146; refine Calls.mono HC.out ?_; rintro e w3 ⟨u', ss', rfl, hP', hS', hB'⟩; obtain ⟨uq', uc', rfl⟩ := Pl.shape hP'; have HP' := Lib.hid hP'; have HS' := Lib.hid hS'; have HB' := Lib.hid hB'; clear hP' hS' hB')
                        all_goals go_wp2
                        all_goals go_roundw
                        all_goals first
                          | exact ⟨j + 1, ss', uq', uc', by omega, by go_num, rfl, HP'.out, HS'.out, hBv.out.trans ((bdn (n := 1) (HBW.out.mono hsz)).trans (HB'.out))⟩
                          | (simp [intOf]; omega)
                      · have hst : stepS PS ⟨3, i0, j0, bt, bs⟩ = PS.set i0 (cutP (parIs t) j0) := hst0.out 3 (by decide) (by decide) (by decide)
                        have C : Hid (Calls Tryz.prog 147 #[actV 3 i0 j0 bt (.slice q m c'), .slice uq PS.length uc] W.drew (RetP (w.heap.size + 1) W.drew (playS (initS xss) (acs.take (j + 1))))) := by
                          rw [hNext.out, hst]
                          have := cut_any (w.heap.size + 1) PS.length i0 j0 (.slice uq PS.length uc) ss t 3 bt (.slice q m c') W.drew hPW.out HT.out hbW.out HRT.out bj'.out
                          rw [hM.out] at this
                          exact this
                        have dd : W.cell? ⟨w.heap.size, 3, none⟩ = some (.func (.func 147) #[] #[]) := cell_of_row _ _ 3 _ _ _ hDW.out
                        have HC := Lib.hid C.out; clear C hst
                        go_wp2_with fail
                        rw [← hW]
                        clear hW
                        go_region_with (go_at_call 147; refine Calls.mono HC.out ?_; rintro e w3 ⟨u', ss', rfl, hP', hS', hB'⟩; obtain ⟨uq', uc', rfl⟩ := Pl.shape hP'; have HP' := Lib.hid hP'; have HS' := Lib.hid hS'; have HB' := Lib.hid hB'; clear hP' hS' hB')
                        all_goals go_wp2
                        all_goals go_roundw
                        all_goals first
                          | exact ⟨j + 1, ss', uq', uc', by omega, by go_num, rfl, HP'.out, HS'.out, hBv.out.trans ((bdn (n := 1) (HBW.out.mono hsz)).trans (HB'.out))⟩
                          | (simp [intOf]; omega)
                      · have hst : stepS PS ⟨4, i0, j0, bt, bs⟩ = PS.set i0 (maskP (parIs t) bt j0) := hst0.out 4 (by decide) (by decide) (by decide)
                        have C : Hid (Calls Tryz.prog 148 #[actV 4 i0 j0 bt (.slice q m c'), .slice uq PS.length uc] W.drew (RetP (w.heap.size + 1) W.drew (playS (initS xss) (acs.take (j + 1))))) := by
                          rw [hNext.out, hst]
                          have := mask_any (w.heap.size + 1) PS.length i0 j0 bt (.slice uq PS.length uc) ss t 4 (.slice q m c') W.drew hPW.out HT.out hbW.out HRT.out bj'.out bb
                          rw [hM.out] at this
                          exact this
                        have dd : W.cell? ⟨w.heap.size, 4, none⟩ = some (.func (.func 148) #[] #[]) := cell_of_row _ _ 4 _ _ _ hDW.out
                        have HC := Lib.hid C.out; clear C hst
                        go_wp2_with fail
                        rw [← hW]
                        clear hW
                        go_region_with (go_at_call 148; refine Calls.mono HC.out ?_; rintro e w3 ⟨u', ss', rfl, hP', hS', hB'⟩; obtain ⟨uq', uc', rfl⟩ := Pl.shape hP'; have HP' := Lib.hid hP'; have HS' := Lib.hid hS'; have HB' := Lib.hid hB'; clear hP' hS' hB')
                        all_goals go_wp2
                        all_goals go_roundw
                        all_goals first
                          | exact ⟨j + 1, ss', uq', uc', by omega, by go_num, rfl, HP'.out, HS'.out, hBv.out.trans ((bdn (n := 1) (HBW.out.mono hsz)).trans (HB'.out))⟩
                          | (simp [intOf]; omega)
        · have hjk : j = n2 := by omega
          subst hjk
          have e : acs.take j = acs := List.take_of_length_le (by rw [H2.out.len]; omega)
          rw [e] at hP hM ⊢
          go_wp2
          go_ret
          exact RetP.of (Pl.mono hP.out (by omega)) (k1.out.trans (hBv.out.mono (by omega))) hM.out
end Go.Proofs.YtfbmdlfkipipfaaGreatDoor
namespace Go.Proofs.YtfbmdlfkipipfaaGreatDoor
open Go.RowKit Go.By
theorem info_rowsA : (Tryz.prog.info? 22).map (fun i => (i.zero, i.size, i.bytes)) = some (some (.slice none 0 0), 1, 24) := by kernel_rfl
theorem info_int : (Tryz.prog.info? 3).map (fun i => (i.zero, i.size, i.bytes)) = some (some (.int .i64 0), 1, 8) := by kernel_rfl
theorem ne_types2 : (5 : Nat) ≠ 22 := by decide
/-- rows in new memory -/
def RetRows (w : World) (xss : List (List UInt8)) (e : Ending) (w' : World) : Prop :=
  ∃ q c, e = .returned (.slice q xss.length c) ∧ Own2 22 5 w' w.heap.size (.slice q xss.length c) xss.length xss ∧ Below w.heap.size w w'
/-- ints in new memory -/
def RetInts (w : World) (ks : List Int) (e : Ending) (w' : World) : Prop :=
  ∃ q c, e = .returned (.slice q ks.length c) ∧ w'.ownsRow w.heap.size 3 1 (.slice q ks.length c) ks.length (ks.map (Value.int .i64)) ∧ Below w.heap.size w w'
theorem take_map_snoc {α β : Type} (f : α → β) {ts : List α} {k : Nat} {t : α} (h : ts[k]? = some t) : (ts.take (k + 1)).map f = (ts.take k).map f ++ [f t] := by
  obtain ⟨hk, e⟩ := List.getElem?_eq_some_iff.1 h
  rw [List.take_succ_eq_append_getElem hk, e, List.map_append]; rfl
set_option maxRecDepth 100000 in
set_option maxHeartbeats 2000000 in
theorem Apply_any (p1 p2 : Option Addr) (n1 c1 n2 c2 : Nat) (xss : List (List UInt8)) (acs : List ActD) (w : World) (h1 : Sl2 w p1 n1 c1 xss) (h2 : SlA w p2 n2 c2 acs) (hr : ∀ xs, xs ∈ xss → Room xs.length) (hra : ∀ a, a ∈ acs → Room a.bs.length) (hlen : n1 + n2 < 4096) :
    Calls Tryz.prog 40 #[.slice p1 n1 c1, .slice p2 n2 c2] w (RetRows w ((playS (initS xss) acs).map (·.1))) := by
  obtain ⟨i0, hi0, hz0, hz1, hz2⟩ := info_parts info_rowsA
  have HC := Lib.hid (play_any p1 p2 n1 c1 n2 c2 xss acs w h1 h2 hr hra hlen)
  have HL : Hid ((playS (initS xss) acs).length < 4096) := by
    have := playS_len (initS xss) acs
    rw [initS_len, h1.len, h2.len] at this; show _ < _; omega
  clear h1 h2 hr hra hlen
  generalize playS (initS xss) acs = PS at *
  go_enter Tryz.func40, Tryz.ntmps40
  go_wp2_with fail
  refine Calls.mono HC.out ?_; rintro e w1 ⟨u, ss, rfl, hP, hS, hB⟩
  obtain ⟨q, c, rfl⟩ := Pl.shape hP
  have HP := Lib.hid hP; have HS := Lib.hid hS; have HB := Lib.hid hB
  have hl4 := HL.out
  have hsl : Hid (ss.length = PS.length) := hP.len
  clear hP hS hB
  obtain ⟨n, hn⟩ : ∃ n, n = PS.length := ⟨_, rfl⟩
  rw [← hn] at HP hl4 hsl ⊢
  have HN := Lib.hid hn; clear hn
  go_wp2
  go_loopw [5, 12] (fun v i wr => ∃ (k : Nat) (vs : List Value) (uq : Option Addr) (uc : Nat), k ≤ n ∧ i = .int .i64 k ∧ v = .slice uq k uc ∧ Hid (wr.ownsRow w.heap.size 22 1 (.slice uq k uc) k vs) ∧ Hid (vs = (ss.take k).map (·.1)) ∧ Hid (Below w.heap.size w wr) ∧
    Hid (PL wr w.heap.size (.slice q n c) n ss)) (fun _ i _ => n - (intOf i).toNat)
  case atStart => exact ⟨0, [], none, 0, Nat.zero_le _, rfl, rfl, World.ownsRow_nil _ _ _ _, rfl, HB.out, HP.out⟩
  case round =>
    obtain ⟨k, vs, uq, uc, hk, rfl, rfl, hO, hV, hBw, hPw⟩ := hrel
    by_cases hlt : k < n
    · obtain ⟨t, ht⟩ : ∃ t, ss[k]? = some t := ⟨_, List.getElem?_eq_getElem (by rw [hsl.out]; exact hlt)⟩
      obtain ⟨g, cur, rfl, hg, -⟩ := owns2_open hPw.out.own (by omega)
      obtain ⟨y0, y1⟩ := par_cells hPw.out ht
      obtain ⟨q1, m1, c1', e1, hrow⟩ := hPw.out.row t (List.mem_of_getElem? ht)
      rw [e1] at y0
      have i1 : (k : Int) < (n : Int) := by omega
      have hsz := hBw.out.size
      have hVS := Lib.hid (take_map_snoc (·.1) ht)
      have HE1 := Lib.hid e1
      clear e1 hrow ht
      have hOA : Hid (∀ o1 o2, ((wr.alloc o1).alloc o2).ownsRow w.heap.size 22 1 (.slice uq k uc) k vs) := fun o1 o2 => owns_keep hO.out (al (al (Below.refl _ _) (Nat.le_refl _)) (by simp))
      go_wp2_with (at_builtin; refine wpList_append_own _ rfl _ _ 31 rfl w.heap.size 22 i0 (.slice none 0 0) 1 24 Tryz.underlying31 hi0 hz0 hz1 hz2 rfl (by omega) _ k vs rfl (hOA.out _ _) ⟨wr.heap.size + 1, 0, none⟩ 1 1 [.slice q1 m1 c1'] rfl rfl ?c1 ?c2 ?c3 ?c4 ?c5 ?_)
      case c1 =>
        intro j x hj
        rw [Addr.add_lit, Nat.zero_add, cell_of_row _ _ j _ _ _ (hnew (by simp))]
        match j with
        | 0 => simpa using hj
        | j + 1 => simp at hj
      case c2 => intro x hx; simp at hx; subst hx; rfl
      case c3 => unfold maxLen; omega
      case c4 => omega
      case c5 => simp; omega
      intro v' w' ho' hg' _
      obtain ⟨uq', uc', rfl⟩ := owns_shape ho'
      have FIN : Hid (Below w.heap.size w w' ∧ PL w' w.heap.size (.slice (some ⟨g, 0, none⟩) n c) n ss) := by
        have hb2 := fun o1 o2 => al (o := o2) (al (o := o1) (Below.refl wr.heap.size wr) (Nat.le_refl _)) (by simp)
        refine ⟨(hBw.out.trans ((hb2 _ _).mono hsz)).grown hg' (by simp; omega) (fun r hr => (hO.out.lt r hr).1), ?_⟩
        have hpk := hPw.out.keep (hb2 (.cells #[.slice q1 m1 c1', .int .i64 t.2.1] 174) (.cells #[.slice q1 m1 c1'] 22))
        refine ⟨hpk.len, owns_kept hpk.own hg' (owns_ne hpk.own (hOA.out _ _) (by decide)), fun s hs => ?_, hpk.dis⟩
        obtain ⟨q3, m3, c3, e3, hr3⟩ := hpk.row s hs
        exact ⟨q3, m3, c3, e3, owns_kept hr3 hg' (owns_ne hr3 (hOA.out _ _) ne_types2)⟩
      have HO' := Lib.hid ho'
      clear ho' hg'
      go_wp2
      go_roundw
      case rel => exact ⟨k + 1, _, uq', uc', by omega, by go_num, rfl, HO'.out, by rw [Hid, hVS.out, hV.out, HE1.out], FIN.out.1, FIN.out.2⟩
      case measure => simp [intOf]; omega
    · have hkn : k = n := by omega
      subst hkn
      have hfin : Hid (RetRows w (PS.map (·.1)) (.returned (.slice uq k uc)) wr) := by
        have hl : (PS.map (·.1)).length = k := by rw [List.length_map, HN.out]
        refine ⟨uq, uc, by rw [hl], ?_, hBw.out⟩
        rw [hl]
        refine ⟨vs, hO.out, hl, fun jx val hj => ?_⟩
        rw [hV.out, List.getElem?_map, List.getElem?_take] at hj
        split at hj
        · cases ht : ss[jx]? with
          | none => rw [ht] at hj; simp at hj
          | some t =>
            rw [ht] at hj
            simp at hj
            obtain ⟨q3, m3, c3, e3, hr3⟩ := hPw.out.row t (List.mem_of_getElem? ht)
            have hm3 : m3 = t.2.2.length := by have := hr3.1; simp at this; exact this.symm
            subst hm3
            refine ⟨t.2.2, q3, c3, ?_, by rw [← hj, e3], hr3⟩
            rw [← HS.out, List.map_map, List.getElem?_map, ht]; rfl
        · simp at hj
      go_wp2
      go_ret
      exact hfin.out
end Go.Proofs.YtfbmdlfkipipfaaGreatDoor
