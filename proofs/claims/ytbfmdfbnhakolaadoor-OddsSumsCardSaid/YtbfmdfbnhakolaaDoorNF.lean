/- How many bytes a number needs; trimmed bytes: plain laws. -/
import Derived.Test.YtbfmdfbnhakolaaDoorNE
import Derived.Lib.ItoaNum
namespace Go.By
theorem digs_len {b n L : Nat} (hb : 2 ≤ b) (h1 : b ^ L ≤ n) (h2 : n < b ^ (L + 1)) : (digs b n).length = L + 1 := by
  have hu := (lowD_pad hb (L + 1) n h2).2
  have hl := valD_lt hb (digs b n) (digs_lt hb n)
  rw [valD_digs hb] at hl
  have : L < (digs b n).length := (Nat.pow_lt_pow_iff_right (by omega : 1 < b)).1 (Nat.lt_of_le_of_lt h1 hl)
  omega
/-- the bytes of a word -/
theorem digs_bitLen {x : Nat} (hx : x ≠ 0) (h : x < 18446744073709551616) : (digs 256 x).length = (Lib.bitLen x + 7) / 8 ∧ 1 ≤ Lib.bitLen x ∧ Lib.bitLen x ≤ 64 := by
  obtain ⟨h1, h2, h3⟩ := Lib.bitLenAux_bounds 64 x (by simpa using h) hx
  have h4 : Lib.bitLen x ≤ 64 := Lib.bitLen_le x 64 (by decide) (by simpa using h)
  have h1 : 1 ≤ Lib.bitLen x := h1
  have h2 : 2 ^ (Lib.bitLen x - 1) ≤ x := h2
  have h3 : x < 2 ^ Lib.bitLen x := h3
  refine ⟨?_, h1, h4⟩
  obtain ⟨m, hm⟩ : ∃ m, Lib.bitLen x = m := ⟨_, rfl⟩
  rw [hm] at h1 h2 h3 h4 ⊢
  have e : (m + 7) / 8 = (m - 1) / 8 + 1 := by omega
  rw [e]
  have p : ∀ k, (256 : Nat) ^ k = 2 ^ (8 * k) := fun k => by rw [show (256 : Nat) = 2 ^ 8 from rfl, ← Nat.pow_mul]
  refine digs_len (by decide) ?_ ?_
  · rw [p]; exact Nat.le_trans (Nat.pow_le_pow_right (by decide) (by omega)) h2
  · rw [p]; exact Nat.lt_of_lt_of_le h3 (Nat.pow_le_pow_right (by decide) (by omega))
theorem digs_len_bounds {b n : Nat} (hb : 2 ≤ b) (hn : 0 < n) : ∃ L, (digs b n).length = L + 1 ∧ b ^ L ≤ n ∧ n < b ^ (L + 1) := by
  have hl := valD_lt hb (digs b n) (digs_lt hb n)
  rw [valD_digs hb] at hl
  obtain ⟨L, hL⟩ : ∃ L, (digs b n).length = L + 1 := ⟨(digs b n).length - 1, by rw [digs_pos hb hn]; simp⟩
  rw [hL] at hl
  refine ⟨L, hL, ?_, hl⟩
  rcases Nat.lt_or_ge n (b ^ L) with h | h
  · have := (lowD_pad hb L n h).2; omega
  · exact h
/-- how many bytes a number of words needs -/
theorem normW_bytes {ws : List UInt64} {k : Nat} {x : UInt64} (h : NormW ws) (hk : ws.length = k + 1) (hx : ws[k]? = some x) : (digs 256 (valW ws)).length = k * 8 + (Lib.bitLen x.toNat + 7) / 8 ∧ 1 ≤ Lib.bitLen x.toNat ∧ Lib.bitLen x.toNat ≤ 64 := by
  have hx0 : x.toNat ≠ 0 := fun e => by
    have : x = 0 := UInt64.toNat_inj.1 (by simpa using e)
    apply h
    rw [List.getLast?_eq_getElem?, hk, Nat.add_sub_cancel, hx, this]
  have hx64 : x.toNat < 18446744073709551616 := x.toNat_lt
  obtain ⟨e, h1, h2⟩ := digs_bitLen hx0 hx64
  refine ⟨?_, h1, h2⟩
  obtain ⟨L, hL, g1, g2⟩ := digs_len_bounds (b := 256) (by decide) (Nat.pos_of_ne_zero hx0)
  rw [← e, hL]
  have hv : valW ws = valD 18446744073709551616 ((ws.map UInt64.toNat).take k) + 18446744073709551616 ^ k * x.toNat := by
    have := valD_take (b := 18446744073709551616) (i := k) (xs := ws.map UInt64.toNat) (x := x.toNat) (by rw [List.getElem?_map, hx]; rfl)
    rw [← this, List.take_of_length_le (by rw [List.length_map]; omega)]; rfl
  have hlow : valD 18446744073709551616 ((ws.map UInt64.toNat).take k) < 18446744073709551616 ^ k := by
    have := valD_lt (b := 18446744073709551616) (by decide) ((ws.map UInt64.toNat).take k) (fun y hy => words_lt ws y (List.mem_of_mem_take hy))
    rwa [List.length_take, List.length_map, Nat.min_eq_left (by omega)] at this
  have p : (18446744073709551616 : Nat) ^ k = 256 ^ (8 * k) := by rw [show (18446744073709551616 : Nat) = 256 ^ 8 from rfl, ← Nat.pow_mul]
  rw [p] at hv hlow
  obtain ⟨V, hV⟩ : ∃ V, V = valD 18446744073709551616 ((ws.map UInt64.toNat).take k) := ⟨_, rfl⟩
  rw [← hV] at hv hlow
  rw [hv, show k * 8 + (L + 1) = (8 * k + L) + 1 by omega]
  refine digs_len (by decide) ?_ ?_
  · rw [Nat.pow_add]
    have := Nat.mul_le_mul_left (256 ^ (8 * k)) g1
    omega
  · rw [show 8 * k + L + 1 = 8 * k + (L + 1) by omega, Nat.pow_add]
    have : 256 ^ (8 * k) * (x.toNat + 1) ≤ 256 ^ (8 * k) * 256 ^ (L + 1) := Nat.mul_le_mul_left _ g2
    rw [Nat.mul_add] at this
    omega
/-- a number's bytes, the lowest first, the last not 0 -/
def bytesN (N : Nat) : List UInt8 := (digs 256 N).map UInt8.ofNat
theorem bytesN_toNat (N : Nat) : (bytesN N).map UInt8.toNat = digs 256 N := by
  unfold bytesN
  rw [List.map_map]
  have : (digs 256 N).map (UInt8.toNat ∘ UInt8.ofNat) = (digs 256 N).map id := List.map_congr_left fun d hd => by
    have := digs_lt (b := 256) (by decide) N d hd
    show (UInt8.ofNat d).toNat = d
    simp; omega
  rw [this, List.map_id]
theorem valB_bytesN (N : Nat) : valB (bytesN N) = N := by unfold valB; rw [bytesN_toNat, valD_digs (by decide)]
theorem bytesN_len (N : Nat) : (bytesN N).length = (digs 256 N).length := by unfold bytesN; rw [List.length_map]
theorem bytesN_zero : bytesN 0 = [] := by unfold bytesN; rw [digs_zero]; rfl
theorem bytesN_inj {M N : Nat} (h : bytesN M = bytesN N) : M = N := by rw [← valB_bytesN M, h, valB_bytesN]
/-- bytes whose last isn't 0 are those of their number -/
theorem bytesN_valB {bs : List UInt8} (h : bs.getLast? ≠ some 0) : bytesN (valB bs) = bs := by
  have e : digs 256 (valB bs) = bs.map UInt8.toNat := digs_valD (by decide) _ (bytes_lt bs) (by
    rw [List.getLast?_map]
    cases e : bs.getLast? with
    | none => simp
    | some x =>
      intro hx
      have : x.toNat = 0 := by simpa using hx
      have : x = 0 := UInt8.toNat_inj.1 (by simpa using this)
      exact h (by rw [e, this]))
  unfold bytesN
  rw [e, List.map_map]
  have : bs.map (UInt8.ofNat ∘ UInt8.toNat) = bs.map id := List.map_congr_left fun b _ => by simp
  rw [this, List.map_id]
theorem bytesN_last (N : Nat) : (bytesN N).getLast? ≠ some 0 := by
  intro h
  have := digs_last (b := 256) (by decide) N
  rw [← bytesN_toNat, List.getLast?_map, h] at this
  exact this rfl
/-- one more byte 0 behind is nothing -/
theorem valB_take_zero {bs : List UInt8} {k : Nat} {x : UInt8} (hx : bs[k]? = some x) (h0 : x.toNat = 0) : valB (bs.take (k + 1)) = valB (bs.take k) := by
  unfold valB
  rw [List.map_take, List.map_take, valD_take (x := 0) (by rw [List.getElem?_map, hx]; simp [h0])]; simp
theorem bytesN_take {bs : List UInt8} {k : Nat} {x : UInt8} (hx : bs[k]? = some x) (h0 : x.toNat ≠ 0) : bytesN (valB (bs.take (k + 1))) = bs.take (k + 1) := by
  refine bytesN_valB ?_
  rw [List.take_add_one, hx]
  simp only [Option.toList_some, List.getLast?_append, List.getLast?_singleton]
  intro h
  have : x = 0 := by simpa using h
  rw [this] at h0; exact h0 rfl
theorem valW_take_zero {ws : List UInt64} {k : Nat} {x : UInt64} (hx : ws[k]? = some x) (h0 : x.toNat = 0) : valW (ws.take (k + 1)) = valW (ws.take k) := by
  unfold valW
  rw [List.map_take, List.map_take, valD_take (x := 0) (by rw [List.getElem?_map, hx]; simp [h0])]; simp
theorem NormW_take {ws : List UInt64} {k : Nat} {x : UInt64} (hx : ws[k]? = some x) (h0 : x.toNat ≠ 0) : NormW (ws.take (k + 1)) := by
  show (ws.take (k + 1)).getLast? ≠ some 0
  rw [List.take_add_one, hx]
  simp only [Option.toList_some, List.getLast?_append, List.getLast?_singleton]
  intro h
  have : x = 0 := by simpa using h
  rw [this] at h0; exact h0 rfl
/-- so many words just where the number is so great -/
theorem NormW.big {ws : List UInt64} (h : NormW ws) {k : Nat} (hl : k < ws.length) : 18446744073709551616 ^ k ≤ valW ws := by
  rcases Nat.lt_or_ge (valW ws) (18446744073709551616 ^ k) with h1 | h1
  · have := h.len h1; omega
  · exact h1
end Go.By
