/- Numbers told by texts of base 16, by bytes, by words: plain laws. -/
import Derived.Test.YtbfmdfbnhakolaaDoorNC
namespace Go.By
/-- a letter's digit -/
def hexd (c : UInt8) : Nat := if c.toNat < 58 then c.toNat - 48 else c.toNat - 87
def isHex (c : UInt8) : Bool := decide (48 ≤ c.toNat ∧ c.toNat ≤ 57) || decide (97 ≤ c.toNat ∧ c.toNat ≤ 102)
theorem hexd_lt {c : UInt8} (h : isHex c = true) : hexd c < 16 := by
  unfold isHex at h
  rw [Bool.or_eq_true, decide_eq_true_eq, decide_eq_true_eq] at h
  unfold hexd; split <;> omega
theorem hexd_hexc {d : Nat} (h : d < 16) : hexd (hexc d) = d ∧ isHex (hexc d) = true := by
  have : ∀ d : Fin 16, hexd (hexc d.val) = d.val ∧ isHex (hexc d.val) = true := by decide
  exact this ⟨d, h⟩
/-- the number of a text of base 16 -/
def valT (s : List UInt8) : Nat := valD 16 (s.reverse.map hexd)
theorem valT_append (s t : List UInt8) : valT (s ++ t) = valT t + 16 ^ t.length * valT s := by
  unfold valT
  rw [List.reverse_append, List.map_append, valD_append, List.length_map, List.length_reverse]
theorem valT_snoc (s : List UInt8) (c : UInt8) : valT (s ++ [c]) = hexd c + 16 * valT s := by
  rw [valT_append]
  show valD 16 [hexd c] + 16 ^ 1 * valT s = _
  show hexd c + 16 * 0 + _ = _
  rw [Nat.mul_zero, Nat.add_zero, Nat.pow_one]
theorem valT_lt {s : List UInt8} (h : ∀ c, c ∈ s → isHex c = true) : valT s < 16 ^ s.length := by
  have := valD_lt (b := 16) (by decide) (s.reverse.map hexd) (fun x hx => by
    obtain ⟨c, hc, rfl⟩ := List.mem_map.1 hx
    exact hexd_lt (h c (List.mem_reverse.1 hc)))
  rwa [List.length_map, List.length_reverse] at this
theorem hexText_hex (n : Nat) : ∀ c, c ∈ hexText n → isHex c = true := by
  intro c hc
  unfold hexText at hc
  split at hc
  · rw [List.mem_singleton] at hc; rw [hc]; decide
  · obtain ⟨d, hd, rfl⟩ := List.mem_map.1 hc
    exact (hexd_hexc (digs_lt (by decide) n d (List.mem_reverse.1 hd))).2
theorem valT_hexText (n : Nat) : valT (hexText n) = n := by
  unfold hexText
  split
  · rename_i h; subst h; rfl
  · unfold valT
    rw [← List.map_reverse, List.reverse_reverse, List.map_map]
    have : (digs 16 n).map (hexd ∘ hexc) = (digs 16 n).map id := List.map_congr_left fun d hd => (hexd_hexc (digs_lt (by decide) n d hd)).1
    rw [this, List.map_id, valD_digs (by decide)]
theorem hexText_ne (n : Nat) : hexText n ≠ [] := by
  unfold hexText
  split
  · simp
  · rename_i h
    rw [digs_pos (by decide) (by omega)]; simp
/-- a number's text begins with no nought, but for 0 itself -/
theorem hexText_head {n : Nat} {c : UInt8} {l : List UInt8} (h : hexText n = c :: l) : c ≠ 48 ∨ l = [] := by
  unfold hexText at h
  split at h
  · injection h with h1 h2; exact .inr h2.symm
  · rename_i hn
    left
    have hl := digs_last (b := 16) (by decide) n
    cases hr : (digs 16 n).reverse with
    | nil => rw [hr] at h; cases h
    | cons x m =>
      rw [hr, List.map_cons] at h
      injection h with h1 h2
      have hx : (digs 16 n).getLast? = some x := by rw [← List.head?_reverse, hr]; rfl
      have hx16 : x < 16 := digs_lt (by decide) n x (by have : x ∈ (digs 16 n).reverse := by rw [hr]; simp
                                                        exact List.mem_reverse.1 this)
      intro e
      rw [← h1] at e
      have := (hexc_zero hx16).1 e
      rw [hx, this] at hl; exact hl rfl
/-- how long a number's text is: a bound -/
theorem hexText_len {n k : Nat} (hk : 1 ≤ k) (h : n < 16 ^ k) : (hexText n).length ≤ k := (hex_pad hk h).2
/-- a text so built is its number's -/
theorem hexText_valT {s : List UInt8} (hne : s ≠ []) (h : ∀ c, c ∈ s → isHex c = true) (h0 : ∀ c l, s = c :: l → c ≠ 48 ∨ l = []) : hexText (valT s) = s := by
  have hc : ∀ c : UInt8, isHex c = true → hexc (hexd c) = c := by
    intro c
    have : ∀ x : Fin 256, isHex (UInt8.ofNat x.val) = true → hexc (hexd (UInt8.ofNat x.val)) = UInt8.ofNat x.val := by decide +kernel
    have h2 := this ⟨c.toNat, c.toNat_lt⟩
    simpa using h2
  have back : ∀ l : List UInt8, (∀ c, c ∈ l → isHex c = true) → (l.map hexd).map hexc = l := by
    intro l hl
    rw [List.map_map]
    have : l.map (hexc ∘ hexd) = l.map id := List.map_congr_left fun c hcl => hc c (hl c hcl)
    rw [this, List.map_id]
  have hall : ∀ x, x ∈ s.reverse.map hexd → x < 16 := fun x hx => by
    obtain ⟨c, hcs, rfl⟩ := List.mem_map.1 hx
    exact hexd_lt (h c (List.mem_reverse.1 hcs))
  have hst := strip_hex hall
  rw [← List.map_reverse, List.reverse_reverse, back s h] at hst
  show hexText (valD 16 (s.reverse.map hexd)) = s
  rw [← hst]
  cases s with
  | nil => exact absurd rfl hne
  | cons c l =>
    rcases h0 c l rfl with e | e
    · rw [strip0_head e, if_neg (by simp)]
    · subst e
      rw [show strip0 [c] = [c] from rfl, if_neg (by simp)]
/-- the number of bytes, of words -/
def valB (bs : List UInt8) : Nat := valD 256 (bs.map UInt8.toNat)
def valW (ws : List UInt64) : Nat := valD 18446744073709551616 (ws.map UInt64.toNat)
theorem bytes_lt (bs : List UInt8) : ∀ x, x ∈ bs.map UInt8.toNat → x < 256 := fun x hx => by
  obtain ⟨b, _, rfl⟩ := List.mem_map.1 hx
  exact b.toNat_lt
theorem words_lt (ws : List UInt64) : ∀ x, x ∈ ws.map UInt64.toNat → x < 18446744073709551616 := fun x hx => by
  obtain ⟨b, _, rfl⟩ := List.mem_map.1 hx
  exact b.toNat_lt
theorem valB_lt (bs : List UInt8) : valB bs < 256 ^ bs.length := by
  have := valD_lt (b := 256) (by decide) _ (bytes_lt bs)
  rwa [List.length_map] at this
theorem valW_lt (ws : List UInt64) : valW ws < 18446744073709551616 ^ ws.length := by
  have := valD_lt (b := 18446744073709551616) (by decide) _ (words_lt ws)
  rwa [List.length_map] at this
/-- words, the last not 0 -/
def NormW (ws : List UInt64) : Prop := ws.getLast? ≠ some 0
theorem NormW.digs {ws : List UInt64} (h : NormW ws) : digs 18446744073709551616 (valW ws) = ws.map UInt64.toNat :=
  digs_valD (by decide) _ (words_lt ws) (by
    rw [List.getLast?_map]
    cases e : ws.getLast? with
    | none => simp
    | some x =>
      intro hx
      have : x.toNat = 0 := by simpa using hx
      have : x = 0 := UInt64.toNat_inj.1 (by simpa using this)
      exact h (by rw [e, this]))
theorem NormW.inj {ws vs : List UInt64} (h : NormW ws) (g : NormW vs) (e : valW ws = valW vs) : ws = vs := by
  have h1 := h.digs
  rw [e, g.digs] at h1
  exact (map_inj (p := fun _ => True) (f := UInt64.toNat) (fun a b _ _ hab => UInt64.toNat_inj.1 hab) (fun _ _ => trivial) (fun _ _ => trivial) h1).symm
/-- words are so many just where the number is so great -/
theorem NormW.len {ws : List UInt64} (h : NormW ws) {k : Nat} (hv : valW ws < 18446744073709551616 ^ k) : ws.length ≤ k := by
  have h1 := congrArg List.length h.digs
  rw [List.length_map] at h1
  rw [← h1]
  exact (lowD_pad (b := 18446744073709551616) (by decide) k (valW ws) hv).2
end Go.By
