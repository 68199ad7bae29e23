/- Numbers as texts of base 16, and as trimmed bytes: plain laws. -/
import Derived.Test.YtbfmdfbnhakolaaDoorNB
namespace Go.By
/-- digits are those of their number, with noughts behind -/
theorem digs_trim {b : Nat} (hb : 2 ≤ b) : ∀ (n : Nat) (xs : List Nat), xs.length = n → (∀ x, x ∈ xs → x < b) → ∃ k, xs = digs b (valD b xs) ++ List.replicate k 0
  | 0, xs, hl, _ => by
    have : xs = [] := List.length_eq_zero_iff.1 hl
    subst this
    exact ⟨0, by simp [valD, digs_zero]⟩
  | n + 1, xs, hl, h => by
    have hne : xs ≠ [] := fun e => by rw [e] at hl; simp at hl
    obtain ⟨ys, y, rfl⟩ : ∃ ys y, xs = ys ++ [y] := ⟨xs.dropLast, xs.getLast hne, (List.dropLast_concat_getLast hne).symm⟩
    by_cases hy : y = 0
    · subst hy
      obtain ⟨k, e⟩ := digs_trim hb n ys (by simpa using hl) (fun x hx => h x (List.mem_append.2 (.inl hx)))
      refine ⟨k + 1, ?_⟩
      rw [valD_snoc, Nat.mul_zero, Nat.add_zero, List.replicate_succ', ← List.append_assoc, ← e]
    · exact ⟨0, by rw [digs_valD hb _ h (by simpa using hy)]; simp⟩
/-- a digit of base 16, as a letter -/
def hexc (d : Nat) : UInt8 := UInt8.ofNat (if d < 10 then 48 + d else 87 + d)
def hexText (n : Nat) : List UInt8 := if n = 0 then [48] else (digs 16 n).reverse.map hexc
theorem hexc_zero {d : Nat} (hd : d < 16) : hexc d = 48 ↔ d = 0 := by
  have : ∀ d : Fin 16, hexc d.val = 48 ↔ d.val = 0 := by decide
  exact this ⟨d, hd⟩
theorem hexc_inj {d e : Nat} (hd : d < 16) (he : e < 16) (h : hexc d = hexc e) : d = e := by
  have : ∀ d e : Fin 16, hexc d.val = hexc e.val → d.val = e.val := by decide
  exact this ⟨d, hd⟩ ⟨e, he⟩ h
theorem map_inj {α β : Type} {f : α → β} {p : α → Prop} (hf : ∀ a b, p a → p b → f a = f b → a = b) : ∀ {xs ys : List α}, (∀ x, x ∈ xs → p x) → (∀ y, y ∈ ys → p y) → xs.map f = ys.map f → xs = ys
  | [], [], _, _, _ => rfl
  | [], _ :: _, _, _, h => by simp at h
  | _ :: _, [], _, _, h => by simp at h
  | x :: xs, y :: ys, hx, hy, h => by
    rw [List.map_cons, List.map_cons] at h
    injection h with h1 h2
    rw [hf x y (hx x (by simp)) (hy y (by simp)) h1, map_inj hf (fun z hz => hx z (by simp [hz])) (fun z hz => hy z (by simp [hz])) h2]
theorem hexText_inj {m n : Nat} (h : hexText m = hexText n) : m = n := by
  have one : ∀ n : Nat, n ≠ 0 → hexText n ≠ [48] := fun n hn e => by
    unfold hexText at e
    rw [if_neg hn] at e
    have h1 := congrArg List.reverse e
    rw [List.map_reverse, List.reverse_reverse] at h1
    rw [digs_pos (by decide) (by omega)] at h1
    rw [List.map_cons] at h1
    injection h1 with h1 h2
    have h3 : n % 16 = 0 := (hexc_zero (Nat.mod_lt _ (by decide))).1 h1
    have h4 : digs 16 (n / 16) = [] := by simpa using h2
    have h5 := valD_digs (b := 16) (by decide) (n / 16)
    rw [h4] at h5
    have h6 : n / 16 = 0 := h5.symm
    omega
  by_cases hm : m = 0
  · by_cases hn : n = 0
    · rw [hm, hn]
    · exact absurd (by rw [← h, hm]; rfl) (one n hn)
  · by_cases hn : n = 0
    · exact absurd (by rw [h, hn]; rfl) (one m hm)
    · unfold hexText at h
      rw [if_neg hm, if_neg hn] at h
      have h1 := map_inj (p := fun d => d < 16) (fun a b ha hb e => hexc_inj ha hb e) (fun x hx => digs_lt (by decide) m x (List.mem_reverse.1 hx)) (fun x hx => digs_lt (by decide) n x (List.mem_reverse.1 hx)) h
      exact digs_inj (b := 16) (by decide) (by have h2 := congrArg List.reverse h1; rwa [List.reverse_reverse, List.reverse_reverse] at h2)
/-- a word more ahead of a number's text: sixteen letters -/
theorem hexText_join {k w n : Nat} (hw : w < 16 ^ k) (hn : 0 < n) : hexText (w + 16 ^ k * n) = hexText n ++ (lowD 16 k w).reverse.map hexc := by
  have h1 : w + 16 ^ k * n ≠ 0 := by have : 0 < 16 ^ k * n := Nat.mul_pos (Nat.pow_pos (by decide)) hn; omega
  unfold hexText
  rw [if_neg h1, if_neg (by omega), digs_join (by decide) k w n hw hn, List.reverse_append, List.map_append]
/-- .. a word's letters, with noughts ahead -/
theorem hex_pad {k w : Nat} (hk : 1 ≤ k) (hw : w < 16 ^ k) : (lowD 16 k w).reverse.map hexc = List.replicate (k - (hexText w).length) 48 ++ hexText w ∧ (hexText w).length ≤ k := by
  obtain ⟨e, hl⟩ := lowD_pad (b := 16) (by decide) k w hw
  by_cases h0 : w = 0
  · subst h0
    rw [lowD_zero]
    refine ⟨?_, by simpa [hexText] using hk⟩
    show _ = List.replicate (k - 1) 48 ++ [48]
    rw [List.reverse_replicate, List.map_replicate, ← List.replicate_succ', show k - 1 + 1 = k by omega]
    rfl
  · have hlen : (hexText w).length = (digs 16 w).length := by unfold hexText; rw [if_neg h0, List.length_map, List.length_reverse]
    refine ⟨?_, by rw [hlen]; exact hl⟩
    rw [hlen, e, List.reverse_append, List.map_append, List.reverse_replicate, List.map_replicate]
    unfold hexText
    rw [if_neg h0]; rfl
/-- noughts ahead struck, but for one letter -/
def strip0 : List UInt8 → List UInt8
  | [] => []
  | [x] => [x]
  | x :: y :: l => if x = 48 then strip0 (y :: l) else x :: y :: l
theorem strip0_head {x : UInt8} {l : List UInt8} (h : x ≠ 48) : strip0 (x :: l) = x :: l := by
  cases l with
  | nil => rfl
  | cons y l => unfold strip0; rw [if_neg h]
theorem strip0_zeros : ∀ (k : Nat) {x : UInt8} {l : List UInt8}, x ≠ 48 → strip0 (List.replicate k 48 ++ x :: l) = x :: l
  | 0, x, l, h => strip0_head h
  | k + 1, x, l, h => by
    have ih := strip0_zeros k (l := l) h
    rw [List.replicate_succ, List.cons_append]
    cases hk : List.replicate k 48 ++ x :: l with
    | nil => simp at hk
    | cons y m =>
      unfold strip0
      rw [if_pos rfl, ← hk]; exact ih
theorem strip0_all : ∀ k, strip0 (List.replicate (k + 1) 48) = [48]
  | 0 => rfl
  | k + 1 => by
    have ih := strip0_all k
    rw [List.replicate_succ]
    cases hk : List.replicate (k + 1) (48 : UInt8) with
    | nil => simp at hk
    | cons y m =>
      unfold strip0
      rw [if_pos rfl, ← hk]; exact ih
/-- the text of digits, whatever noughts they have behind -/
theorem strip_hex {xs : List Nat} (h : ∀ x, x ∈ xs → x < 16) : (if strip0 (xs.reverse.map hexc) = [] then [48] else strip0 (xs.reverse.map hexc)) = hexText (valD 16 xs) := by
  obtain ⟨k, e⟩ := digs_trim (b := 16) (by decide) _ xs rfl h
  obtain ⟨n, hn⟩ : ∃ n, n = valD 16 xs := ⟨_, rfl⟩
  rw [← hn] at e ⊢
  rw [e, List.reverse_append, List.reverse_replicate, List.map_append, List.map_replicate, show hexc 0 = 48 from rfl]
  by_cases h0 : n = 0
  · subst h0
    rw [digs_zero]
    cases k with
    | zero => simp [strip0, hexText]
    | succ k => simp [strip0_all, hexText]
  · have hl := digs_last (b := 16) (by decide) n
    cases hr : (digs 16 n).reverse with
    | nil =>
      have : digs 16 n = [] := by simpa using hr
      rw [digs_pos (by decide) (by omega)] at this; cases this
    | cons x l =>
      have hx : (digs 16 n).getLast? = some x := by rw [← List.head?_reverse, hr]; rfl
      have hx0 : x ≠ 0 := fun e => by rw [hx, e] at hl; exact hl rfl
      have hx16 : x < 16 := digs_lt (by decide) n x (by have : x ∈ (digs 16 n).reverse := by rw [hr]; simp
                                                        exact List.mem_reverse.1 this)
      rw [List.map_cons, strip0_zeros k (fun e => hx0 ((hexc_zero hx16).1 e))]
      rw [if_neg (by simp)]
      unfold hexText
      rw [if_neg h0, hr]; rfl
/-- bytes as half bytes -/
def nibs : List Nat → List Nat
  | [] => []
  | x :: xs => x % 16 :: x / 16 :: nibs xs
theorem valD_nibs : ∀ xs, valD 16 (nibs xs) = valD 256 xs
  | [] => rfl
  | x :: xs => by
    show x % 16 + 16 * (x / 16 + 16 * valD 16 (nibs xs)) = x + 256 * valD 256 xs
    rw [valD_nibs xs]; omega
theorem nibs_lt : ∀ {xs : List Nat}, (∀ x, x ∈ xs → x < 256) → ∀ y, y ∈ nibs xs → y < 16
  | [], _, y, h => by cases h
  | x :: xs, h, y, hy => by
    have hx := h x (by simp)
    have hy' : y = x % 16 ∨ y = x / 16 ∨ y ∈ nibs xs := by simpa [nibs] using hy
    rcases hy' with rfl | rfl | hy
    · omega
    · omega
    · exact nibs_lt (fun z hz => h z (by simp [hz])) y hy
end Go.By
