/- Plain: words between blanks, decimal numbers. No program in sight. -/
import Derived.Lib.SplitLaws
import Derived.Lib.ItoaNum
import Derived.Lib.Join
namespace Go.By
open Go.Lib
/-- the first word, and what is behind the sign -/
def cutW (c : UInt8) : List UInt8 → List UInt8 × Option (List UInt8)
  | [] => ([], none)
  | b :: l => if b = c then ([], some l) else (b :: (cutW c l).1, (cutW c l).2)
/-- the words, cut at k signs at most -/
def spl (c : UInt8) : Nat → List UInt8 → List (List UInt8)
  | 0, s => [s]
  | k + 1, s => match (cutW c s).2 with
    | none => [s]
    | some r => (cutW c s).1 :: spl c k r
theorem cutW_none {c : UInt8} : ∀ {s : List UInt8}, (cutW c s).2 = none → (cutW c s).1 = s ∧ index s [c] = -1
  | [], _ => ⟨rfl, by simp [index]⟩
  | b :: l, h => by
    unfold cutW at h ⊢
    by_cases hb : b = c
    · rw [if_pos hb] at h; simp at h
    · rw [if_neg hb] at h ⊢
      obtain ⟨e1, e2⟩ := cutW_none h
      refine ⟨by rw [e1], ?_⟩
      have hp : ([c] : List UInt8).isPrefixOf (b :: l) = false := by simp [List.isPrefixOf, Ne.symm hb]
      rw [index, hp, e2]; simp
theorem cutW_some {c : UInt8} : ∀ {s r : List UInt8}, (cutW c s).2 = some r → ∃ i : Nat, index s [c] = (i : Int) ∧ s.take i = (cutW c s).1 ∧ s.drop (i + 1) = r ∧ i < s.length
  | [], _, h => by simp [cutW] at h
  | b :: l, r, h => by
    unfold cutW at h ⊢
    by_cases hb : b = c
    · rw [if_pos hb] at h ⊢
      subst hb
      exact ⟨0, by rw [index]; simp [List.isPrefixOf], rfl, by simpa using h, by simp⟩
    · rw [if_neg hb] at h ⊢
      obtain ⟨i, e1, e2, e3, e4⟩ := cutW_some h
      have hp : ([c] : List UInt8).isPrefixOf (b :: l) = false := by simp [List.isPrefixOf, Ne.symm hb]
      have hi : ¬ ((i : Int) == -1) = true := fun e => by have := beq_iff_eq.1 e; omega
      refine ⟨i + 1, ?_, by rw [List.take_succ_cons, e2], by rw [List.drop_succ_cons, e3], by simp; omega⟩
      rw [index, hp, e1]
      rw [if_neg (by simp), if_neg hi]; rfl
theorem splitK_spl (c : UInt8) : ∀ (k : Nat) (s : List UInt8), splitK [c] 0 k s = spl c k s
  | 0, _ => rfl
  | k + 1, s => by
    unfold splitK spl
    cases h : (cutW c s).2 with
    | none =>
      have e := (cutW_none h).2
      rw [if_pos (by rw [e]; rfl)]
    | some r =>
      obtain ⟨i, e1, e2, e3, _⟩ := cutW_some h
      have hi : ¬ ((i : Int) == -1) = true := fun e => by have := beq_iff_eq.1 e; omega
      rw [e1, if_neg hi]
      show s.take (i + 0) :: splitK [c] 0 k (s.drop (i + 1)) = _
      rw [Nat.add_zero, e2, e3, splitK_spl c k r]
theorem cutW_len {c : UInt8} {s r : List UInt8} (h : (cutW c s).2 = some r) : r.length + 1 ≤ s.length := by
  obtain ⟨i, _, _, e3, e4⟩ := cutW_some h
  rw [← e3, List.length_drop]; omega
theorem spl_min (c : UInt8) : ∀ (k : Nat) (s : List UInt8), spl c k s = spl c (min k s.length) s
  | 0, s => by rw [Nat.zero_min]
  | k + 1, s => by
    by_cases h0 : s.length = 0
    · have : s = [] := List.length_eq_zero_iff.1 h0
      subst this; simp [spl, cutW]
    · obtain ⟨m, hm⟩ : ∃ m, s.length = m + 1 := ⟨s.length - 1, by omega⟩
      rw [hm, Nat.add_min_add_right]
      unfold spl
      cases h : (cutW c s).2 with
      | none => rfl
      | some r =>
        have hr := cutW_len h
        simp only
        congr 1
        rw [spl_min c k r, spl_min c (min k m) r]
        congr 1
        omega
theorem spl_len (c : UInt8) : ∀ (k : Nat) (s : List UInt8), 1 ≤ (spl c k s).length ∧ (spl c k s).length ≤ k + 1
  | 0, _ => by simp [spl]
  | k + 1, s => by
    unfold spl
    cases h : (cutW c s).2 with
    | none => simp
    | some r => have := spl_len c k r; simp; omega
theorem spl_none {c : UInt8} {k : Nat} {s : List UInt8} (h : (cutW c s).2 = none) : spl c k s = [s] := by
  cases k with
  | zero => rfl
  | succ k => unfold spl; rw [h]
theorem spl_some {c : UInt8} {k : Nat} {s r : List UInt8} (h : (cutW c s).2 = some r) : spl c (k + 1) s = (cutW c s).1 :: spl c k r := by
  conv => lhs; unfold spl
  rw [h]
theorem cutW_app {c : UInt8} : ∀ {w : List UInt8}, (∀ b ∈ w, b ≠ c) → ∀ r, cutW c (w ++ c :: r) = (w, some r)
  | [], _, r => by simp [cutW]
  | b :: w, h, r => by
    rw [List.cons_append]; unfold cutW
    rw [if_neg (h b (by simp)), cutW_app (fun x hx => h x (by simp [hx])) r]
theorem cutW_all {c : UInt8} : ∀ {w : List UInt8}, (∀ b ∈ w, b ≠ c) → cutW c w = (w, none)
  | [], _ => rfl
  | b :: w, h => by
    unfold cutW
    rw [if_neg (h b (by simp)), cutW_all (fun x hx => h x (by simp [hx]))]
/-- decimal digits -/
def isDig (b : UInt8) : Bool := decide (48 ≤ b.toNat) && decide (b.toNat ≤ 57)
def decV (acc : Nat) (l : List UInt8) : Nat := l.foldl (fun a b => 10 * a + (b.toNat - 48)) acc
theorem decV_cons (a : Nat) (b : UInt8) (l : List UInt8) : decV a (b :: l) = decV (10 * a + (b.toNat - 48)) l := List.foldl_cons ..
theorem decV_nil (a : Nat) : decV a [] = a := List.foldl_nil
/-- may it be a number? -/
def numG (w : List UInt8) : Bool := decide (w ≠ []) && !(decide (1 < w.length) && decide (w.head? = some 48)) && w.all isDig
def numB (M : Nat) (w : List UInt8) : Option Nat := if numG w = true ∧ decV 0 w ≤ M then some (decV 0 w) else none
theorem decV_append (l m : List UInt8) (a : Nat) : decV a (l ++ m) = decV (decV a l) m := List.foldl_append ..
theorem decV_mono : ∀ (l : List UInt8) {a b : Nat}, a ≤ b → decV a l ≤ decV b l
  | [], _, _, h => h
  | c :: l, a, b, h => by rw [decV_cons, decV_cons]; exact decV_mono l (by omega)
theorem decV_le : ∀ (l : List UInt8) (a : Nat), a ≤ decV a l
  | [], _ => Nat.le_refl _
  | c :: l, a => by rw [decV_cons]; exact Nat.le_trans (by omega) (decV_le l _)
theorem dig_ofNat {i : Nat} (h : i < 10) : isDig (UInt8.ofNat (48 + i)) = true ∧ (UInt8.ofNat (48 + i)).toNat = 48 + i := by
  have e : (UInt8.ofNat (48 + i)).toNat = 48 + i := by simp; omega
  refine ⟨?_, e⟩
  unfold isDig; rw [e]; simp; omega
theorem decDigits_small {u : Nat} (h : u < 10) : decDigits u = [UInt8.ofNat (48 + u)] := by rw [decDigits, dif_pos h]
theorem decDigits_big {u : Nat} (h : ¬ u < 10) : decDigits u = decDigits (u / 10) ++ [UInt8.ofNat (48 + u % 10)] := by rw [decDigits, dif_neg h]
theorem decDigits_facts : ∀ (n u : Nat), u ≤ n → decDigits u ≠ [] ∧ (∀ b ∈ decDigits u, isDig b = true) ∧ decV 0 (decDigits u) = u ∧ (1 ≤ u → (decDigits u).head? ≠ some 48)
  | n, u, hn => by
    by_cases h : u < 10
    · rw [decDigits_small h]
      obtain ⟨h1, h2⟩ := dig_ofNat h
      refine ⟨by simp, by simpa using h1, by rw [decV_cons, decV_nil, h2]; omega, fun hu => ?_⟩
      intro e
      have e2 : UInt8.ofNat (48 + u) = 48 := Option.some.inj e
      have := congrArg UInt8.toNat e2
      rw [h2] at this
      have h48 : (48 : UInt8).toNat = 48 := rfl
      omega
    · cases n with
      | zero => omega
      | succ n =>
        obtain ⟨g1, g2, g3, g4⟩ := decDigits_facts n (u / 10) (by omega)
        obtain ⟨h1, h2⟩ := dig_ofNat (show u % 10 < 10 by omega)
        rw [decDigits_big h]
        refine ⟨by simp, ?_, ?_, fun _ => ?_⟩
        · intro b hb
          rcases List.mem_append.1 hb with hb | hb
          · exact g2 b hb
          · rw [List.mem_singleton.1 hb]; exact h1
        · rw [decV_append, g3, decV_cons, decV_nil, h2]; omega
        · cases hd : decDigits (u / 10) with
          | nil => exact absurd hd g1
          | cons x y =>
            have := g4 (by omega)
            rw [hd] at this
            simpa using this
theorem numG_dec (u : Nat) : numG (decDigits u) = true := by
  obtain ⟨g1, g2, g3, g4⟩ := decDigits_facts u u (Nat.le_refl _)
  unfold numG
  have h1 : decide (decDigits u ≠ []) = true := by simpa using g1
  have h3 : (decDigits u).all isDig = true := List.all_eq_true.2 g2
  rw [h1, h3]
  by_cases hu : 1 ≤ u
  · have h2 : decide ((decDigits u).head? = some 48) = false := by simpa using g4 hu
    rw [h2]; simp
  · have : u = 0 := by omega
    subst this
    rw [decDigits_small (by omega)]; simp
theorem numB_dec {u M : Nat} (h : u ≤ M) : numB M (decDigits u) = some u := by
  have g := (decDigits_facts u u (Nat.le_refl _)).2.2.1
  unfold numB
  rw [if_pos ⟨numG_dec u, by rw [g]; exact h⟩, g]
theorem dec_no_blank (u : Nat) : ∀ b ∈ decDigits u, b ≠ 32 := by
  intro b hb e
  have := (decDigits_facts u u (Nat.le_refl _)).2.1 b hb
  subst e
  revert this; decide
theorem numG_dig {w : List UInt8} (h : numG w = true) : ∀ b ∈ w, isDig b = true := by
  unfold numG at h
  simp only [Bool.and_eq_true] at h
  exact List.all_eq_true.1 h.2
theorem isDig_le {b : UInt8} (h : isDig b = true) : 48 ≤ b.toNat ∧ b.toNat ≤ 57 := by
  unfold isDig at h; simpa using h
end Go.By
