/- The plain law of WayOne: what each act does to a list, alone; what is masked twice is as it was. -/
import Derived.Test.YtlfcijpkdhdmeaaM3
namespace Go.Proofs.Ytlfcijpkdhdmeaa
open Go.RowKit Go.By
theorem flip_len (xs : List UInt8) (a : Nat) : (flip xs a).length = xs.length := by simp [flip]
theorem flip_comm (xs : List UInt8) (a b : Nat) : flip (flip xs a) b = flip (flip xs b) a := by
  apply List.ext_getElem?
  intro i
  unfold flip
  simp only [List.getElem?_set, List.length_set, List.getD_eq_getElem?_getD]
  by_cases h1 : a / 8 = i <;> by_cases h2 : b / 8 = i <;> by_cases h3 : i < xs.length <;> simp_all
  · rw [UInt8.xor_assoc, UInt8.xor_assoc, UInt8.xor_comm (UInt8.ofNat _)]
  · rw [UInt8.xor_comm (UInt8.ofNat (2 ^ (a % 8)))]
theorem flip_twice (xs : List UInt8) (a : Nat) : flip (flip xs a) a = xs := by
  apply List.ext_getElem?
  intro i
  unfold flip
  simp only [List.getElem?_set, List.length_set, List.getD_eq_getElem?_getD]
  by_cases h1 : a / 8 = i <;> by_cases h3 : i < xs.length <;> simp_all [UInt8.xor_assoc]
theorem maskF_flip (b j : Nat) (a : Nat) : ∀ (k : Nat) (xs : List UInt8), (maskF b j (flip xs a) k).1 = flip (maskF b j xs k).1 a
  | 0, xs => rfl
  | k + 1, xs => by
    unfold maskF
    rw [flip_len]
    split
    · simp only; rw [maskF_flip b j a k xs, flip_comm]
    · exact maskF_flip b j a k xs
theorem maskF_twice (b j : Nat) : ∀ (k : Nat) (xs : List UInt8), (maskF b j (maskF b j xs k).1 k).1 = xs
  | 0, xs => rfl
  | k + 1, xs => by
    by_cases hc : b.testBit k = true ∧ (j + k) / 8 < xs.length
    · have e : ∀ ys : List UInt8, ys.length = xs.length → (maskF b j ys (k + 1)).1 = flip (maskF b j ys k).1 (j + k) := fun ys hy => by
        show (if _ then _ else _ : List UInt8 × Bool).1 = _
        rw [hy, if_pos hc]
      rw [e xs rfl, e _ (by rw [flip_len, maskF_len]), maskF_flip, flip_twice, maskF_twice b j k]
    · have e : ∀ ys : List UInt8, ys.length = xs.length → (maskF b j ys (k + 1)).1 = (maskF b j ys k).1 := fun ys hy => by
        show (if _ then _ else _ : List UInt8 × Bool).1 = _
        rw [hy, if_neg hc]
      rw [e xs rfl, e _ (maskF_len _ _ _ _), maskF_twice b j k]
/-- what one act makes of packets -/
def cameS (l : List (List UInt8)) (a : ActD) : List (List UInt8) := (playS (initS l) [a]).map (·.1)
theorem cameS_eq (l : List (List UInt8)) (a : ActD) : cameS l a = (stepS (initS l) a).map (·.1) := rfl
theorem came_same (l : List (List UInt8)) (a : ActD) (h : a.d < 0 ∨ 6 ≤ a.d ∨ a.j < 0 ∨ (a.d ≠ 5 ∧ (a.i < 0 ∨ (l.length : Int) ≤ a.i))) : cameS l a = l := by
  rw [cameS_eq]
  unfold stepS
  split
  · exact init_bytes l
  · rename_i hn
    have h' : a.d ≠ 5 ∧ (a.i < 0 ∨ (l.length : Int) ≤ a.i) := by rcases h with h | h | h | h <;> first | exact h | (exfalso; apply hn; omega)
    rw [if_neg h'.1]
    split
    · exact init_bytes l
    · rename_i p hp
      have hi := (List.getElem?_eq_some_iff.1 hp).1
      rw [initS_len] at hi
      rw [if_pos (by omega)]
      exact init_bytes l
theorem came_forge (l : List (List UInt8)) (a : ActD) (h : a.d = 5) (hj : 0 ≤ a.j) : cameS l a = l ++ [a.bs] := by
  rw [cameS_eq]
  unfold stepS
  rw [if_neg (by omega), if_pos h, List.map_append, init_bytes]; rfl
section
variable {l : List (List UInt8)} {a : ActD} {i : Nat} {x : List UInt8}
theorem step_in (hd : ¬ (a.d < 0 ∨ 6 ≤ a.d ∨ a.j < 0)) (h5 : a.d ≠ 5) (hi : a.i = i) (hx : l[i]? = some x) : cameS l a = (if a.d = 0 then dropAt (initS l) i else if a.d = 1 then initS l ++ [(x, (i : Int))] else if a.d = 2 then putAt (dropAt (initS l) i) (min a.j.toNat (l.length - 1)) (x, (i : Int))
    else if a.d = 3 then (initS l).set i (cutP (x, (i : Int)) a.j.toNat) else (initS l).set i (maskP (x, (i : Int)) a.b a.j.toNat)).map (·.1) := by
  rw [cameS_eq]
  unfold stepS
  have e : (initS l)[a.i.toNat]? = some (x, (i : Int)) := by rw [hi]; exact initS_at hx
  rw [if_neg hd, if_neg h5, e]
  simp only
  rw [if_neg (by omega), initS_len, hi]
  rfl
theorem came_drop (hd : a.d = 0) (hj : 0 ≤ a.j) (hi : a.i = i) (hx : l[i]? = some x) : (cameS l a).length = l.length - 1 := by
  have hl := (List.getElem?_eq_some_iff.1 hx).1
  rw [step_in (by omega) (by omega) hi hx, if_pos hd, List.length_map, dropAt_length (by rw [initS_len]; exact hl), initS_len]
theorem came_double (hd : a.d = 1) (hj : 0 ≤ a.j) (hi : a.i = i) (hx : l[i]? = some x) : cameS l a = l ++ [x] := by
  rw [step_in (by omega) (by omega) hi hx, if_neg (by omega), if_pos hd, List.map_append, init_bytes]; rfl
theorem came_move (hd : a.d = 2) (hj : 0 ≤ a.j) (hi : a.i = i) (hx : l[i]? = some x) : (cameS l a).length = l.length ∧ (cameS l a)[min a.j.toNat (l.length - 1)]? = some x := by
  have hl := (List.getElem?_eq_some_iff.1 hx).1
  rw [step_in (by omega) (by omega) hi hx, if_neg (by omega), if_neg (by omega), if_pos hd, putAt_map, dropAt_map, init_bytes]
  have hd := dropAt_length hl
  constructor
  · rw [(putAt_perm _ _ _).length_eq, List.length_cons, hd]; omega
  · unfold putAt
    have e : ((dropAt l i).take (min a.j.toNat (l.length - 1))).length = min a.j.toNat (l.length - 1) := by rw [List.length_take, hd]; omega
    rw [List.getElem?_append_right (by rw [e]; omega), e]; simp
theorem came_cut (hd : a.d = 3) (hj : 0 ≤ a.j) (hi : a.i = i) (hx : l[i]? = some x) : (cameS l a).length = l.length ∧ ∃ y, (cameS l a)[i]? = some y ∧ y.length = min a.j.toNat x.length := by
  have hl := (List.getElem?_eq_some_iff.1 hx).1
  rw [step_in (by omega) (by omega) hi hx, if_neg (by omega), if_neg (by omega), if_neg (by omega), if_pos hd, List.map_set, init_bytes]
  refine ⟨by simp, _, by rw [List.getElem?_set_self hl], ?_⟩
  unfold cutP
  split
  · rw [List.length_take]
  · simp only at *; omega
theorem came_mask (hd : a.d = 4) (hj : 0 ≤ a.j) (hi : a.i = i) (hx : l[i]? = some x) : (cameS l a).length = l.length ∧ (∃ y, (cameS l a)[i]? = some y ∧ y.length = x.length) ∧ cameS (cameS l a) a = l := by
  have hl := (List.getElem?_eq_some_iff.1 hx).1
  have e : cameS l a = l.set i (maskF a.b a.j.toNat x 32).1 := by
    rw [step_in (by omega) (by omega) hi hx, if_neg (by omega), if_neg (by omega), if_neg (by omega), if_neg (by omega), List.map_set, init_bytes]; rfl
  have e2 : (cameS l a)[i]? = some (maskF a.b a.j.toNat x 32).1 := by rw [e, List.getElem?_set_self hl]
  refine ⟨by rw [e]; simp, ⟨_, e2, maskF_len _ _ _ _⟩, ?_⟩
  rw [step_in (by omega) (by omega) hi e2, if_neg (by omega), if_neg (by omega), if_neg (by omega), if_neg (by omega), List.map_set, init_bytes]
  show (cameS l a).set i (maskF a.b a.j.toNat (maskF a.b a.j.toNat x 32).1 32).1 = l
  rw [maskF_twice, e, List.set_set]
  obtain ⟨_, hx'⟩ := List.getElem?_eq_some_iff.1 hx
  rw [← hx', List.set_getElem_self]
end
end Go.Proofs.Ytlfcijpkdhdmeaa
