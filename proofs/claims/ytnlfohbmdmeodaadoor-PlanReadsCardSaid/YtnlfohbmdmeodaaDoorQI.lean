/- Plain: what a plan's text says. -/
import Derived.Test.YtnlfohbmdmeodaaDoorQA
namespace Go.By
open Go.Lib
def objW : List UInt8 := [111, 98, 106, 101, 99, 116]
def numsO : List (List UInt8) → List Nat → Option (List Nat)
  | [], [] => some []
  | a :: as, M :: Ms => (numB M a).bind fun x => (numsO as Ms).map (x :: ·)
  | _, _ => none
def bndN (k : Nat) : Nat := if k = 0 then 4294967295 else 2147483647
def bndS : List Nat := [4294967295, 2147483647, 2147483647, 2147483647]
theorem bndS_at {k : Nat} (h : k < 4) : bndS[k]? = some (bndN k) := by
  have : k = 0 ∨ k = 1 ∨ k = 2 ∨ k = 3 := by omega
  rcases this with rfl | rfl | rfl | rfl <;> rfl
/-- the numbers of a plan's text: ID, length, size, symbols -/
def parseO (l : List UInt8) : Option (List Nat) := match spl 32 5 l with
  | o :: ws => if o = objW then numsO ws bndS else none
  | [] => none
theorem numsO_len : ∀ {ws : List (List UInt8)} {Ms xs : List Nat}, numsO ws Ms = some xs → ws.length = Ms.length ∧ xs.length = Ms.length
  | [], [], xs, h => by cases h; exact ⟨rfl, rfl⟩
  | a :: as, M :: Ms, xs, h => by
    unfold numsO at h
    obtain ⟨x, hx, h2⟩ := Option.bind_eq_some_iff.1 h
    obtain ⟨ys, hy, rfl⟩ := Option.map_eq_some_iff.1 h2
    have := numsO_len hy
    exact ⟨by simp [this.1], by simp [this.2]⟩
  | [], _ :: _, _, h => by cases h
  | _ :: _, [], _, h => by cases h
theorem numsO_app : ∀ {W : List (List UInt8)} {A X : List Nat} (V : List (List UInt8)) (B : List Nat), numsO W A = some X → numsO (W ++ V) (A ++ B) = (numsO V B).map (X ++ ·)
  | [], [], X, V, B, h => by cases h; simp
  | a :: as, M :: Ms, X, V, B, h => by
    unfold numsO at h
    obtain ⟨x, hx, h2⟩ := Option.bind_eq_some_iff.1 h
    obtain ⟨ys, hy, rfl⟩ := Option.map_eq_some_iff.1 h2
    show (numB M a).bind (fun x => (numsO (as ++ V) (Ms ++ B)).map (x :: ·)) = _
    rw [hx, numsO_app V B hy]
    show Option.map _ (Option.map _ _) = _
    rw [Option.map_map]; rfl
  | [], _ :: _, _, _, _, h => by cases h
  | _ :: _, [], _, _, _, h => by cases h
theorem bnd_take {k : Nat} (h : k < 4) : bndS = bndS.take k ++ bndN k :: bndS.drop (k + 1) := by
  have : k = 0 ∨ k = 1 ∨ k = 2 ∨ k = 3 := by omega
  rcases this with rfl | rfl | rfl | rfl <;> rfl
theorem bnd_take1 {k : Nat} (h : k < 4) : bndS.take (k + 1) = bndS.take k ++ [bndN k] := by
  have : k = 0 ∨ k = 1 ∨ k = 2 ∨ k = 3 := by omega
  rcases this with rfl | rfl | rfl | rfl <;> rfl
/-- so far in order: k words, their numbers, and what is behind them -/
def SoFar (l : List UInt8) (k : Nat) (X : List Nat) (V : List (List UInt8)) : Prop := k ≤ 4 ∧ X.length = k ∧ ∃ W, spl 32 5 l = objW :: (W ++ V) ∧ W.length = k ∧ numsO W (bndS.take k) = some X
theorem SoFar.zero {l : List UInt8} {V : List (List UInt8)} (h : spl 32 5 l = objW :: V) : SoFar l 0 [] V := ⟨by omega, rfl, [], h, rfl, rfl⟩
theorem SoFar.next {l : List UInt8} {k : Nat} {X : List Nat} {V : List (List UInt8)} {a : List UInt8} {x : Nat} (h : SoFar l k X (a :: V)) (hk : k < 4) (hx : numB (bndN k) a = some x) : SoFar l (k + 1) (X ++ [x]) V := by
  obtain ⟨_, h1, W, h2, h3, h4⟩ := h
  refine ⟨hk, by simp [h1], W ++ [a], by rw [h2]; simp, by simp [h3], ?_⟩
  rw [bnd_take1 hk, numsO_app [a] [bndN k] h4]
  show ((numB (bndN k) a).bind fun y => (numsO [] []).map (y :: ·)).map (X ++ ·) = _
  rw [hx]; rfl
theorem SoFar.bad {l : List UInt8} {k : Nat} {X : List Nat} {V : List (List UInt8)} {a : List UInt8} (h : SoFar l k X (a :: V)) (hk : k < 4) (hx : numB (bndN k) a = none) : parseO l = none := by
  obtain ⟨_, h1, W, h2, h3, h4⟩ := h
  unfold parseO
  rw [h2]
  show (if objW = objW then numsO (W ++ a :: V) bndS else none) = none
  rw [if_pos rfl, bnd_take hk, numsO_app (a :: V) _ h4]
  show ((numB (bndN k) a).bind _).map _ = _
  rw [hx]; rfl
theorem SoFar.short {l : List UInt8} {k : Nat} {X : List Nat} {V : List (List UInt8)} (h : SoFar l k X V) (hl : k + V.length ≠ 4) : parseO l = none := by
  obtain ⟨_, h1, W, h2, h3, h4⟩ := h
  unfold parseO
  rw [h2]
  show (if objW = objW then numsO (W ++ V) bndS else none) = none
  rw [if_pos rfl]
  cases e : numsO (W ++ V) bndS with
  | none => rfl
  | some ys =>
    have := (numsO_len e).1
    rw [List.length_append, h3] at this
    exact absurd this hl
theorem SoFar.done {l : List UInt8} {X : List Nat} (h : SoFar l 4 X []) : parseO l = some X := by
  obtain ⟨_, h1, W, h2, h3, h4⟩ := h
  unfold parseO
  rw [h2]
  show (if objW = objW then numsO (W ++ []) bndS else none) = _
  rw [if_pos rfl, List.append_nil]; exact h4
theorem SoFar.four {l : List UInt8} {X : List Nat} {V : List (List UInt8)} (h : SoFar l 4 X V) : ∃ d L S N, X = [d, L, S, N] ∧ d ≤ 4294967295 ∧ L ≤ 2147483647 ∧ S ≤ 2147483647 ∧ N ≤ 2147483647 := by
  obtain ⟨_, h1, W, h2, h3, h4⟩ := h
  match W, h3 with
  | [a, b, c, e], _ =>
    have hb : ∀ {M : Nat} {w : List UInt8} {x : Nat}, numB M w = some x → x ≤ M := fun {M w x} h => by
      unfold numB at h
      split at h
      · rename_i hh; cases h; exact hh.2
      · cases h
    have h5 : numsO [a, b, c, e] [4294967295, 2147483647, 2147483647, 2147483647] = some X := h4
    simp only [numsO, Option.bind_eq_some_iff, Option.map_eq_some_iff] at h5
    obtain ⟨x0, e0, y1, ⟨x1, e1, y2, ⟨x2, e2, y3, ⟨x3, e3, y4, h6, rfl⟩, rfl⟩, rfl⟩, rfl⟩ := h5
    cases h6
    exact ⟨x0, x1, x2, x3, rfl, hb e0, hb e1, hb e2, hb e3⟩
theorem parse_obj {l : List UInt8} {o : List UInt8} {V : List (List UInt8)} (h : spl 32 5 l = o :: V) (ho : o ≠ objW) : parseO l = none := by
  unfold parseO; rw [h]
  show (if o = objW then numsO V bndS else none) = none
  rw [if_neg ho]
/-- what is behind the words that are cut off one by one -/
def restS (m : Bool) (k : Nat) (r : List UInt8) : List (List UInt8) := if m then spl 32 k r else []
theorem spl_cut (k : Nat) (l : List UInt8) : spl 32 (k + 1) l = (cutW 32 l).1 :: restS (cutW 32 l).2.isSome k ((cutW 32 l).2.getD []) := by
  cases h : (cutW 32 l).2 with
  | none => rw [spl_none h, (cutW_none h).1]; rfl
  | some r => rw [spl_some h]; rfl
theorem cut_len {l : List UInt8} : ((cutW 32 l).2.getD []).length ≤ l.length ∧ (cutW 32 l).1.length ≤ l.length := by
  cases h : (cutW 32 l).2 with
  | none => exact ⟨by simp, by rw [(cutW_none h).1]; omega⟩
  | some r =>
    obtain ⟨i, _, e2, e3, e4⟩ := cutW_some h
    exact ⟨by have := cutW_len h; simp; omega, by rw [← e2, List.length_take]; omega⟩
theorem spl_short : ∀ (k : Nat) (l x : List UInt8), x ∈ spl 32 k l → x.length ≤ l.length
  | 0, l, x, h => by rw [List.mem_singleton.1 h]; omega
  | k + 1, l, x, h => by
    rw [spl_cut] at h
    rcases List.mem_cons.1 h with h | h
    · rw [h]; exact cut_len.2
    · unfold restS at h
      split at h
      · exact Nat.le_trans (spl_short k _ x h) cut_len.1
      · cases h
end Go.By
