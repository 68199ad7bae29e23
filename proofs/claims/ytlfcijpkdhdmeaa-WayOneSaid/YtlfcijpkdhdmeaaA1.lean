/- Arrays that the call owns, written in place; lists of parcels: cells of two. -/
import Derived.Test.YtlfcijpkdhdmeaaB7
import Derived.Laws.IdiomCopy
namespace Go.By
open Go.RowKit
theorem heap_setCells {g T : Nat} : ∀ (vs : List Value) (o : Nat) (w : World) (cur : List Value), w.heap[g]? = some (.cells cur.toArray T (0, 0)) → o + vs.length ≤ cur.length →
    (w.setCells g o vs).heap[g]? = some (.cells (cur.take o ++ vs ++ cur.drop (o + vs.length)).toArray T (0, 0))
  | [], o, w, cur, h, _ => by simpa [World.setCells] using h
  | v :: r, o, w, cur, h, hl => by
    have hl' : o + (r.length + 1) ≤ cur.length := hl
    have h1 : (w.setCell ⟨g, o, none⟩ v).heap[g]? = some (.cells (cur.set o v).toArray T (0, 0)) := by
      rw [hss h]; simp
    rw [World.setCells, heap_setCells r (o + 1) _ _ h1 (by rw [List.length_set]; omega)]
    congr 3
    apply List.ext_getElem?
    intro j
    simp only [List.getElem?_append, List.length_append, List.length_take, List.length_set, List.length_cons, List.getElem?_take, List.getElem?_drop, List.getElem?_set, List.getElem?_cons, show min (o + 1) cur.length = o + 1 by omega, show min o cur.length = o by omega]
    by_cases c1 : j < o
    · simp [c1, show j < o + 1 by omega, show j < o + 1 + r.length by omega, show j < o + (r.length + 1) by omega, show ¬ o = j by omega]
    · by_cases c2 : j = o
      · subst c2; simp [show j < j + 1 + r.length by omega, show j < cur.length by omega]
      · by_cases c3 : j < o + 1 + r.length
        · simp [c1, c3, show ¬ j < o + 1 by omega, show j < o + (r.length + 1) by omega, show ¬ j - o = 0 by omega, show j - o - 1 = j - (o + 1) by omega]
        · simp [c1, c3, show ¬ j < o + (r.length + 1) by omega, show ¬ o = o + 1 + r.length + (j - (o + 1 + r.length)) by omega, show o + (r.length + 1) + (j - (o + (r.length + 1))) = o + 1 + r.length + (j - (o + 1 + r.length)) by omega]
theorem grownBy_setCell (w : World) (g o : Nat) (v : Value) : w.grownBy (w.setCell ⟨g, o, none⟩ v) (some g) :=
  ⟨rfl, rfl, rfl, by simp, fun i hi hne => by
    have e : i ≠ g := fun e => hne (by rw [e])
    have := hsc (w := w) (a := ⟨g, o, none⟩) (v := v) (x := w.heap[i]) (i := i) (Array.getElem?_eq_getElem hi) e
    rw [this, Array.getElem?_eq_getElem hi]⟩
theorem grownBy_setCells (g : Nat) : ∀ (vs : List Value) (o : Nat) (w : World), w.grownBy (w.setCells g o vs) (some g)
  | [], _, w => World.grownBy.refl _ _
  | v :: r, o, w => grown_trans (grownBy_setCell w g o v) (grownBy_setCells g r (o + 1) _)
theorem grownBy_drew (w : World) (row : Option Nat) : w.grownBy w.drew row := ⟨rfl, rfl, rfl, Nat.le_refl _, fun _ _ _ => rfl⟩
/-- the cells of a list of parcels -/
def pcs (us : List (Value × Int)) : List Value := us.flatMap fun u => [u.1, .int .i64 u.2]
theorem pcs_nil : pcs [] = [] := rfl
theorem pcs_cons (u : Value × Int) (us : List (Value × Int)) : pcs (u :: us) = u.1 :: .int .i64 u.2 :: pcs us := rfl
theorem pcs_append (us vs : List (Value × Int)) : pcs (us ++ vs) = pcs us ++ pcs vs := by simp [pcs]
theorem pcs_length (us : List (Value × Int)) : (pcs us).length = us.length * 2 := by
  induction us with
  | nil => rfl
  | cons u us ih => rw [pcs_cons, List.length_cons, List.length_cons, ih, List.length_cons]; omega
theorem pcs_take (us : List (Value × Int)) : ∀ k, pcs (us.take k) = (pcs us).take (k * 2) := by
  induction us with
  | nil => intro k; simp [pcs]
  | cons u us ih =>
    intro k
    cases k with
    | zero => rfl
    | succ k => rw [List.take_succ_cons, pcs_cons, pcs_cons, ih, show (k + 1) * 2 = k * 2 + 1 + 1 by omega, List.take_succ_cons, List.take_succ_cons]
theorem pcs_drop (us : List (Value × Int)) : ∀ k, pcs (us.drop k) = (pcs us).drop (k * 2) := by
  induction us with
  | nil => intro k; simp [pcs]
  | cons u us ih =>
    intro k
    cases k with
    | zero => rfl
    | succ k => rw [List.drop_succ_cons, pcs_cons, ih, show (k + 1) * 2 = k * 2 + 1 + 1 by omega, List.drop_succ_cons, List.drop_succ_cons]
theorem pcs_at {us : List (Value × Int)} {i : Nat} {u : Value × Int} (h : us[i]? = some u) : (pcs us)[i * 2]? = some u.1 ∧ (pcs us)[i * 2 + 1]? = some (.int .i64 u.2) := by
  have h1 : (pcs (us.drop i))[0]? = some u.1 ∧ (pcs (us.drop i))[1]? = some (.int .i64 u.2) := by
    obtain ⟨hi, h⟩ := List.getElem?_eq_some_iff.1 h
    rw [List.drop_eq_getElem_cons hi, h, pcs_cons]; exact ⟨rfl, rfl⟩
  rw [pcs_drop, List.getElem?_drop, List.getElem?_drop] at h1
  exact h1
theorem pcs_one {us : List (Value × Int)} (h : ∀ u, u ∈ us → u.1.oneCell' = true) : ∀ v, v ∈ pcs us → v.oneCell' = true := by
  intro v hv
  obtain ⟨u, hu, hv⟩ := List.mem_flatMap.1 hv
  simp at hv
  rcases hv with rfl | rfl
  · exact h u hu
  · rfl
theorem pcs_set (us : List (Value × Int)) : ∀ (i : Nat) (u : Value × Int), i < us.length → pcs (us.set i u) = ((pcs us).set (i * 2) u.1).set (i * 2 + 1) (.int .i64 u.2) := by
  induction us with
  | nil => intro i u h; simp at h
  | cons x us ih =>
    intro i u h
    cases i with
    | zero => rfl
    | succ i => rw [List.set_cons_succ, pcs_cons, pcs_cons, ih i u (by simpa using h), show (i + 1) * 2 = i * 2 + 1 + 1 by omega, List.set_cons_succ, List.set_cons_succ, List.set_cons_succ, List.set_cons_succ]
/-- an owned array of two-celled elements, opened -/
theorem owns2_open {w : World} {base T n c : Nat} {q : Option Addr} {L : List Value} (h : w.ownsRow base T 2 (.slice q n c) n L) (h0 : 0 < n) :
    ∃ g cur, q = some ⟨g, 0, none⟩ ∧ base ≤ g ∧ w.heap[g]? = some (.cells (List.toArray cur) T (0, 0)) ∧ n ≤ c ∧ c ≤ maxLen ∧ cur.length = c * 2 ∧ cur.take (n * 2) = L := by
  rcases h.2 with ⟨h1, rfl⟩ | ⟨g, cap, cur, hv, hg, hh, h1, h2, h3, h4⟩
  · omega
  · obtain ⟨rfl, rfl⟩ : q = some ⟨g, 0, none⟩ ∧ c = cap := by simpa using hv
    exact ⟨g, cur.toList, rfl, hg, by simpa using hh, h1, h2, by simpa using h3, by simpa using h4⟩
theorem owns2_shut {w : World} {base T n c g : Nat} {cur L : List Value} (hg : base ≤ g) (hh : w.heap[g]? = some (.cells (List.toArray cur) T (0, 0))) (h1 : n ≤ c) (h2 : c ≤ maxLen) (h3 : cur.length = c * 2) (h4 : cur.take (n * 2) = L) :
    w.ownsRow base T 2 (.slice (some ⟨g, 0, none⟩) n c) n L :=
  ⟨by rw [← h4, List.length_take]; omega, .inr ⟨g, c, cur.toArray, rfl, hg, hh, h1, h2, by simpa using h3, by simpa using h4⟩⟩
theorem cell_arr {w : World} {g T : Nat} {cur : List Value} (h : w.heap[g]? = some (.cells (List.toArray cur) T (0, 0))) (j : Nat) : w.cell? ⟨g, j, none⟩ = cur[j]? := by
  rw [cell_of_row _ _ j _ T (0, 0) h]; simp
theorem frozen_arr {w : World} {g T : Nat} {cur : List Value} (h : w.heap[g]? = some (.cells (List.toArray cur) T (0, 0))) (j : Nat) : w.frozen? ⟨g, j, none⟩ = false := frozen_of_row _ _ j _ _ h
/-- clear, of one element of two cells -/
theorem run_clear_two {P : Program} (w : World) (t e ty : TypeId) (z x y : Value) (ht : P.underlying t = some (.slice e)) (hv : ∀ w, (zeroValue e).run P w = .ok z w) (hz : z.cells = #[x, y]) (hx : x.oneCell' = true) (hy : y.oneCell' = true) (b o c : Nat)
    (hc : ∀ j, j < 2 → (w.cell? ⟨b, o + j, none⟩).isSome = true) (hf : ∀ j, j < 2 → w.frozen? ⟨b, o + j, none⟩ = false) :
    (Builtin.clear_ #[t] ty #[.slice (some ⟨b, o, none⟩) 1 c]).run P w = .ok (.tuple #[]) (w.setCells b o [x, y]) := by
  have hzc : (Builtin.zeroCells z.cells 1).toList = [x, y] := by
    rw [hz]
    apply List.ext_getElem?
    intro i
    match i with
    | 0 => simp [Builtin.zeroCells]
    | 1 => simp [Builtin.zeroCells]
    | i + 2 => simp [Builtin.zeroCells]
  have hst := run_storeCells_cells (P := P) b o [x, y] 0 w (by simpa using hc) (by simpa using hf) (by intro v hv'; simp at hv'; rcases hv' with rfl | rfl <;> assumption)
  simp only [Nat.add_zero] at hst
  simp [Builtin.clear_, run_underlying ht, hv, hzc, hst]
/-- copy, of elements of two cells -/
theorem run_copy_two {P : Program} (w : World) (dT sT ty elem : TypeId) (b o dLen dCap : Nat) (a : Addr) (sLen sCap : Nat) (cs : List Value)
    (hu : P.underlying dT = some (.slice elem)) (hs : (P.info? elem).map (·.size) = some 2) (hn : cs.length = Nat.min sLen dLen * 2)
    (hsrc : ∀ j v, cs[j]? = some v → w.cell? (a.add j) = some v) (hc : ∀ j, j < cs.length → (w.cell? ⟨b, o + j, none⟩).isSome = true) (hf : ∀ j, j < cs.length → w.frozen? ⟨b, o + j, none⟩ = false) (h1 : ∀ v ∈ cs, v.oneCell' = true) :
    (Builtin.copy_ #[dT, sT] ty #[.slice (some ⟨b, o, none⟩) dLen dCap, .slice (some a) sLen sCap]).run P w = .ok (goInt (Nat.min sLen dLen)) (w.setCells b o cs) := by
  have hl := run_loadCells_list (P := P) w a cs hsrc
  have hst := run_storeCells_cells (P := P) b o cs 0 w (by simpa using hc) (by simpa using hf) h1
  cases hq : P.info? elem with
  | none => simp [hq] at hs
  | some i =>
    have hi : i.size = 2 := by simpa [hq] using hs
    simp only [Nat.add_zero] at hst
    simp [Builtin.copy_, run_underlying hu, Builtin.lenOf, Builtin.firstCells, sizeOf, typeInfo, hq, hi, ← hn, hl, hst]
end Go.By
