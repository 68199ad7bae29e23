/- Arrays that the call owns, written in place; lists of parcels: cells of two. The contract of slices.Insert at rows: one more. The contract of slices.Insert at rows: one more, in the middle, where there is no room. Rows of a system in memory: one more, by slices.Insert; one in the place of another. A region that draws its order, with a call in its midst that writes: shapes ahead of it, told values behind it, and a store last. The closure of a system's Put. The contract of a system's Put: a row more. The contract of vec.Unit. The contract of a system's Known. The contract of the reference's Same of layer 7. The example of chapter 7. The law's example of chapter 8; what is told of no system. A system's Rest and Put, where the sizes don't fit, or nothing is left. The contract of the reference's Put of chapter 8. The contract of the reference's Known of chapter 8. The law's Same and Fit of chapter 8. A system's Rows and Clone. A system's Clone. A system's Solve. What a system's Put leaves as it is; Put of an equation that fits, and the reference's, whatever comes of it. Plain laws of GridTells: rows and what they are joined; a unit's bytes. GridTells: the walk, no unit. The walk of the grid's Inverse. -/
import Derived.Test.YtbfmdfbnhakolaaDoorZo4
import Derived.Laws.IdiomCopy
import Derived.Deep.RegionLaw
import Derived.Lib.Overlaps
import Derived.Shelf.Spec.SlicesInsertGrow
import Derived.Lib.AppendZerosOnto
namespace Go.By
open Go.RowKit
theorem heap_setCells {g T : Nat} : ∀ (vs : List Value) (o : Nat) (w : World) (cur : List Value), w.heap[g]? = some (.cells cur.toArray T (0, 0)) → o + vs.length ≤ cur.length →
    (w.setCells g o vs).heap[g]? = some (.cells (cur.take o ++ vs ++ cur.drop (o + vs.length)).toArray T (0, 0))
  | [], o, w, cur, h, _ => by simpa [World.setCells] using h
  | v :: r, o, w, cur, h, hl => by
    have hl' : o + (r.length + 1) ≤ cur.length := hl
    have h1 : (w.setCell ⟨g, o, none⟩ v).heap[g]? = some (.cells (cur.set o v).toArray T (0, 0)) := by
      rw [hss h]; simp
    rw [World.setCells, heap_setCells r (o + 1) _ _ h1 (by rw [List.length_set]; omega)]
    congr 3
    apply List.ext_getElem?
    intro j
    simp only [List.getElem?_append, List.length_append, List.length_take, List.length_set, List.length_cons, List.getElem?_take, List.getElem?_drop, List.getElem?_set, List.getElem?_cons, show min (o + 1) cur.length = o + 1 by omega, show min o cur.length = o by omega]
    by_cases c1 : j < o
    · simp [c1, show j < o + 1 by omega, show j < o + 1 + r.length by omega, show j < o + (r.length + 1) by omega, show ¬ o = j by omega]
    · by_cases c2 : j = o
      · subst c2; simp [show j < j + 1 + r.length by omega, show j < cur.length by omega]
      · by_cases c3 : j < o + 1 + r.length
        · simp [c1, c3, show ¬ j < o + 1 by omega, show j < o + (r.length + 1) by omega, show ¬ j - o = 0 by omega, show j - o - 1 = j - (o + 1) by omega]
        · simp [c1, c3, show ¬ j < o + (r.length + 1) by omega, show ¬ o = o + 1 + r.length + (j - (o + 1 + r.length)) by omega, show o + (r.length + 1) + (j - (o + (r.length + 1))) = o + 1 + r.length + (j - (o + 1 + r.length)) by omega]
theorem grownBy_setCell (w : World) (g o : Nat) (v : Value) : w.grownBy (w.setCell ⟨g, o, none⟩ v) (some g) :=
  ⟨rfl, rfl, rfl, by simp, fun i hi hne => by
    have e : i ≠ g := fun e => hne (by rw [e])
    have := hsc (w := w) (a := ⟨g, o, none⟩) (v := v) (x := w.heap[i]) (i := i) (Array.getElem?_eq_getElem hi) e
    rw [this, Array.getElem?_eq_getElem hi]⟩
theorem grownBy_setCells (g : Nat) : ∀ (vs : List Value) (o : Nat) (w : World), w.grownBy (w.setCells g o vs) (some g)
  | [], _, w => World.grownBy.refl _ _
  | v :: r, o, w => grown_trans (grownBy_setCell w g o v) (grownBy_setCells g r (o + 1) _)
theorem grownBy_drew (w : World) (row : Option Nat) : w.grownBy w.drew row := ⟨rfl, rfl, rfl, Nat.le_refl _, fun _ _ _ => rfl⟩
/-- the cells of a list of parcels -/
def pcs (us : List (Value × Int)) : List Value := us.flatMap fun u => [u.1, .int .i64 u.2]
theorem pcs_nil : pcs [] = [] := rfl
theorem pcs_cons (u : Value × Int) (us : List (Value × Int)) : pcs (u :: us) = u.1 :: .int .i64 u.2 :: pcs us := rfl
theorem pcs_append (us vs : List (Value × Int)) : pcs (us ++ vs) = pcs us ++ pcs vs := by simp [pcs]
theorem pcs_length (us : List (Value × Int)) : (pcs us).length = us.length * 2 := by
  induction us with
  | nil => rfl
  | cons u us ih => rw [pcs_cons, List.length_cons, List.length_cons, ih, List.length_cons]; omega
theorem pcs_take (us : List (Value × Int)) : ∀ k, pcs (us.take k) = (pcs us).take (k * 2) := by
  induction us with
  | nil => intro k; simp [pcs]
  | cons u us ih =>
    intro k
    cases k with
    | zero => rfl
    | succ k => rw [List.take_succ_cons, pcs_cons, pcs_cons, ih, show (k + 1) * 2 = k * 2 + 1 + 1 by omega, List.take_succ_cons, List.take_succ_cons]
theorem pcs_drop (us : List (Value × Int)) : ∀ k, pcs (us.drop k) = (pcs us).drop (k * 2) := by
  induction us with
  | nil => intro k; simp [pcs]
  | cons u us ih =>
    intro k
    cases k with
    | zero => rfl
    | succ k => rw [List.drop_succ_cons, pcs_cons, ih, show (k + 1) * 2 = k * 2 + 1 + 1 by omega, List.drop_succ_cons, List.drop_succ_cons]
theorem pcs_at {us : List (Value × Int)} {i : Nat} {u : Value × Int} (h : us[i]? = some u) : (pcs us)[i * 2]? = some u.1 ∧ (pcs us)[i * 2 + 1]? = some (.int .i64 u.2) := by
  have h1 : (pcs (us.drop i))[0]? = some u.1 ∧ (pcs (us.drop i))[1]? = some (.int .i64 u.2) := by
    obtain ⟨hi, h⟩ := List.getElem?_eq_some_iff.1 h
    rw [List.drop_eq_getElem_cons hi, h, pcs_cons]; exact ⟨rfl, rfl⟩
  rw [pcs_drop, List.getElem?_drop, List.getElem?_drop] at h1
  exact h1
theorem pcs_one {us : List (Value × Int)} (h : ∀ u, u ∈ us → u.1.oneCell' = true) : ∀ v, v ∈ pcs us → v.oneCell' = true := by
  intro v hv
  obtain ⟨u, hu, hv⟩ := List.mem_flatMap.1 hv
  simp at hv
  rcases hv with rfl | rfl
  · exact h u hu
  · rfl
theorem pcs_set (us : List (Value × Int)) : ∀ (i : Nat) (u : Value × Int), i < us.length → pcs (us.set i u) = ((pcs us).set (i * 2) u.1).set (i * 2 + 1) (.int .i64 u.2) := by
  induction us with
  | nil => intro i u h; simp at h
  | cons x us ih =>
    intro i u h
    cases i with
    | zero => rfl
    | succ i => rw [List.set_cons_succ, pcs_cons, pcs_cons, ih i u (by simpa using h), show (i + 1) * 2 = i * 2 + 1 + 1 by omega, List.set_cons_succ, List.set_cons_succ, List.set_cons_succ, List.set_cons_succ]
/-- an owned array of two-celled elements, opened -/
theorem owns2_open {w : World} {base T n c : Nat} {q : Option Addr} {L : List Value} (h : w.ownsRow base T 2 (.slice q n c) n L) (h0 : 0 < n) :
    ∃ g cur, q = some ⟨g, 0, none⟩ ∧ base ≤ g ∧ w.heap[g]? = some (.cells (List.toArray cur) T (0, 0)) ∧ n ≤ c ∧ c ≤ maxLen ∧ cur.length = c * 2 ∧ cur.take (n * 2) = L := by
  rcases h.2 with ⟨h1, rfl⟩ | ⟨g, cap, cur, hv, hg, hh, h1, h2, h3, h4⟩
  · omega
  · obtain ⟨rfl, rfl⟩ : q = some ⟨g, 0, none⟩ ∧ c = cap := by simpa using hv
    exact ⟨g, cur.toList, rfl, hg, by simpa using hh, h1, h2, by simpa using h3, by simpa using h4⟩
theorem owns2_shut {w : World} {base T n c g : Nat} {cur L : List Value} (hg : base ≤ g) (hh : w.heap[g]? = some (.cells (List.toArray cur) T (0, 0))) (h1 : n ≤ c) (h2 : c ≤ maxLen) (h3 : cur.length = c * 2) (h4 : cur.take (n * 2) = L) :
    w.ownsRow base T 2 (.slice (some ⟨g, 0, none⟩) n c) n L :=
  ⟨by rw [← h4, List.length_take]; omega, .inr ⟨g, c, cur.toArray, rfl, hg, hh, h1, h2, by simpa using h3, by simpa using h4⟩⟩
theorem cell_arr {w : World} {g T : Nat} {cur : List Value} (h : w.heap[g]? = some (.cells (List.toArray cur) T (0, 0))) (j : Nat) : w.cell? ⟨g, j, none⟩ = cur[j]? := by
  rw [cell_of_row _ _ j _ T (0, 0) h]; simp
theorem frozen_arr {w : World} {g T : Nat} {cur : List Value} (h : w.heap[g]? = some (.cells (List.toArray cur) T (0, 0))) (j : Nat) : w.frozen? ⟨g, j, none⟩ = false := frozen_of_row _ _ j _ _ h
/-- clear, of one element of two cells -/
theorem run_clear_two {P : Program} (w : World) (t e ty : TypeId) (z x y : Value) (ht : P.underlying t = some (.slice e)) (hv : ∀ w, (zeroValue e).run P w = .ok z w) (hz : z.cells = #[x, y]) (hx : x.oneCell' = true) (hy : y.oneCell' = true) (b o c : Nat)
    (hc : ∀ j, j < 2 → (w.cell? ⟨b, o + j, none⟩).isSome = true) (hf : ∀ j, j < 2 → w.frozen? ⟨b, o + j, none⟩ = false) :
    (Builtin.clear_ #[t] ty #[.slice (some ⟨b, o, none⟩) 1 c]).run P w = .ok (.tuple #[]) (w.setCells b o [x, y]) := by
  have hzc : (Builtin.zeroCells z.cells 1).toList = [x, y] := by
    rw [hz]
    apply List.ext_getElem?
    intro i
    match i with
    | 0 => simp [Builtin.zeroCells]
    | 1 => simp [Builtin.zeroCells]
    | i + 2 => simp [Builtin.zeroCells]
  have hst := run_storeCells_cells (P := P) b o [x, y] 0 w (by simpa using hc) (by simpa using hf) (by intro v hv'; simp at hv'; rcases hv' with rfl | rfl <;> assumption)
  simp only [Nat.add_zero] at hst
  simp [Builtin.clear_, run_underlying ht, hv, hzc, hst]
/-- copy, of elements of two cells -/
theorem run_copy_two {P : Program} (w : World) (dT sT ty elem : TypeId) (b o dLen dCap : Nat) (a : Addr) (sLen sCap : Nat) (cs : List Value)
    (hu : P.underlying dT = some (.slice elem)) (hs : (P.info? elem).map (·.size) = some 2) (hn : cs.length = Nat.min sLen dLen * 2)
    (hsrc : ∀ j v, cs[j]? = some v → w.cell? (a.add j) = some v) (hc : ∀ j, j < cs.length → (w.cell? ⟨b, o + j, none⟩).isSome = true) (hf : ∀ j, j < cs.length → w.frozen? ⟨b, o + j, none⟩ = false) (h1 : ∀ v ∈ cs, v.oneCell' = true) :
    (Builtin.copy_ #[dT, sT] ty #[.slice (some ⟨b, o, none⟩) dLen dCap, .slice (some a) sLen sCap]).run P w = .ok (goInt (Nat.min sLen dLen)) (w.setCells b o cs) := by
  have hl := run_loadCells_list (P := P) w a cs hsrc
  have hst := run_storeCells_cells (P := P) b o cs 0 w (by simpa using hc) (by simpa using hf) h1
  cases hq : P.info? elem with
  | none => simp [hq] at hs
  | some i =>
    have hi : i.size = 2 := by simpa [hq] using hs
    simp only [Nat.add_zero] at hst
    simp [Builtin.copy_, run_underlying hu, Builtin.lenOf, Builtin.firstCells, sizeOf, typeInfo, hq, hi, ← hn, hl, hst]
end Go.By
namespace Go.By
open Go.RowKit
theorem fl2_cons (u : Value × Value) (us : List (Value × Value)) : fl2 (u :: us) = u.1 :: u.2 :: fl2 us := rfl
theorem fl2_one {us : List (Value × Value)} (h : ∀ u, u ∈ us → u.1.oneCell' = true ∧ u.2.oneCell' = true) : ∀ v, v ∈ fl2 us → v.oneCell' = true := by
  intro v hv
  obtain ⟨u, hu, hv⟩ := List.mem_flatMap.1 hv
  simp at hv
  rcases hv with rfl | rfl
  · exact (h u hu).1
  · exact (h u hu).2
end Go.By
namespace Go.Proofs.YtbfmdfbnhakolaaDoor
open Go.RowKit Go.By
theorem owns2_some {w : World} {base T n c g : Nat} {L : List Value} (h : w.ownsRow base T 2 (.slice (some ⟨g, 0, none⟩) n c) n L) :
    ∃ cur, base ≤ g ∧ w.heap[g]? = some (.cells (List.toArray cur) T (0, 0)) ∧ n ≤ c ∧ c ≤ maxLen ∧ cur.length = c * 2 ∧ cur.take (n * 2) = L := by
  rcases h.2 with ⟨h1, _⟩ | ⟨g', cap, cur, hv, hg, hh, h1, h2, h3, h4⟩
  · simp at h1
  · obtain ⟨rfl, rfl⟩ : g = g' ∧ c = cap := by simpa using hv
    exact ⟨cur.toList, hg, by simpa using hh, h1, h2, by simpa using h3, by simpa using h4⟩
set_option maxRecDepth 100000 in
set_option maxHeartbeats 2000000 in
theorem InsRoom_any (base g n c vb : Nat) (us : List (Value × Value)) (u : Value × Value) (w : World) (h : w.ownsRow base 63 2 (.slice (some ⟨g, 0, none⟩) n c) n (fl2 us)) (hroom : n + 1 ≤ c) (hu : u.1.oneCell' = true ∧ u.2.oneCell' = true)
    (hv : w.heap[vb]? = some (.cells #[u.1, u.2] 63 (0, 0))) :
    Calls Tryd.prog 75 #[.slice (some ⟨g, 0, none⟩) n c, .int .i64 n, .slice (some ⟨vb, 0, none⟩) 1 1] w fun e w' =>
      e = .returned (.slice (some ⟨g, 0, none⟩) (n + 1) c) ∧ w'.ownsRow base 63 2 (.slice (some ⟨g, 0, none⟩) (n + 1) c) (n + 1) (fl2 (us ++ [u])) ∧ w.grownBy w' (some g) := by
  obtain ⟨i0, hi0, hz0, hz1, hz2⟩ := info_parts info_vrow
  obtain ⟨cur, hg, hh, hnc, hcm, hcl, hct⟩ := owns2_some h
  have hr := fun ty => run_append_room_cells (P := Tryd.prog) (w := w) 43 ty 63 i0 Tryd.underlying43 hi0 g 0 n c ⟨vb, 0, none⟩ 1 1 [u.1, u.2] (by rw [hz1]; rfl)
    (fun j x hj => by
      rw [Addr.add_lit, Nat.zero_add, cell_of_row _ _ j _ _ _ hv]
      match j with
      | 0 => simpa using hj
      | 1 => simpa using hj
      | j + 2 => simp at hj)
    (by intro x hx; simp at hx; rcases hx with rfl | rfl; exact hu.1; exact hu.2) hroom
    (fun j hj => by rw [hz1, cell_arr hh, List.getElem?_eq_getElem (by simp at hj; omega)]; rfl) (fun j hj => frozen_arr hh _)
  rw [hz1, Nat.zero_add] at hr
  have HR := Lib.hid hr
  have FIN : Hid ((w.setCells g (n * 2) [u.1, u.2]).ownsRow base 63 2 (.slice (some ⟨g, 0, none⟩) (n + 1) c) (n + 1) (fl2 (us ++ [u])) ∧ w.grownBy (w.setCells g (n * 2) [u.1, u.2]) (some g)) := by
    refine ⟨owns2_shut hg (heap_setCells _ _ _ _ hh (by simp; omega)) hroom hcm ?_ ?_, grownBy_setCells g _ _ _⟩
    · simp only [List.length_append, List.length_take, List.length_drop, hcl, List.length_cons, List.length_nil]; omega
    · rw [fl2_append, ← hct, List.take_append_of_le_length (by simp only [List.length_append, List.length_take, List.length_cons, List.length_nil]; omega), List.take_of_length_le (by simp only [List.length_append, List.length_take, List.length_cons, List.length_nil]; omega)]
      rfl
  unfold maxLen at hcm
  clear h hh hct hr hv hcl hu
  go_enter Tryd.func75, Tryd.ntmps75
  go_wp2_with (at_builtin; refine Lib.wpList_append_run _ rfl _ _ _ _ rfl _ _ rfl rfl _ _ (HR.out _) ?_)
  go_ret
  exact ⟨rfl, FIN.out.1, FIN.out.2⟩
set_option maxRecDepth 100000 in
set_option maxHeartbeats 4000000 in
theorem InsLast_any (base n c vb : Nat) (q : Option Addr) (us : List (Value × Value)) (u : Value × Value) (w : World) (h : w.ownsRow base 63 2 (.slice q n c) n (fl2 us)) (hroom : c < n + 1) (hb : base ≤ w.heap.size) (hu : u.1.oneCell' = true ∧ u.2.oneCell' = true) (hn : n ≤ 65536)
    (hv : w.heap[vb]? = some (.cells #[u.1, u.2] 63 (0, 0))) :
    Calls Tryd.prog 75 #[.slice q n c, .int .i64 n, .slice (some ⟨vb, 0, none⟩) 1 1] w fun e w' =>
      ∃ c', e = .returned (.slice (some ⟨w.heap.size, 0, none⟩) (n + 1) c') ∧ w'.ownsRow base 63 2 (.slice (some ⟨w.heap.size, 0, none⟩) (n + 1) c') (n + 1) (fl2 (us ++ [u])) ∧ w.grownBy w' none := by
  obtain ⟨i0, hi0, hz0, hzs, hzb⟩ := info_parts info_vrow
  have hul : us.length = n := by have := h.1; rw [fl2_length] at this; omega
  have hnc : n ≤ c ∧ (q = none → n = 0 ∧ c = 0) ∧ ∀ a, q = some a → ∀ j v, (fl2 us)[j]? = some v → w.cell? (a.add j) = some v := by
    rcases h.2 with ⟨h1, h2⟩ | ⟨g, cap, cur, h1, _, hh, h3, _, h5, h6⟩
    · have e1 : q = none ∧ n = 0 ∧ c = 0 := by simp at h1; exact ⟨h1.1, h1.2.1, h1.2.2⟩
      refine ⟨by omega, fun _ => ⟨e1.2.1, e1.2.2⟩, fun a ha => ?_⟩
      rw [e1.1] at ha; cases ha
    · obtain ⟨rfl, rfl⟩ : q = some ⟨g, 0, none⟩ ∧ c = cap := by simpa using h1
      refine ⟨h3, fun e => by (cases e), fun a ha j v hj => ?_⟩
      cases ha
      rw [Addr.add_lit, Nat.zero_add, cell_of_row _ _ j _ _ _ hh]
      rw [← h6, List.getElem?_take] at hj
      split at hj
      · simpa using hj
      · cases hj
  obtain ⟨hnc, hnil, hcs⟩ := hnc
  have hva : ∀ j x, [u.1, u.2][j]? = some x → w.cell? ((⟨vb, 0, none⟩ : Addr).add j) = some x := fun j x hj => by
    rw [Addr.add_lit, Nat.zero_add, cell_of_row _ _ j _ _ _ hv]
    match j with
    | 0 => simpa using hj
    | 1 => simpa using hj
    | j + 2 => simp at hj
  have h1v : ∀ v ∈ [u.1, u.2], v.oneCell' = true := by intro x hx; simp at hx; rcases hx with rfl | rfl; exact hu.1; exact hu.2
  have hsrc : Src Tryd.prog i0.size 43 (.slice (some ⟨vb, 0, none⟩) 1 1) 1 [u.1, u.2] w := by
    rw [hzs]
    exact Src.ofSlice w Tryd.underlying43 ⟨vb, 0, none⟩ 1 1 [u.1, u.2] rfl hva h1v
  have hold : (Builtin.firstCells i0.size n (.slice q n c)).run Tryd.prog w.drew = .ok (fl2 us).toArray w.drew := by
    rw [hzs]
    cases q with
    | none =>
      obtain ⟨rfl, -⟩ := hnil rfl
      have : us = [] := List.length_eq_zero_iff.1 hul
      rw [this]
      exact run_firstCells_none w.drew 2 0 0 c
    | some a => exact run_firstCells_some w.drew 2 n a n c (fl2 us) (by rw [fl2_length, hul]) (fun j v hj => hcs a rfl j v hj)
  have hrun : ∀ ty, (Builtin.append_ #[43, 43] ty #[.slice q n c, .slice (some ⟨vb, 0, none⟩) 1 1]).run Tryd.prog w = _ := fun ty =>
    run_append_grow_src w 43 43 ty 63 i0 _ Tryd.underlying43 hi0 hz0 q n c (fl2 us) hold _ 1 [u.1, u.2] hsrc hroom (by omega) (by rw [hzb]; exact growslice_fits hroom (by omega))
  obtain ⟨G, hG⟩ : ∃ G, G = grownCap w (n + 1) c 63 := ⟨_, rfl⟩
  rw [← hG] at hrun
  obtain ⟨ROW, hROW⟩ : ∃ ROW : Array Value, ROW = (fl2 us ++ [u.1, u.2]).toArray ++ Builtin.zeroCells (Value.agg #[.slice none 0 0, .slice none 0 0]).cells (G - (n + 1)) := ⟨_, rfl⟩
  rw [← hROW] at hrun
  have hGn : n + 1 ≤ G := by rw [hG]; exact grownCap_ge w _ _ _
  have hGm : G ≤ maxLen := by rw [hG]; exact grownCap_le_maxLen w (n + 1) c 63 (by unfold maxLen; omega)
  have hz2 : (Value.agg #[.slice none 0 0, .slice none 0 0]).cells = #[.slice none 0 0, .slice none 0 0] := rfl
  have zl : ∀ (a b : Value) (k : Nat), (Builtin.zeroCells #[a, b] k).size = k * 2 := fun a b k => by simp [Builtin.zeroCells]
  have hRl : ROW.size = G * 2 := by
    rw [hROW, hz2, Array.size_append, zl, List.size_toArray, List.length_append, fl2_length, hul]; simp; omega
  have FIN : Hid ((w.drew.alloc (.cells ROW 63)).ownsRow base 63 2 (.slice (some ⟨w.heap.size, 0, none⟩) (n + 1) G) (n + 1) (fl2 (us ++ [u])) ∧ w.grownBy (w.drew.alloc (.cells ROW 63)) none) := by
    refine ⟨owns2_shut (cur := ROW.toList) hb (hnew rfl) hGn hGm (by rw [Array.length_toList, hRl]) ?_, ⟨rfl, rfl, rfl, by simp, fun b hb _ => by show (w.heap.push _)[b]? = _; rw [Array.getElem?_push_lt hb, Array.getElem?_eq_getElem hb]⟩⟩
    rw [hROW, Array.toList_append, List.toList_toArray, fl2_append]
    exact List.take_left' (by rw [List.length_append, fl2_length, hul]; simp [fl2]; omega)
  have HR := Lib.hid hrun
  clear h hu hv hva h1v hsrc hold hrun hROW hRl hG hcs hul hGn hGm hb
  go_enter Tryd.func75, Tryd.ntmps75
  cases q with
  | none =>
    obtain ⟨rfl, rfl⟩ := hnil rfl
    go_wp2_with (at_builtin; refine Lib.wpList_append_run _ rfl _ _ _ _ rfl _ _ rfl rfl _ _ (HR.out _) ?_)
    go_ret
    exact ⟨_, rfl, FIN.out.1, FIN.out.2⟩
  | some a =>
    obtain ⟨ab, ao, asp⟩ := a
    go_wp2_with (at_builtin; refine Lib.wpList_append_run _ rfl _ _ _ _ rfl _ _ rfl rfl _ _ (HR.out _) ?_)
    all_goals (go_ret; exact ⟨_, rfl, FIN.out.1, FIN.out.2⟩)
theorem InsEnd_any (base n vb : Nat) (v : Value) (us : List (Value × Value)) (u : Value × Value) (w : World) (h : w.ownsRow base 63 2 v n (fl2 us)) (hb : base ≤ w.heap.size) (hu : u.1.oneCell' = true ∧ u.2.oneCell' = true) (hn : n ≤ 65536)
    (hv : w.heap[vb]? = some (.cells #[u.1, u.2] 63 (0, 0))) :
    Calls Tryd.prog 75 #[v, .int .i64 n, .slice (some ⟨vb, 0, none⟩) 1 1] w fun e w' =>
      ∃ v', e = .returned v' ∧ w'.ownsRow base 63 2 v' (n + 1) (fl2 (us ++ [u])) ∧ w.grownBy w' v.ownBlock ∧ (v'.ownBlock = v.ownBlock ∨ v'.ownBlock = some w.heap.size) := by
  obtain ⟨q, c, rfl⟩ := owns_shape h
  by_cases hroom : n + 1 ≤ c
  · obtain ⟨g, rfl⟩ : ∃ g, q = some ⟨g, 0, none⟩ := by
      rcases h.2 with ⟨h1, h2⟩ | ⟨g, cap, cur, h1, _⟩
      · simp at h1; omega
      · simp at h1; exact ⟨g, h1.1⟩
    refine (InsRoom_any base g n c vb us u w h hroom hu hv).mono ?_
    rintro e w' ⟨rfl, ho, hg⟩
    exact ⟨_, rfl, ho, by simpa [Value.ownBlock] using hg, .inl (by simp [Value.ownBlock])⟩
  · refine (InsLast_any base n c vb q us u w h (by omega) hb hu hn hv).mono ?_
    rintro e w' ⟨c', rfl, ho, g1, g2, g3, g4, g5⟩
    exact ⟨_, rfl, ho, ⟨g1, g2, g3, g4, fun b hb _ => g5 b hb (by simp)⟩, .inr (by simp [Value.ownBlock])⟩
end Go.Proofs.YtbfmdfbnhakolaaDoor
namespace Go.Proofs.YtbfmdfbnhakolaaDoor
open Go.RowKit Go.By
theorem drew_setCell (w : World) (a : Addr) (v : Value) : w.drew.setCell a v = (w.setCell a v).drew := rfl
theorem drew_setCells (g : Nat) : ∀ (vs : List Value) (o : Nat) (w : World), w.drew.setCells g o vs = (w.setCells g o vs).drew
  | [], _, _ => rfl
  | v :: r, o, w => by rw [World.setCells, World.setCells, drew_setCell, drew_setCells g r]
theorem zero_len (a b : Value) (k : Nat) : (Builtin.zeroCells #[a, b] k).size = k * 2 := by simp [Builtin.zeroCells]
set_option maxRecDepth 100000 in
set_option maxHeartbeats 4000000 in
theorem InsGrow_any (base g n c i vb : Nat) (us : List (Value × Value)) (u : Value × Value) (w : World) (h : w.ownsRow base 63 2 (.slice (some ⟨g, 0, none⟩) n c) n (fl2 us)) (hi : i < n) (hroom : c < n + 1) (hu : u.1.oneCell' = true ∧ u.2.oneCell' = true)
    (h1 : ∀ x, x ∈ us → x.1.oneCell' = true ∧ x.2.oneCell' = true) (hn : n ≤ 65536) (hv : w.heap[vb]? = some (.cells #[u.1, u.2] 63 (0, 0))) (hb : base ≤ w.heap.size) :
    Calls Tryd.prog 75 #[.slice (some ⟨g, 0, none⟩) n c, .int .i64 i, .slice (some ⟨vb, 0, none⟩) 1 1] w fun e w' =>
      ∃ v', e = .returned v' ∧ w'.ownsRow base 63 2 v' (n + 1) (fl2 (us.take i ++ u :: us.drop i)) ∧ w.grownBy w' none ∧ v'.ownBlock = some w.heap.size := by
  obtain ⟨i0, hi0, hz0, hzs, hzb⟩ := info_parts info_vrow
  have hul : us.length = n := by have := h.1; rw [fl2_length] at this; omega
  obtain ⟨cur, hg, hh, hnc, hcm, hcl, hct⟩ := owns2_some h
  have hsz : (Tryd.prog.info? 63).map (·.size) = some 2 := by rw [hi0]; simp [hzs]
  have hbw : g < w.heap.size := blk_lt hh
  have hvw : vb < w.heap.size := blk_lt hv
  have hat : ∀ j x, (fl2 us)[j]? = some x → w.cell? ⟨g, j, none⟩ = some x := fun j x hj => by
    rw [cell_arr hh]
    rw [← hct, List.getElem?_take] at hj
    split at hj
    · exact hj
    · cases hj
  have hva : ∀ j x, [u.1, u.2][j]? = some x → w.cell? ⟨vb, j, none⟩ = some x := fun j x hj => by
    rw [cell_of_row _ _ j _ _ _ hv]
    match j with
    | 0 => simpa using hj
    | 1 => simpa using hj
    | j + 2 => simp at hj
  have hold : (Builtin.firstCells i0.size i (.slice (some ⟨g, 0, none⟩) i c)).run Tryd.prog w.drew = .ok (fl2 (us.take i)).toArray w.drew := by
    rw [hzs]
    exact run_firstCells_some w.drew 2 i ⟨g, 0, none⟩ i c (fl2 (us.take i)) (by rw [fl2_length, List.length_take]; omega) (fun j v hj => by
      rw [Addr.add_lit, Nat.zero_add]
      rw [fl2_take, List.getElem?_take] at hj
      split at hj
      · exact hat j v hj
      · cases hj)
  have hik : i + (n + 1 - i) = n + 1 := by omega
  have hkk : (n : Int) + 1 - (i : Int) = ((n + 1 - i : Nat) : Int) := by omega
  obtain ⟨G, hG⟩ : ∃ G, G = grownCap w (n + 1) c 63 := ⟨_, rfl⟩
  obtain ⟨ROW, hROW⟩ : ∃ ROW : Array Value, ROW = (fl2 (us.take i)).toArray ++ Builtin.zeroCells (Value.agg #[.slice none 0 0, .slice none 0 0]).cells (n + 1 - i) ++ Builtin.zeroCells (Value.agg #[.slice none 0 0, .slice none 0 0]).cells (G - (n + 1)) := ⟨_, rfl⟩
  have hrz : ∀ ty, (Builtin.append_ #[43, 3] ty #[.slice (some ⟨g, 0, none⟩) i c, .int .i64 ((n : Int) + 1 - (i : Int))]).run Tryd.prog w = .ok (.slice (some ⟨w.heap.size, 0, none⟩) (n + 1) G) (w.drew.alloc (.cells ROW 63)) := fun ty => by
    have h := Lib.run_append_grow_zeros w 43 3 ty 63 i0 _ .i64 .i64 Tryd.underlying43 Tryd.underlying3 hi0 hz0 (some ⟨g, 0, none⟩) i c (fl2 (us.take i)) hold (n + 1 - i) (by omega) (by omega) (by omega) (by omega) (by rw [hzb]; omega) (by rw [hzb, hik]; exact growslice_fits hroom (by omega))
    rw [hik, ← hG] at h
    rw [hkk, hROW]
    exact h
  have hGn : n + 1 ≤ G := by rw [hG]; exact grownCap_ge w _ _ _
  have hGm : G ≤ maxLen := by rw [hG]; exact grownCap_le_maxLen w (n + 1) c 63 (by unfold maxLen; omega)
  have hz2 : (Value.agg #[.slice none 0 0, .slice none 0 0]).cells = #[.slice none 0 0, .slice none 0 0] := rfl
  have hRl : ROW.size = G * 2 := by
    rw [hROW, hz2, Array.size_append, Array.size_append, zero_len, zero_len, List.size_toArray, fl2_length, List.length_take]; omega
  obtain ⟨W1, hW1⟩ : ∃ W1, W1 = w.drew.alloc (.cells ROW 63) := ⟨_, rfl⟩
  have hh1 : W1.heap[w.heap.size]? = some (.cells (ROW.toList).toArray 63 (0, 0)) := by rw [hW1]; exact hnew rfl
  have hN : ∀ j, j < (n + 1) * 2 → (W1.cell? ⟨w.heap.size, j, none⟩).isSome = true := fun j hj => by
    rw [cell_arr hh1, List.getElem?_eq_getElem (by simp; omega)]; rfl
  have hNf : ∀ j, W1.frozen? ⟨w.heap.size, j, none⟩ = false := fun j => frozen_arr hh1 j
  have hOb : ∀ b j v, b < w.heap.size → w.cell? ⟨b, j, none⟩ = some v → W1.cell? ⟨b, j, none⟩ = some v := fun b j v hb h => by rw [hW1, World.cell?_alloc_past (w := w.drew) _ b j hb]; exact h
  have hcpA : ∀ (W : World), (∀ x, W.cell? x = W1.cell? x) → (∀ x, W.frozen? x = W1.frozen? x) → ∀ ty dc, (Builtin.copy_ #[43, 43] ty #[.slice (some ⟨w.heap.size, i * 2, none⟩) (n + 1 - i) dc, .slice (some ⟨vb, 0, none⟩) 1 1]).run Tryd.prog W = .ok (goInt 1) (W.setCells w.heap.size (i * 2) [u.1, u.2]) := fun W hWc hWf ty dc => by
    have hmin : Nat.min 1 (n + 1 - i) = 1 := by simp only [Nat.min_def]; split <;> omega
    have := run_copy_two (P := Tryd.prog) W 43 43 ty 63 w.heap.size (i * 2) (n + 1 - i) dc ⟨vb, 0, none⟩ 1 1 [u.1, u.2] Tryd.underlying43 hsz (by rw [hmin]; rfl)
      (fun j x hj => by rw [Addr.add_lit, Nat.zero_add, hWc]; exact hOb vb j x hvw (hva j x hj))
      (fun j hj => by rw [hWc]; exact hN _ (by simp at hj; omega)) (fun j hj => by rw [hWf]; exact hNf _) (by intro x hx; simp at hx; rcases hx with rfl | rfl; exact hu.1; exact hu.2)
    rw [hmin] at this
    exact this
  have hdl : (fl2 (us.drop i)).length = (n - i) * 2 := by rw [fl2_length, List.length_drop, hul]
  have hcpB : ∀ (W : World), (∀ x, W.cell? x = (W1.setCells w.heap.size (i * 2) [u.1, u.2]).cell? x) → (∀ x, W.frozen? x = (W1.setCells w.heap.size (i * 2) [u.1, u.2]).frozen? x) → ∀ ty dc sc,
      (Builtin.copy_ #[43, 43] ty #[.slice (some ⟨w.heap.size, (i + 1) * 2, none⟩) (n + 1 - (i + 1)) dc, .slice (some ⟨g, i * 2, none⟩) (n - i) sc]).run Tryd.prog W = .ok (goInt ((n - i : Nat) : Int)) (W.setCells w.heap.size ((i + 1) * 2) (fl2 (us.drop i))) := fun W hWc hWf ty dc sc => by
    have hmin : Nat.min (n - i) (n + 1 - (i + 1)) = n - i := by simp only [Nat.min_def]; split <;> omega
    have := run_copy_two (P := Tryd.prog) W 43 43 ty 63 w.heap.size ((i + 1) * 2) (n + 1 - (i + 1)) dc ⟨g, i * 2, none⟩ (n - i) sc (fl2 (us.drop i)) Tryd.underlying43 hsz (by rw [hmin]; exact hdl)
      (fun j v hj => by
        rw [Addr.add_lit, hWc, World.cell?_setCells_out _ _ _ _ _ (fun h _ => absurd h (by show g ≠ w.heap.size; omega))]
        refine hOb g _ v hbw (hat _ v ?_)
        rw [fl2_drop, List.getElem?_drop] at hj; exact hj)
      (fun j hj => by rw [hWc]; exact isSome_setCells _ _ _ _ (fun t ht => hN _ (by simp at ht; omega)) _ (hN _ (by omega)))
      (fun j hj => by rw [hWf, World.frozen?_setCells]; exact hNf _) (fl2_one fun x hx => h1 x (List.mem_of_mem_drop hx))
    rw [hmin] at this
    exact this
  have hFIN : Hid (∀ W : World, W.heap = ((W1.setCells w.heap.size (i * 2) [u.1, u.2]).setCells w.heap.size ((i + 1) * 2) (fl2 (us.drop i))).heap → W.ownsRow base 63 2 (.slice (some ⟨w.heap.size, 0, none⟩) (n + 1) G) (n + 1) (fl2 (us.take i ++ u :: us.drop i))) := by
    intro W hW
    have k1 := heap_setCells [u.1, u.2] (i * 2) W1 ROW.toList hh1 (by simp; omega)
    have k2 := heap_setCells (fl2 (us.drop i)) ((i + 1) * 2) _ _ k1 (by
      simp only [List.length_append, List.length_take, List.length_drop, List.length_cons, List.length_nil, Array.length_toList, hRl, hdl]; omega)
    refine owns2_shut hb (by rw [hW]; exact k2) hGn hGm ?_ ?_
    · simp only [List.length_append, List.length_take, List.length_drop, List.length_cons, List.length_nil, Array.length_toList, hRl, hdl]; omega
    · have hR : ROW.toList.take (i * 2) = fl2 (us.take i) := by
        rw [hROW, Array.toList_append, Array.toList_append, List.append_assoc, List.toList_toArray]
        exact List.take_left' (by rw [fl2_length, List.length_take]; omega)
      have e1 : (ROW.toList.take (i * 2) ++ [u.1, u.2] ++ ROW.toList.drop (i * 2 + [u.1, u.2].length)).take ((i + 1) * 2) = fl2 (us.take i) ++ [u.1, u.2] := by
        rw [List.take_left' (by simp only [List.length_append, List.length_take, List.length_cons, List.length_nil, Array.length_toList, hRl]; omega), hR]
      rw [e1, List.take_left' (by
        simp only [List.length_append, List.length_cons, List.length_nil, fl2_length, List.length_take, List.length_drop, hul]; omega), fl2_append, fl2_cons]
      simp
  have hGR : Hid (w.grownBy W1 none) := by rw [hW1]; exact ⟨rfl, rfl, rfl, by simp, fun b hb _ => by show (w.heap.push _)[b]? = _; rw [Array.getElem?_push_lt hb, Array.getElem?_eq_getElem hb]⟩
  have hGi : ¬ (G = i) := by omega
  have hGim : ¬ (G = i + 1) := by omega
  have hci : ¬ (c = i) := by omega
  subst hW1
  have hE1 : ∀ x, ((w.alloc (.cells ROW 63)).drew).cell? x = (w.drew.alloc (.cells ROW 63)).cell? x := fun x => rfl
  have hE2 : ∀ x, ((w.alloc (.cells ROW 63)).drew).frozen? x = (w.drew.alloc (.cells ROW 63)).frozen? x := fun x => rfl
  have hF1 : ∀ x, (((w.alloc (.cells ROW 63)).drew.setCells w.heap.size (i * 2) [u.1, u.2]).drew).cell? x = ((w.drew.alloc (.cells ROW 63)).setCells w.heap.size (i * 2) [u.1, u.2]).cell? x := fun x => rfl
  have hF2 : ∀ x, (((w.alloc (.cells ROW 63)).drew.setCells w.heap.size (i * 2) [u.1, u.2]).drew).frozen? x = ((w.drew.alloc (.cells ROW 63)).setCells w.heap.size (i * 2) [u.1, u.2]).frozen? x := fun x => rfl
  have hw1 : IntKind.i64.wrap ((i : Int) + 1) = (i : Int) + 1 := by rw [IntKind.wrap_i64]; omega
  have hw2 : IntKind.i64.wrap ((n : Int) + 1) = (n : Int) + 1 := by rw [IntKind.wrap_i64]; omega
  have hw3 : IntKind.i64.wrap ((n : Int) + 1 - (i : Int)) = (n : Int) + 1 - (i : Int) := by rw [IntKind.wrap_i64]; omega
  have hb1 : (0 : Int) ≤ (i : Int) + 1 := by omega
  have hin : i ≤ n := by omega
  have htn : ((i : Int) + 1).toNat = i + 1 := by omega
  have hb3 : (i : Int) ≤ (n : Int) := by omega
  have hz1 : ((i : Int) == (n : Int)) = false := by simp; omega
  have hz3 : (c : Int) < (n : Int) + 1 := by omega
  unfold maxLen at hcm hGm
  have HA := Lib.hid hcpA; have HB := Lib.hid hcpB; have HZ := Lib.hid hrz
  clear hkk hik hold hROW hG hRl hh hct hcl hv hu h1 hat hva hN hNf hOb hh1 hcpA hcpB hrz hdl hul h
  have mixed : Tryd.prog.follows .mixedOrders = true := by kernel_rfl
  go_enter Tryd.func75, Tryd.ntmps75
  have hcA := HA.out _ hE1 hE2 3 (G - i)
  go_wp2_with (at_builtin; refine Lib.wpList_append_run _ rfl _ _ _ _ rfl _ _ rfl rfl _ _ (HZ.out _) ?_)
  go_region_law_o (refine step_copy_runI rfl _ _ 43 43 rfl (.slice (some ⟨w.heap.size, (i + 1) * 2, none⟩) (n + 1 - (i + 1)) (G - (i + 1))) (.slice (some ⟨g, i * 2, none⟩) (n - i) (c - i)) (by simp [Act.eval, Act.put]) (by simp [Act.eval, Act.put]) (HB.out _ hF1 hF2 3 (G - (i + 1)) (c - i)) ?_)
  clear hcA
  go_wp2
  go_ret
  have hdr : (((w.alloc (.cells ROW 63)).drew.setCells w.heap.size (i * 2) [u.1, u.2]).drew.setCells w.heap.size ((i + 1) * 2) (fl2 (us.drop i))).heap = (((w.drew.alloc (.cells ROW 63)).setCells w.heap.size (i * 2) [u.1, u.2]).setCells w.heap.size ((i + 1) * 2) (fl2 (us.drop i))).heap := by
    have e : (w.alloc (.cells ROW 63)).drew = w.drew.alloc (.cells ROW 63) := rfl
    rw [e, drew_setCells]; rfl
  refine ⟨_, rfl, hFIN.out _ hdr, ?_⟩
  obtain ⟨a1, a2, a3, a4, a5⟩ := hGR.out
  obtain ⟨s1, s2, s3, s4, s5⟩ := grown_trans (grown_trans (grownBy_setCells w.heap.size [u.1, u.2] (i * 2) (w.alloc (.cells ROW 63)).drew) (grownBy_drew _ _)) (grownBy_setCells w.heap.size (fl2 (us.drop i)) ((i + 1) * 2) _)
  exact ⟨⟨s1.trans a1, s2.trans a2, s3.trans a3, Nat.le_trans a4 s4, fun b hb hne => (s5 b (Nat.lt_of_lt_of_le hb a4) (fun e => by injection e; omega)).trans (a5 b hb hne)⟩, by simp [Value.ownBlock]⟩
end Go.Proofs.YtbfmdfbnhakolaaDoor
namespace Go.By
open Go.RowKit
section
variable {T2 T1 : TypeId} {w w' : World} {base n : Nat} {v : Value} {K : List (List UInt8 × List UInt8)}
theorem Bw.one {xs : List UInt8} (h : Bw T1 w base v xs) : v.oneCell' = true := by obtain ⟨q, m, c, rfl, _⟩ := h; rfl
/-- rows with one more in their midst -/
theorem RwL.mid {v' : Value} {i : Nat} {u : Value × Value} {k : List UInt8 × List UInt8} {vs : List (Value × Value)} (a : vs.length = n) (b : K.length = n) (o : w.ownsRow base T2 2 v n (fl2 vs))
    (r : ∀ (j : Nat) (u : Value × Value), vs[j]? = some u → ∃ k, K[j]? = some k ∧ Bw T1 w base u.1 k.1 ∧ Bw T1 w base u.2 k.2) (hT : T1 ≠ T2) (h1 : Bw T1 w base u.1 k.1) (h2 : Bw T1 w base u.2 k.2) (hi : i ≤ n)
    (ho : w'.ownsRow base T2 2 v' (n + 1) (fl2 (vs.take i ++ u :: vs.drop i))) (hg : w.grownBy w' v.ownBlock) : RwL T2 T1 w' base v' (n + 1) (K.take i ++ k :: K.drop i) := by
  refine ⟨vs.take i ++ u :: vs.drop i, by simp [a]; omega, by simp [b]; omega, ho, ?_⟩
  intro j x hj
  have lv : (vs.take i).length = i := by rw [List.length_take]; omega
  have lk : (K.take i).length = i := by rw [List.length_take]; omega
  by_cases hji : j < i
  · rw [List.getElem?_append_left (by omega), List.getElem?_take, if_pos hji] at hj
    obtain ⟨k', hk, g1, g2⟩ := r j x hj
    exact ⟨k', by rw [List.getElem?_append_left (by omega), List.getElem?_take, if_pos hji]; exact hk, g1.grown hT o hg, g2.grown hT o hg⟩
  · rw [List.getElem?_append_right (by omega), lv] at hj
    by_cases hje : j = i
    · subst hje
      rw [Nat.sub_self] at hj
      have : u = x := by simpa using hj
      subst this
      exact ⟨k, by rw [List.getElem?_append_right (by omega), lk, Nat.sub_self]; rfl, h1.grown hT o hg, h2.grown hT o hg⟩
    · rw [show j - i = (j - 1 - i) + 1 by omega, List.getElem?_cons_succ, List.getElem?_drop, show i + (j - 1 - i) = j - 1 by omega] at hj
      obtain ⟨k', hk, g1, g2⟩ := r (j - 1) x hj
      exact ⟨k', by rw [List.getElem?_append_right (by omega), lk, show j - i = (j - 1 - i) + 1 by omega, List.getElem?_cons_succ, List.getElem?_drop, show i + (j - 1 - i) = j - 1 by omega]; exact hk, g1.grown hT o hg, g2.grown hT o hg⟩
theorem fl2_set (us : List (Value × Value)) : ∀ (i : Nat) (u : Value × Value), fl2 (us.set i u) = ((fl2 us).set (i * 2) u.1).set (i * 2 + 1) u.2 := by
  induction us with
  | nil => intro i u; simp [fl2]
  | cons x us ih =>
    intro i u
    cases i with
    | zero => rfl
    | succ i =>
      rw [List.set_cons_succ, fl2_cons, fl2_cons, ih, show (i + 1) * 2 = i * 2 + 1 + 1 by omega]
      rfl
/-- .. with another row in the place of one -/
theorem RwL.put {g c i : Nat} {u1 u2 : Value} {k : List UInt8 × List UInt8} (h : RwL T2 T1 w base (.slice (some ⟨g, 0, none⟩) n c) n K) (hT : T1 ≠ T2) (hi : i < n) (h1 : Bw T1 w base u1 k.1) (h2 : Bw T1 w base u2 k.2) :
    RwL T2 T1 ((w.setCell ⟨g, i * 2, none⟩ u1).setCell ⟨g, i * 2 + 1, none⟩ u2) base (.slice (some ⟨g, 0, none⟩) n c) n (K.set i k) := by
  obtain ⟨vs, a, b, o, r⟩ := h
  have hg : w.grownBy ((w.setCell ⟨g, i * 2, none⟩ u1).setCell ⟨g, i * 2 + 1, none⟩ u2) (Value.slice (some ⟨g, 0, none⟩) n c).ownBlock := by
    have := grown_trans (grownBy_setCell w g (i * 2) u1) (grownBy_setCell (w.setCell ⟨g, i * 2, none⟩ u1) g (i * 2 + 1) u2)
    simpa [Value.ownBlock] using this
  refine ⟨vs.set i (u1, u2), by simp [a], by simp [b], ?_, ?_⟩
  · refine ⟨by rw [fl2_length, List.length_set, a], .inr ?_⟩
    rcases o.2 with ⟨hv, _⟩ | ⟨g', cap, cur, hv, hb, hh, e1, e2, e3, e4⟩
    · simp at hv
    · obtain ⟨rfl, rfl⟩ : g = g' ∧ c = cap := by simpa using hv
      refine ⟨g, c, _, rfl, hb, hss (hss hh), e1, e2, by simp [e3], ?_⟩
      rw [fl2_set, ← e4, Array.toList_setIfInBounds, Array.toList_setIfInBounds, List.take_set, List.take_set]
  · intro j x hj
    rw [List.getElem?_set] at hj
    by_cases e : i = j
    · subst e
      rw [if_pos rfl, if_pos (by omega)] at hj
      cases hj
      exact ⟨k, by rw [List.getElem?_set, if_pos rfl, if_pos (by omega)], h1.grown hT o hg, h2.grown hT o hg⟩
    · rw [if_neg e] at hj
      obtain ⟨k', hk, g1, g2⟩ := r j x hj
      exact ⟨k', by rw [List.getElem?_set, if_neg e]; exact hk, g1.grown hT o hg, g2.grown hT o hg⟩
end
end Go.By
namespace Go.Proofs.YtbfmdfbnhakolaaDoor
open Go.RowKit Go.By
end Go.Proofs.YtbfmdfbnhakolaaDoor
namespace Go.By
open Go.RowKit
/-- a value that is told once and for all -/
def LV (ops : Array Oper) (lv : Nat → Option Value) (k : Nat) (σ : Nat → Value) : Prop := ∀ u d, lv k = some u → dstOf ops k = some d → σ d = u
/-- m: the last operation, which waits for all others; s: the call -/
def midB (ops : Array Oper) (n m s ds : Nat) : Bool := decide (ops.size = m + 1) && decide (s < m) && decide (ds < n) && (match ops[m]? with
  | some o => o.guard.isNone && o.dst.isNone
  | none => false) && (match ops[s]? with
  | some o => o.guard.isNone && o.dst == some ds
  | none => false) && ((List.range m).all fun i => match ops[i]? with
  | some o => o.guard.isNone && match o.dst with
    | some d => decide (d < n)
    | none => false
  | none => false) && (List.range m).all fun i => (List.range (m + 1)).any fun j => decide (i < j) && match ops[j]? with
  | some o => (preds o).contains i
  | none => false
theorem wp_region_mid {P : Program} {ops : Array Oper} {Q : Exit → Act → World → Prop} {id : Nat} {a0 : Act} {w0 : World} (sh : Nat → Shp) (lv : Nat → Option Value) (n m s ds : Nat) (P1 : Value → World → Prop) (hn : a0.tmps.size = n) (hm : P.follows .mixedOrders = true) (hback : backB ops = true) (hdist : distB ops = true)
    (hmid : midB ops n m s ds = true) (hlv : ∀ j u, lv j = some u → sh j = Shp.val u) (os : Oper) (hos : ops[s]? = some os)
    (eachA : ∀ i o, i < m → i ≠ s → ops[i]? = some o → (preds o).contains s = false → StepS P ops Q a0 w0.drew sh i o)
    (stepS : ∀ a w, Below w0.heap.size w0 w → a.tmps.size = a0.tmps.size → (∀ k, k ∈ preds os → InvS ops sh k (sl a) w) → os.wp P a w (fun a' w' => ∃ v, a' = a.put (some ds) v ∧ P1 v w') Q)
    (eachB : ∀ i o, i < m → i ≠ s → ops[i]? = some o → (preds os).contains i = false → ∀ a w v, P1 v w → a.tmps.size = a0.tmps.size → sl a ds = v → (∀ k, k ∈ preds o → k ≠ s → LV ops lv k (sl a)) → (∀ t, initAt ops i t = true → sl a t = sl a0 t) → ∃ u, lv i = some u ∧ (execOp a.eval o).run P w = .ok (.value u) w)
    (fin : ∀ a w v o, ops[m]? = some o → P1 v w → a.tmps.size = a0.tmps.size → a.defers = a0.defers → sl a ds = v → (∀ j, j < m → j ≠ s → LV ops lv j (sl a)) → (∀ t, (ops.toList.all fun o => o.dst != some t) = true → sl a t = sl a0 t) → o.wp P a w (fun a' w' => Q .normal a' w') Q) :
    (Code.region id ops true).wp P Q a0 w0 := by
  unfold midB at hmid
  simp only [Bool.and_eq_true, decide_eq_true_eq] at hmid
  obtain ⟨⟨⟨⟨⟨⟨hsz, hsm⟩, hdsn⟩, hl2⟩, hs2⟩, hall2⟩, hpl2⟩ := hmid
  have hm' : m < ops.size := by omega
  obtain ⟨ol, hol⟩ : ∃ ol, ops[m]? = some ol := ⟨_, Array.getElem?_eq_getElem hm'⟩
  rw [hol] at hl2
  simp only [Bool.and_eq_true] at hl2
  have hguard : ol.guard = none := by cases hg : ol.guard <;> simp [hg] at hl2 ⊢
  rw [hos] at hs2
  simp only [Bool.and_eq_true, beq_iff_eq] at hs2
  have hgs : os.guard = none := by cases hg : os.guard <;> simp [hg] at hs2 ⊢
  have hds : os.dst = some ds := hs2.2
  have hops : ∀ i o, i < m → ops[i]? = some o → o.guard = none ∧ ∃ d, o.dst = some d ∧ d < n := fun i o hi ho => by
    have := List.all_eq_true.1 hall2 i (List.mem_range.2 hi)
    rw [ho] at this
    simp only [Bool.and_eq_true] at this
    refine ⟨by cases hg : o.guard <;> simp [hg] at this ⊢, ?_⟩
    cases hd : o.dst with
    | none => have h2 := this.2; rw [hd] at h2; simp at h2
    | some d => have h2 := this.2; rw [hd] at h2; exact ⟨d, rfl, by simpa using h2⟩
  have hpl : ∀ i, i < m → ∃ (j : Nat) (o : Oper), i < j ∧ j ≤ m ∧ ops[j]? = some o ∧ i ∈ preds o := fun i hi => by
    obtain ⟨j, hj, h⟩ := List.any_eq_true.1 (List.all_eq_true.1 hpl2 i (List.mem_range.2 hi))
    have hjm := List.mem_range.1 hj
    rw [Bool.and_eq_true] at h
    obtain ⟨oj, hoj⟩ : ∃ oj, ops[j]? = some oj := ⟨_, Array.getElem?_eq_getElem (by omega)⟩
    have h2 := h.2
    rw [hoj] at h2
    exact ⟨j, oj, of_decide_eq_true h.1, by omega, hoj, by simpa using h2⟩
  have hne : ∀ (i j : Nat) (oi oj : Oper) (d : Nat), i ≠ j → ops[i]? = some oi → ops[j]? = some oj → oj.dst = some d → oi.dst ≠ some d := by
    intro i j oi oj d hij hoi hoj hdj e
    have hi' : i < ops.size := (Array.getElem?_eq_some_iff.1 hoi).1
    have hj' : j < ops.size := (Array.getElem?_eq_some_iff.1 hoj).1
    have := List.all_eq_true.1 (List.all_eq_true.1 hdist i (List.mem_range.2 hi')) j (List.mem_range.2 hj')
    rw [hoi, hoj] at this
    simp [e, hdj, hij] at this
  have dst_of : ∀ {j : Nat} {oj : Oper} {d : Nat}, ops[j]? = some oj → dstOf ops j = some d → oj.dst = some d := fun {_ _ _} hoj h => by simpa [dstOf, hoj] using h
  refine wp_region_any hm ?_
  show wpAny P .any ops Q ops.size (Array.replicate ops.size false) a0 w0.drew
  have main : ∀ (fuel : Nat) (listed : Array Bool) (a : Act) (w : World), unl ops.size listed ≤ fuel → listed.getD m true = false → a.tmps.size = a0.tmps.size → a.defers = a0.defers →
      (listed.getD s false = false → Below w0.heap.size w0 w ∧ ∀ j, j < m → listed.getD j false = true → InvS ops sh j (sl a) w) →
      (listed.getD s false = true → P1 (sl a ds) w ∧ ∀ j, j < m → j ≠ s → listed.getD j false = true → LV ops lv j (sl a)) →
      (∀ j o, listed.getD j false = true → ops[j]? = some o → ∀ k, k ∈ preds o → listed.getD k false = true) →
      (∀ j, j < ops.size → listed.getD j true = true → listed.getD j false = true) →
      (∀ t, (∀ j o, j < m → listed.getD j false = true → ops[j]? = some o → o.dst ≠ some t) → sl a t = sl a0 t) → wpAny P .any ops Q fuel listed a w := by
    intro fuel
    induction fuel with
    | zero =>
      intro listed a w hu hlm
      exfalso
      have h0 : unl ops.size listed = 0 := by omega
      unfold unl at h0
      have := List.countP_eq_zero.1 h0 m (List.mem_range.2 hm')
      simp [hlm] at this
    | succ fuel ih =>
      intro listed a w hu hlm hs hd hA hB hcl hlt ht
      refine ⟨fun hr => ?_, fun i hi => ?_⟩
      · exfalso
        have hall : ∀ k j, j < k → j < ops.size → listed.getD j false = true := by
          intro k
          induction k with
          | zero => intro j hj; omega
          | succ k ihk =>
            intro j hj hjs
            refine hlt j hjs ?_
            cases hb : listed.getD j true with
            | true => rfl
            | false =>
              exfalso
              have ho : ops[j]? = some ops[j] := Array.getElem?_eq_getElem hjs
              have : j ∈ Region.ready .any ops listed := mem_ready.2 ⟨hjs, hb, _, ho, fun q hq => by
                have hbk := List.all_eq_true.1 hback j (List.mem_range.2 hjs)
                rw [ho] at hbk
                have hkj := of_decide_eq_true (List.all_eq_true.1 hbk q hq)
                exact ihk q (by omega) (by omega)⟩
              rw [hr] at this; cases this
        exact (getD_tf hlm).1 (hall (m + 1) m (by omega) hm')
      · obtain ⟨h1, h2, o, ho, h3⟩ := mem_ready.1 hi
        obtain ⟨hnl, his⟩ := getD_tf h2
        have gset : ∀ j (d : Bool), (listed.setIfInBounds i true).getD j d = if i = j then true else listed.getD j d := by
          intro j d
          simp only [Array.getD_eq_getD_getElem?, Array.getElem?_setIfInBounds]
          by_cases e : i = j
          · subst e; simp [his]
          · simp [e]
        by_cases him : i = m
        · subst him
          rw [hol] at ho; cases ho
          have hdown : ∀ d j, i - j ≤ d → j < i → listed.getD j false = true := by
            intro d
            induction d with
            | zero => intro j h4 h5; omega
            | succ d ihd =>
              intro j h4 h5
              obtain ⟨j2, o2, g1, g2, g3, g4⟩ := hpl j h5
              by_cases e : j2 = i
              · subst e; rw [hol] at g3; cases g3; exact h3 j g4
              · exact hcl j2 o2 (ihd j2 (by omega) (by omega)) g3 j g4
          have hdn : ∀ j, j < i → listed.getD j false = true := fun j hj => hdown i j (by omega) hj
          obtain ⟨hP1, hLV⟩ := hB (hdn s hsm)
          have hf := fin a w _ ol hol hP1 hs hd rfl (fun j hj hjs => hLV j hj hjs (hdn j hj)) (fun t htt => ht t (fun j oj hj _ hoj => by
            have := List.all_eq_true.1 htt oj (by rw [Array.mem_toList_iff]; exact Array.mem_of_getElem? hoj)
            simpa using this))
          unfold wpOp
          rw [hol]
          show if Region.wanted ol (yielded ops a.tmps) = true then _ else _
          rw [if_pos (by simp [Region.wanted, hguard])]
          refine .inl (Oper.wp_mono (fun a' w' hq => wpAny_done _ (fun j hj => ?_) hq) hf)
          rw [gset]
          by_cases e2 : i = j
          · rw [if_pos e2]
          · rw [if_neg e2]; exact getD_ft (hdn j (by omega))
        · have him' : i < m := by omega
          have hpm : ∀ k, k ∈ preds o → k < m := fun k hk => by
            have hbk := List.all_eq_true.1 hback i (List.mem_range.2 h1)
            rw [ho] at hbk
            have := of_decide_eq_true (List.all_eq_true.1 hbk k hk); omega
          obtain ⟨hg, d, hdd, hdn⟩ := hops i o him' ho
          have hda : d < a.tmps.size := by rw [hs, hn]; exact hdn
          have next : ∀ (v : Value) (w' : World),
              ((listed.setIfInBounds i true).getD s false = false → Below w0.heap.size w0 w' ∧ ∀ j, j < m → (listed.setIfInBounds i true).getD j false = true → InvS ops sh j (sl (a.put o.dst v)) w') →
              ((listed.setIfInBounds i true).getD s false = true → P1 (sl (a.put o.dst v) ds) w' ∧ ∀ j, j < m → j ≠ s → (listed.setIfInBounds i true).getD j false = true → LV ops lv j (sl (a.put o.dst v))) →
              wpAny P .any ops Q fuel (listed.setIfInBounds i true) (a.put o.dst v) w' := by
            intro v w' gA gB
            refine ih _ _ _ (by have := unl_set (n := ops.size) h1 h2; omega) (by rw [gset, if_neg him]; exact hlm) ((put_size _ _ _).trans hs) ((put_defers _ _ _).trans hd) gA gB ?_ ?_ ?_
            · intro j oj hj hoj k hk
              rw [gset] at hj ⊢
              by_cases e : i = k
              · rw [if_pos e]
              · rw [if_neg e]
                by_cases e' : i = j
                · subst e'; rw [ho] at hoj; cases hoj; exact h3 k hk
                · rw [if_neg e'] at hj; exact hcl j oj hj hoj k hk
            · intro j hj hl
              rw [gset] at hl ⊢
              by_cases e : i = j
              · rw [if_pos e]
              · rw [if_neg e] at hl ⊢; exact hlt j hj hl
            · intro t htt
              have hdt : o.dst ≠ some t := htt i o him' (by rw [gset, if_pos rfl]) ho
              rw [put_sl _ _ _ _ hdt]
              exact ht t (fun j oj hj hl hoj => htt j oj hj (by rw [gset]; split <;> simp [hl]) hoj)
          have hti : ∀ t, initAt ops i t = true → sl a t = sl a0 t := fun t hti => by
            refine ht t (fun j oj hj hlj hoj hdj => ?_)
            have := List.all_eq_true.1 hti j (List.mem_range.2 (by omega))
            rw [hoj] at this
            by_cases e : j = i
            · subst e; exact hnl hlj
            · simp [e, hdj] at this
              exact hnl (hcl j oj hlj hoj i this)
          unfold wpOp
          rw [ho]
          show if Region.wanted o (yielded ops a.tmps) = true then _ else _
          rw [if_pos (by simp [Region.wanted, hg])]
          left
          by_cases hes : i = s
          · subst hes
            rw [hos] at ho; cases ho
            have hsl : listed.getD i false = false := by cases h : listed.getD i false <;> simp_all
            obtain ⟨hbw, hI⟩ := hA hsl
            refine Oper.wp_mono ?_ (stepS a w hbw hs (fun k hk => hI k (hpm k hk) (h3 k hk)))
            rintro a' w' ⟨v, rfl, hP⟩
            have ed : a.put (some ds) v = a.put os.dst v := by rw [hds]
            rw [ed]
            refine next v w' (fun h => ?_) (fun _ => ⟨?_, fun j hj hjs hl => ?_⟩)
            · rw [gset, if_pos rfl] at h; cases h
            · rw [hds, put_same _ _ _ (by rw [hs, hn]; exact hdsn)]; exact hP
            · rw [gset, if_neg (fun e => hjs e.symm)] at hl
              intro u d' hu hd'
              obtain ⟨oj, hoj⟩ : ∃ oj, ops[j]? = some oj := ⟨_, Array.getElem?_eq_getElem (by omega)⟩
              have hdj := dst_of hoj hd'
              rw [put_sl _ _ _ _ (hne i j os oj d' (fun e => hjs e.symm) hos hoj hdj)]
              have := hI j hj hl
              unfold InvS at this
              rw [hd', hlv j u hu] at this
              exact this
          · cases hsl : listed.getD s false with
            | false =>
              obtain ⟨hbw, hI⟩ := hA hsl
              have hns : (preds o).contains s = false := by
                cases hc : (preds o).contains s with
                | false => rfl
                | true => have := h3 s (by simpa using hc); rw [hsl] at this; cases this
              have hst := eachA i o him' hes ho hns a w ⟨hbw.os, hbw.tape, hbw.output, hbw.size, hbw.block⟩ hs (fun k hk => hI k (hpm k hk) (h3 k hk)) hti
              rw [if_pos (by simp [Region.wanted, hg])] at hst
              refine Oper.wp_mono ?_ hst
              rintro a' w' ⟨v, rfl, hb, hok⟩
              refine next v w' (fun _ => ⟨hbw.trans (hb.mono hbw.size), fun j hj hl => ?_⟩) (fun h => ?_)
              · rw [gset] at hl
                unfold InvS
                by_cases e : i = j
                · subst e
                  have : dstOf ops i = some d := by simp [dstOf, ho, hdd]
                  rw [this, hdd]
                  show (sh i).ok (sl (a.put (some d) v) d) w'
                  rw [put_same _ _ _ hda]; exact hok
                · rw [if_neg e] at hl
                  have hIj := hI j hj hl
                  unfold InvS at hIj
                  obtain ⟨oj, hoj⟩ : ∃ oj, ops[j]? = some oj := ⟨_, Array.getElem?_eq_getElem (by omega)⟩
                  cases hdj : dstOf ops j with
                  | none => trivial
                  | some d' =>
                    rw [hdj] at hIj
                    show (sh j).ok (sl (a.put o.dst v) d') w'
                    rw [put_sl _ _ _ _ (hne i j o oj d' e ho hoj (dst_of hoj hdj))]
                    exact (sh j).keep _ _ _ hIj hb
              · rw [gset, if_neg hes, hsl] at h; cases h
            | true =>
              obtain ⟨hP1, hLV⟩ := hB hsl
              have hns : (preds os).contains i = false := by
                cases hc : (preds os).contains i with
                | false => rfl
                | true => exact absurd (hcl s os hsl hos i (by simpa using hc)) hnl
              obtain ⟨u, hu, hrun⟩ := eachB i o him' hes ho hns a w _ hP1 hs rfl (fun k hk hks => hLV k (hpm k hk) hks (h3 k hk)) hti
              refine wp_val u hrun (next u w (fun h => ?_) (fun _ => ⟨?_, fun j hj hjs hl => ?_⟩))
              · rw [gset, if_neg hes, hsl] at h; cases h
              · rw [put_sl _ _ _ _ (hne i s o os ds hes ho hos hds)]; exact hP1
              · rw [gset] at hl
                intro u' d' hu' hd'
                by_cases e : i = j
                · subst e
                  rw [hu] at hu'; cases hu'
                  have : dstOf ops i = some d := by simp [dstOf, ho, hdd]
                  rw [this] at hd'; cases hd'
                  rw [hdd, put_same _ _ _ hda]
                · rw [if_neg e] at hl
                  obtain ⟨oj, hoj⟩ : ∃ oj, ops[j]? = some oj := ⟨_, Array.getElem?_eq_getElem (by omega)⟩
                  rw [put_sl _ _ _ _ (hne i j o oj d' e ho hoj (dst_of hoj hd'))]
                  exact hLV j hj hjs hl u' d' hu' hd'
  have rep : ∀ j, (Array.replicate ops.size false).getD j false = false := fun j => by
    simp [Array.getD_eq_getD_getElem?, Array.getElem?_replicate]; split <;> rfl
  refine main ops.size _ a0 w0.drew ?_ ?_ rfl rfl (fun _ => ⟨⟨rfl, rfl, rfl, Nat.le_refl _, fun _ _ => rfl⟩, fun j _ hl => ?_⟩) (fun h => ?_) ?_ ?_ ?_
  · unfold unl; exact Nat.le_trans List.countP_le_length (by simp)
  · simp [Array.getD_eq_getD_getElem?, Array.getElem?_replicate, hm']
  · rw [rep] at hl; cases hl
  · rw [rep] at h; cases h
  · intro j o hj; rw [rep] at hj; cases hj
  · intro j hj hl; simp [Array.getD_eq_getD_getElem?, Array.getElem?_replicate, hj] at hl
  · intro t _; rfl
end Go.By
namespace Go.Proofs.YtbfmdfbnhakolaaDoor
open Go.RowKit Go.By
theorem enters_behind : Enters Tryd.prog 73 := enters_of Tryd.func73 (by kernel_rfl) rfl
set_option maxRecDepth 100000 in
set_option maxHeartbeats 4000000 in
theorem Behind_any (base be k t n : Nat) (v : Value) (K : List Rw) (b2 b8 i : Nat) (at_ : Int) (y : Rw) (w : World) (hE : Elm w base be k t v n K) (h2 : w.cell? ⟨b2, 0, none⟩ = some (.pointer (some ⟨be, 0, none⟩))) (h8 : w.cell? ⟨b8, 0, none⟩ = some (.int .i64 at_)) (hi : i < n) (hy : K[i]? = some y) :
    Calls Tryd.prog 73 (#[.int .i64 i] ++ #[.pointer (some ⟨b2, 0, none⟩), .pointer (some ⟨b8, 0, none⟩)]) w fun e w' => e = .returned (.bool (decide (at_ < leadS y.1))) ∧ Below w.heap.size w w' := by
  obtain ⟨q, c, rfl⟩ := hE.rows.shape
  obtain ⟨g, kk, q1, m1, c1, q2, m2, c2, rfl, e1, e2, hkk, t1, t2⟩ := hE.rows.at hi
  have hyk : kk = y := by have h := hkk.out; rw [hy] at h; cases h; rfl
  subst hyk
  obtain ⟨f0, f1, f2⟩ := cells3 hE.box
  have T1 := Lib.hid t1
  have hin : (i : Int) < (n : Int) := by omega
  clear hE t1 t2 hkk hy e2
  go_enter Tryd.func73, Tryd.ntmps73
  go_wp2
  refine wp_region_shapes (fun ix => ([.val (.pointer (some ⟨be, 0, none⟩)), .val (.pointer (some ⟨be, 0, none⟩)), .val (.pointer (some ⟨be, 2, none⟩)), .val (.slice (some ⟨g, 0, none⟩) n c), .val (.int .i64 i), .val (.pointer (some ⟨g, i * 2, none⟩)), .val (.pointer (some ⟨g, i * 2, none⟩)), .val (.slice q1 m1 c1), .val (.int .i64 (leadS kk.1)), .val (.int .i64 at_), .val (.bool (decide (at_ < leadS kk.1))), .val (.bool (decide (at_ < leadS kk.1)))][ix]?).getD (.any)) 16 rfl (by kernel_rfl) (by decide) (by decide) (by decide) ?_ ?_
  · refine ⟨?_, ?_, ?_, ?_, ?_, ?_, ?_, ?_, ?_, ?_, ?_, ?_, trivial⟩
    · intro a W hb0 hs hp hi; have hb := undrew hb0; clear hb0
      have tt : sl a 1 = .pointer (some ⟨b2, 0, none⟩) := hi 1 (by decide)
      have dd0 := (hb.cell (p := ⟨b2, 0, none⟩) (lt_of_cell h2)).trans h2
      refine ite_y rfl (wp_val (.pointer (some ⟨be, 0, none⟩)) ?_ ?_)
      · simp only [execOp, eval_tmp, tt]; simp [go_sem, dd0]
      · exact ⟨_, rfl, Below.refl _ _, rfl⟩
    · intro a W hb0 hs hp hi; have hb := undrew hb0; clear hb0
      have tt : sl a 5 = .pointer (some ⟨be, 0, none⟩) := hp 0 (by decide)
      refine ite_y rfl (wp_val (.pointer (some ⟨be, 0, none⟩)) ?_ ?_)
      · simp only [execOp, eval_tmp, tt]; simp [go_sem]
      · exact ⟨_, rfl, Below.refl _ _, rfl⟩
    · intro a W hb0 hs hp hi; have hb := undrew hb0; clear hb0
      have t6 : sl a 6 = .pointer (some ⟨be, 0, none⟩) := hp 1 (by decide)
      refine ite_y rfl (wp_val (.pointer (some ⟨be, 2, none⟩)) ?_ ?_)
      · simp only [execOp, eval_tmp, eval_const, t6]; simp [go_sem]
      · exact ⟨_, rfl, Below.refl _ _, rfl⟩
    · intro a W hb0 hs hp hi; have hb := undrew hb0; clear hb0
      have tt : sl a 7 = .pointer (some ⟨be, 2, none⟩) := hp 2 (by decide)
      have dd := (hb.cell (p := ⟨be, 2, none⟩) (lt_of_cell f2)).trans f2
      refine ite_y rfl (wp_val (.slice (some ⟨g, 0, none⟩) n c) ?_ ?_)
      · simp only [execOp, eval_tmp, tt]; simp [go_sem, dd]
      · exact ⟨_, rfl, Below.refl _ _, rfl⟩
    · intro a W hb0 hs hp hi; have hb := undrew hb0; clear hb0
      have t0 : sl a 0 = .int .i64 i := hi 0 (by decide)
      exact ite_y rfl (wp_val (sl a 0) rfl ⟨_, rfl, Below.refl _ _, t0⟩)
    · intro a W hb0 hs hp hi; have hb := undrew hb0; clear hb0
      have t8 : sl a 8 = .slice (some ⟨g, 0, none⟩) n c := hp 3 (by decide)
      have t9 : sl a 9 = .int .i64 i := hp 4 (by decide)
      refine ite_y rfl (wp_val (.pointer (some ⟨g, i * 2, none⟩)) ?_ ?_)
      · simp only [execOp, eval_tmp, eval_const, t8, t9]; simp [go_sem, hin, hi]
      · exact ⟨_, rfl, Below.refl _ _, rfl⟩
    · intro a W hb0 hs hp hi; have hb := undrew hb0; clear hb0
      have t10 : sl a 10 = .pointer (some ⟨g, i * 2, none⟩) := hp 5 (by decide)
      refine ite_y rfl (wp_val (.pointer (some ⟨g, i * 2, none⟩)) ?_ ?_)
      · simp only [execOp, eval_tmp, eval_const, t10]; simp [go_sem]
      · exact ⟨_, rfl, Below.refl _ _, rfl⟩
    · intro a W hb0 hs hp hi; have hb := undrew hb0; clear hb0
      have tt : sl a 11 = .pointer (some ⟨g, i * 2, none⟩) := hp 6 (by decide)
      have dd0 := (hb.cell (p := ⟨g, i * 2, none⟩) (lt_of_cell e1)).trans e1
      refine ite_y rfl (wp_val (.slice q1 m1 c1) ?_ ?_)
      · simp only [execOp, eval_tmp, tt]; simp [go_sem, dd0]
      · exact ⟨_, rfl, Below.refl _ _, rfl⟩
    · intro a W hb0 hs hp hi; have hb := undrew hb0; clear hb0
      have t12 : sl a 12 = .slice q1 m1 c1 := hp 7 (by decide)
      refine ite_y rfl (wp_enter 70 #[.slice q1 m1 c1] ?_ (Lead_any q1 m1 c1 kk.1 W (T1.out.keep hb)) ?_)
      · simp only [execOp, resolve, List.map_toArray, List.map, eval_tmp, eval_func, eval_const, t12]; simp [go_sem]
      · rintro e W' ⟨rfl, rfl⟩; exact ⟨_, rfl, _, rfl, Below.refl _ _, rfl⟩
    · intro a W hb0 hs hp hi; have hb := undrew hb0; clear hb0
      have tt : sl a 2 = .pointer (some ⟨b8, 0, none⟩) := hi 2 (by decide)
      have dd0 := (hb.cell (p := ⟨b8, 0, none⟩) (lt_of_cell h8)).trans h8
      refine ite_y rfl (wp_val (.int .i64 at_) ?_ ?_)
      · simp only [execOp, eval_tmp, tt]; simp [go_sem, dd0]
      · exact ⟨_, rfl, Below.refl _ _, rfl⟩
    · intro a W hb0 hs hp hi; have hb := undrew hb0; clear hb0
      have t13 : sl a 13 = .int .i64 (leadS kk.1) := hp 8 (by decide)
      have t14 : sl a 14 = .int .i64 at_ := hp 9 (by decide)
      refine ite_y rfl (wp_val (.bool (decide (at_ < leadS kk.1))) ?_ ?_)
      · simp only [execOp, eval_tmp, eval_const, t13, t14]; simp [go_sem]
      · exact ⟨_, rfl, Below.refl _ _, rfl⟩
    · intro a W hb0 hs hp hi; have hb := undrew hb0; clear hb0
      have t15 : sl a 15 = .bool (decide (at_ < leadS kk.1)) := hp 10 (by decide)
      exact ite_y rfl (wp_val (sl a 15) rfl ⟨_, rfl, Below.refl _ _, t15⟩)
  intro a w2 hb hs hd hI ht
  have ha := act_is [5, 6, 7, 8, 9, 10, 11, 12, 13, 14, 15, 4] hs hd ht (by decide)
  have t4 : sl a 4 = .bool (decide (at_ < leadS kk.1)) := hI 11 (by decide)
  simp only [List.foldl, t4] at ha
  generalize sl a 5 = u5 at ha
  generalize sl a 6 = u6 at ha
  generalize sl a 7 = u7 at ha
  generalize sl a 8 = u8 at ha
  generalize sl a 9 = u9 at ha
  generalize sl a 10 = u10 at ha
  generalize sl a 11 = u11 at ha
  generalize sl a 12 = u12 at ha
  generalize sl a 13 = u13 at ha
  generalize sl a 14 = u14 at ha
  generalize sl a 15 = u15 at ha
  simp only [Act.put, List.setIfInBounds_toArray, List.set_cons_zero, List.set_cons_succ] at ha
  rw [ha]
  clear ha hI ht
  clear f0 f1 f2 e1 h2 h8
  have HB := Lib.hid hb
  clear hb
  go_wp2
  go_ret
  exact ⟨rfl, HB.out⟩
end Go.Proofs.YtbfmdfbnhakolaaDoor
namespace Go.By
open Go.RowKit
/-- what Put may turn: the system's block, and its rows' -/
structure Chg (w w' : World) (be : Nat) (v : Value) : Prop where
  os : w'.os = w.os
  tape : w'.tape = w.tape
  output : w'.output = w.output
  size : w.heap.size ≤ w'.heap.size
  block : ∀ b, b < w.heap.size → b ≠ be → v.ownBlock ≠ some b → w'.heap[b]? = w.heap[b]?
theorem Chg.of {w w' : World} (be : Nat) (v : Value) (h : Below w.heap.size w w') : Chg w w' be v := ⟨h.os, h.tape, h.output, h.size, fun b hb _ _ => h.block b hb⟩
theorem Chg.below {w a b : World} {be : Nat} {v : Value} (h : Chg w a be v) (g : Below a.heap.size a b) : Chg w b be v := ⟨g.os.trans h.os, g.tape.trans h.tape, g.output.trans h.output, Nat.le_trans h.size g.size, fun k hk h1 h2 => (g.block k (Nat.lt_of_lt_of_le hk h.size)).trans (h.block k hk h1 h2)⟩
theorem Chg.grown {w a b : World} {be : Nat} {v : Value} (h : Chg w a be v) (g : a.grownBy b v.ownBlock) : Chg w b be v := ⟨g.os.trans h.os, g.tape.trans h.tape, g.output.trans h.output, Nat.le_trans h.size g.size, fun k hk h1 h2 => (g.block k (Nat.lt_of_lt_of_le hk h.size) (fun e => h2 e.symm)).trans (h.block k hk h1 h2)⟩
theorem Chg.box {w a : World} {be : Nat} {v : Value} (h : Chg w a be v) (o : Nat) (u : Value) : Chg w (a.setCell ⟨be, o, none⟩ u) be v := ⟨h.os, h.tape, h.output, by simpa using h.size, fun k hk h1 h2 => (Below.heap_setCell _ _ _ _ h1).trans (h.block k hk h1 h2)⟩
theorem take_while {α : Type} (p : α → Bool) : ∀ (M : List α) (r : Nat), r ≤ M.length → (∀ j x, j < r → M[j]? = some x → p x = true) → (∀ x, M[r]? = some x → p x = false) → M.takeWhile p = M.take r ∧ M.dropWhile p = M.drop r
  | [], r, h, _, _ => by simp at h; subst h; exact ⟨rfl, rfl⟩
  | a :: M, 0, _, _, h2 => by
    have := h2 a rfl
    rw [List.takeWhile_cons, List.dropWhile_cons, this]; exact ⟨rfl, rfl⟩
  | a :: M, r + 1, h, h1, h2 => by
    have := h1 0 a (by omega) rfl
    obtain ⟨e1, e2⟩ := take_while p M r (by simpa using h) (fun j x hj hx => h1 (j + 1) x (by omega) (by simpa using hx)) (fun x hx => h2 x (by simpa using hx))
    rw [List.takeWhile_cons, List.dropWhile_cons, this, if_pos rfl, if_pos rfl, e1, e2]; exact ⟨rfl, rfl⟩
theorem RwL.ne_box {T2 T1 TX g n base : Nat} {w : World} {v : Value} {K : List (List UInt8 × List UInt8)} {cs : Array Value} {fr : Nat × Nat} (h : RwL T2 T1 w base v n K) (hX : w.heap[g]? = some (.cells cs TX fr)) (hT : T2 ≠ TX) : v.ownBlock ≠ some g := by
  obtain ⟨vs, a, b, o, r⟩ := h
  intro e
  rcases o.2 with ⟨hv, _⟩ | ⟨g', cap, cur, hv, _, hh, _⟩
  · rw [hv] at e; simp [Value.ownBlock] at e
  · rw [hv] at e; simp [Value.ownBlock] at e
    rw [e, hX] at hh
    injection hh with hh; injection hh with _ hh _; exact hT hh.symm
/-- a slice of one row, new -/
def shpOne (T B : Nat) (u1 u2 : Value) : Shp := ⟨fun v W => ∃ vb, v = .slice (some ⟨vb, 0, none⟩) 1 1 ∧ W.heap[vb]? = some (.cells #[u1, u2] T (0, 0)) ∧ B ≤ vb, fun _ _ _ ⟨vb, e, h, g⟩ hb => ⟨vb, e, (hb.block _ (blk_lt h)).trans h, g⟩⟩
def shpRowO (T B : Nat) (r : List UInt8 × List UInt8) : Shp := ⟨fun v W => ∃ u1 u2, v = .agg #[u1, u2] ∧ Bw T W B u1 r.1 ∧ Bw T W B u2 r.2, fun _ _ _ ⟨u1, u2, e, h1, h2⟩ hb => ⟨u1, u2, e, h1.keep hb, h2.keep hb⟩⟩
def shpRowTO (T B : Nat) (r : List UInt8 × List UInt8) (code : Int) : Shp := ⟨fun v W => ∃ u, v = .tuple #[u, .int .i64 code] ∧ (shpRowO T B r).ok u W, fun _ _ _ ⟨u, e, h⟩ hb => ⟨u, e, (shpRowO T B r).keep _ _ _ h hb⟩⟩
theorem RwL.blk {T2 T1 base n c g : Nat} {w : World} {K : List (List UInt8 × List UInt8)} (h : RwL T2 T1 w base (.slice (some ⟨g, 0, none⟩) n c) n K) : ∃ cur : Array Value, w.heap[g]? = some (.cells cur T2 (0, 0)) := by
  obtain ⟨vs, a, b, o, r⟩ := h
  rcases o.2 with ⟨hv, _⟩ | ⟨g', cap, cur, hv, _, hh, _⟩
  · simp at hv
  · obtain ⟨rfl, rfl⟩ : g = g' ∧ c = cap := by simpa using hv
    exact ⟨cur, hh⟩
theorem Bw.sl' {T1 base m c : Nat} {w : World} {q : Option Addr} {xs : List UInt8} (h : Bw T1 w base (.slice q m c) xs) : Sl B8 w q m c xs := by
  obtain ⟨q', m', c', e, l, o⟩ := h; cases e; exact Sl.of_owns o
theorem Bw.mk {T1 base m c : Nat} {w : World} {q : Option Addr} {xs : List UInt8} (o : w.ownsRow base T1 1 (.slice q m c) m (xs.map B8)) (l : xs.length = m) : Bw T1 w base (.slice q m c) xs := ⟨q, m, c, rfl, l, o⟩
theorem Bw.mono {T1 base b2 : Nat} {w : World} {v : Value} {xs : List UInt8} (h : Bw T1 w base v xs) (hb : b2 ≤ base) : Bw T1 w b2 v xs := by
  obtain ⟨q', m', c', e, l, o⟩ := h; exact ⟨q', m', c', e, l, owns_mono o hb⟩
end Go.By
namespace Go.Proofs.YtbfmdfbnhakolaaDoor
open Go.RowKit Go.By
theorem zero_lead {v : List UInt8} (h : ¬ leadS v < 0) : zeroS v = false := by
  unfold zeroS
  cases e : v.all (fun x => decide (x = 0)) with
  | false => rfl
  | true =>
    refine absurd ?_ h
    have hz : ∀ x, x ∈ v → x = 0 := fun x hx => by simpa using List.all_eq_true.1 e x hx
    have : leadS v = -1 := idxf_none (k := v.length) rfl fun j y _ hy => by rw [hz y (List.mem_of_getElem? hy)]; rfl
    rw [this]; decide
end Go.Proofs.YtbfmdfbnhakolaaDoor
namespace Go.Proofs.YtbfmdfbnhakolaaDoor
open Go.RowKit Go.By
def unitS (n i : Int) : List UInt8 × Int := if n < 0 ∨ 65536 < n ∨ i < 0 ∨ n ≤ i then ([], 2) else ((List.replicate n.toNat 0).set i.toNat 1, 0)
theorem unitS_bad {n i : Int} (h : n < 0 ∨ 65536 < n ∨ i < 0 ∨ n ≤ i) : unitS n i = ([], 2) := if_pos h
theorem unitS_good {n i : Int} (h : ¬ (n < 0 ∨ 65536 < n ∨ i < 0 ∨ n ≤ i)) : unitS n i = ((List.replicate n.toNat 0).set i.toNat 1, 0) := if_neg h
end Go.Proofs.YtbfmdfbnhakolaaDoor
namespace Go.By
open Go.RowKit
theorem RwL.rwS {T2 T1 base n c : Nat} {w : World} {q : Option Addr} {K : List (List UInt8 × List UInt8)} (h : RwL T2 T1 w base (.slice q n c) n K) : RwS w q n c K := by
  have hl := h.len
  have hs : n ≤ c ∧ c ≤ maxLen ∧ (q = none → n = 0 ∧ c = 0) := by
    obtain ⟨vs, a, b, o, r⟩ := h
    rcases o.2 with ⟨hv, hn⟩ | ⟨g, cap, cur, hv, _, _, h1, h2, _⟩
    · simp at hv; exact ⟨by omega, by unfold maxLen; omega, fun _ => ⟨by omega, by omega⟩⟩
    · simp at hv; exact ⟨by omega, by omega, fun e => by rw [hv.1] at e; cases e⟩
  refine ⟨hl, hs.1, hs.2.1, hs.2.2, fun j k hj => ?_⟩
  have hjn : j < n := by rw [← hl]; exact (List.getElem?_eq_some_iff.1 hj).1
  obtain ⟨g, k', q1, m1, c1, q2, m2, c2, e, d1, d2, hk, s1, s2⟩ := h.at hjn
  have : k' = k := by have h := hk.out; rw [hj] at h; cases h; rfl
  subst this
  exact ⟨g, 0, q1, m1, c1, q2, m2, c2, e, by rw [Nat.zero_add]; exact d1, by rw [Nat.zero_add]; exact d2, s1, s2⟩
end Go.By
namespace Go.Proofs.YtbfmdfbnhakolaaDoor
open Go.RowKit Go.By
/-- what is known of a symbol -/
def knownS (k : Int) (K : List Rw) (i : Int) : List UInt8 × Bool :=
  if (unitS k i).2 ≠ 0 then ([], false) else match K.find? (fun r => decide (r.1 = (unitS k i).1)) with
    | some r => (r.2, true)
    | none => ([], false)
def RetK2 (w : World) (r : List UInt8 × Bool) (e : Ending) (w' : World) : Prop := ∃ q m c, e = .returned (.tuple #[.slice q m c, .bool r.2]) ∧ Sl B8 w' q m c r.1 ∧ Below w.heap.size w w'
theorem idx_find (f : Rw → Bool) (K : List Rw) : (idxf f K = -1 ∧ K.find? f = none) ∨ ∃ (j : Nat) (r : Rw), idxf f K = j ∧ K[j]? = some r ∧ K.find? f = some r := by
  unfold idxf
  cases h : K.findIdx? f with
  | none =>
    refine .inl ⟨rfl, ?_⟩
    rw [List.find?_eq_none]
    intro x hx
    have := List.findIdx?_eq_none_iff.1 h x hx
    simpa using this
  | some j =>
    obtain ⟨h1, h2, h3⟩ := List.findIdx?_eq_some_iff_getElem.1 h
    refine .inr ⟨j, K[j], rfl, List.getElem?_eq_getElem h1, ?_⟩
    rw [List.find?_eq_some_iff_getElem]
    exact ⟨h2, j, h1, rfl, fun i hi => by have := h3 i hi; simpa using this⟩
end Go.Proofs.YtbfmdfbnhakolaaDoor
namespace Go.Proofs.YtbfmdfbnhakolaaDoor
open Go.RowKit Go.By
end Go.Proofs.YtbfmdfbnhakolaaDoor
namespace Go.Proofs.YtbfmdfbnhakolaaDoor
open Go.RowKit Go.By
theorem use_w {P : Program} {f : FuncId} {args : Array Value} {W : World} {Q : Ending → World → Prop} (I : World → Prop) (h : I W) (k : ∀ W', I W' → Calls P f args W' Q) : Calls P f args W Q := k W h
end Go.Proofs.YtbfmdfbnhakolaaDoor
namespace Go.Proofs.YtbfmdfbnhakolaaDoor
open Go.RowKit Go.By
theorem chg_old {w w' : World} {be base B n : Nat} {v : Value} {K : List Rw} (h : Chg w w' be v) (hr : RwL 63 5 w base v n K) (h1 : B ≤ base) (h2 : B ≤ be) (h3 : B ≤ w.heap.size) : Below B w w' :=
  ⟨h.os, h.tape, h.output, h.size, fun b hb => h.block b (by omega) (by omega) (fun e => by have := (hr.lt b e).1; omega)⟩
set_option maxHeartbeats 1000000 in
theorem RestNil_any (p1 p2 : Option Addr) (n1 c1 n2 c2 : Nat) (w : World) : Calls Tryd.prog 67 #[.pointer none, .agg #[.slice p1 n1 c1, .slice p2 n2 c2]] w fun e w' => e = .returned (.tuple #[.agg #[.slice none 0 0, .slice none 0 0], .int .i64 1]) ∧ Below w.heap.size w w' := by
  have hinfo := info_row
  have HX : Hid (∀ o1, ((w.alloc o1).alloc (.cells #[.slice none 0 0, .slice none 0 0] 63)).heap[w.heap.size + 1]? = some (.cells #[.slice none 0 0, .slice none 0 0] 63 (0, 0))) := fun o1 => hnew (by simp)
  have HB : Hid (∀ o1 o2, Below w.heap.size w ((w.alloc o1).alloc o2)) := fun o1 o2 => al (al (Below.refl _ _) (Nat.le_refl _)) (by simp)
  go_enter Tryd.func67, Tryd.ntmps67
  go_wp2
  refine bodyPost_ret (results_cell_tmp rfl _ _ _ 63 #[.slice none 0 0, .slice none 0 0] (0, 0) _ (.int .i64 1) rfl (HX.out _) rfl Tryd.underlying63 rfl hinfo) rfl ⟨rfl, HB.out _ _⟩
theorem PutNil_any (p1 p2 : Option Addr) (n1 c1 n2 c2 : Nat) (w : World) : Calls Tryd.prog 42 #[.pointer none, .agg #[.slice p1 n1 c1, .slice p2 n2 c2]] w fun e w' => e = .returned (.tuple #[.int .i64 0, .int .i64 1]) ∧ Below w.heap.size w w' := by
  have HB : Hid (∀ o1 o2, Below w.heap.size w ((w.alloc o1).alloc o2)) := fun o1 o2 => al (al (Below.refl _ _) (Nat.le_refl _)) (by simp)
  go_enter Tryd.func42, Tryd.ntmps42
  go_wp2_with fail
  refine Calls.mono (RestNil_any p1 p2 n1 c1 n2 c2 _) ?_
  rintro e w' ⟨rfl, hb⟩
  have B1 : Hid (Below w.heap.size w w') := bl (HB.out _ _) hb (by simp; omega)
  clear hb
  go_wp2
  go_ret2
  exact ⟨rfl, al B1.out B1.out.size⟩
theorem RankNil_any (w : World) : Calls Tryd.prog 43 #[.pointer none] w fun e w' => e = .returned (.int .i64 0) ∧ w = w' := by
  go_enter Tryd.func43, Tryd.ntmps43
  go_wp2
  go_ret
  exact ⟨rfl, rfl⟩
def xA : Rw := ([1, 1], [3])
def xB : Rw := ([0, 1], [2])
def kA : List Rw := [([1, 1], [3])]
def kB : List Rw := [([1, 0], [1]), ([0, 1], [2])]
end Go.Proofs.YtbfmdfbnhakolaaDoor
namespace Go.Proofs.YtbfmdfbnhakolaaDoor
open Go.RowKit Go.By
set_option maxRecDepth 100000 in
set_option maxHeartbeats 4000000 in
theorem ERest_size1 (base be k t n n1 n2 : Nat) (v : Value) (K : List Rw) (p1 p2 : Option Addr) (c1 c2 : Nat) (w : World) (hE : Elm w base be k t v n K) (h1 : n1 ≠ k) :
    Calls Tryd.prog 67 #[.pointer (some ⟨be, 0, none⟩), .agg #[.slice p1 n1 c1, .slice p2 n2 c2]] w fun e w' => e = .returned (.tuple #[.agg #[.slice none 0 0, .slice none 0 0], .int .i64 4]) ∧ Below w.heap.size w w' := by
  have hinfo := info_row
  obtain ⟨q, c, rfl⟩ := hE.rows.shape
  have HE := Lib.hid hE
  have hd : ((n1 : Int) != (k : Int)) = true := by simp; omega
  have hd2 : ¬ n1 = k := h1
  clear hE
  go_enter Tryd.func67, Tryd.ntmps67
  go_wp2
  have b0 : Below w.heap.size w ((w.alloc (.cells #[.slice p1 n1 c1, .slice p2 n2 c2] 63)).alloc (.cells #[.slice none 0 0, .slice none 0 0] 63)) := al (al (Below.refl _ _) (Nat.le_refl _)) (by simp)
  have x0 : ((w.alloc (.cells #[.slice p1 n1 c1, .slice p2 n2 c2] 63)).alloc (.cells #[.slice none 0 0, .slice none 0 0] 63)).heap[w.heap.size]? = some (.cells #[.slice p1 n1 c1, .slice p2 n2 c2] 63 (0, 0)) := hal (hnew rfl)
  have z0 : ((w.alloc (.cells #[.slice p1 n1 c1, .slice p2 n2 c2] 63)).alloc (.cells #[.slice none 0 0, .slice none 0 0] 63)).heap[w.heap.size + 1]? = some (.cells #[.slice none 0 0, .slice none 0 0] 63 (0, 0)) := hnew (by simp)
  generalize (w.alloc (.cells #[.slice p1 n1 c1, .slice p2 n2 c2] 63)).alloc (.cells #[.slice none 0 0, .slice none 0 0] 63) = w2 at b0 x0 z0 ⊢
  have B2 := Lib.hid b0; have X2 := Lib.hid x0; have Z2 := Lib.hid z0
  clear b0 x0 z0
  have E2 := Lib.hid (HE.out.keep B2.out)
  obtain ⟨f0, f1, f2⟩ := cells3 E2.out.box
  obtain ⟨y0, y1⟩ := cells2 X2.out
  refine wp_region_shapes (fun ix => ([.val (.pointer (some ⟨w.heap.size, 0, none⟩)), .val (.slice p1 n1 c1), .val (.int .i64 (n1 : Nat)), .val (.pointer (some ⟨be, 0, none⟩)), .val (.pointer (some ⟨be, 0, none⟩)), .val (.pointer (some ⟨be, 0, none⟩)), .val (.int .i64 k), .val (.bool true), .val (.bool true), .val (undef), .val (undef), .val (undef), .val (undef), .val (undef), .val (undef), .val (undef), .val (undef), .val (.bool true)][ix]?).getD (.any)) 60 rfl (by kernel_rfl) (by decide) (by decide) (by decide) ?_ ?_
  · refine ⟨?_, ?_, ?_, ?_, ?_, ?_, ?_, ?_, ?_, ?_, ?_, ?_, ?_, ?_, ?_, ?_, ?_, ?_, trivial⟩
    · intro a W hb0 hs hp hi; have hb := undrew hb0; clear hb0
      have t3 : sl a 3 = .pointer (some ⟨w.heap.size, 0, none⟩) := hi 3 (by decide)
      refine ite_y rfl (wp_val (.pointer (some ⟨w.heap.size, 0, none⟩)) ?_ ?_)
      · simp only [execOp, eval_tmp, eval_const, t3]; simp [go_sem]
      · exact ⟨_, rfl, Below.refl _ _, rfl⟩
    · intro a W hb0 hs hp hi; have hb := undrew hb0; clear hb0
      have tt : sl a 13 = .pointer (some ⟨w.heap.size, 0, none⟩) := hp 0 (by decide)
      have dd := (hb.cell (p := ⟨w.heap.size, 0, none⟩) (lt_of_cell y0)).trans y0
      refine ite_y rfl (wp_val (.slice p1 n1 c1) ?_ ?_)
      · simp only [execOp, eval_tmp, tt]; simp [go_sem, dd]
      · exact ⟨_, rfl, Below.refl _ _, rfl⟩
    · intro a W hb0 hs hp hi; have hb := undrew hb0; clear hb0
      have t14 : sl a 14 = .slice p1 n1 c1 := hp 1 (by decide)
      refine ite_y rfl (wp_val (.int .i64 (n1 : Nat)) ?_ ?_)
      · simp only [execOp, resolve, List.map_toArray, List.map, eval_tmp, eval_func, eval_const, t14]; simp [go_sem]
      · exact ⟨_, rfl, Below.refl _ _, rfl⟩
    · intro a W hb0 hs hp hi; have hb := undrew hb0; clear hb0
      have t0 : sl a 0 = .pointer (some ⟨be, 0, none⟩) := hi 0 (by decide)
      exact ite_y rfl (wp_val (sl a 0) rfl ⟨_, rfl, Below.refl _ _, t0⟩)
    · intro a W hb0 hs hp hi; have hb := undrew hb0; clear hb0
      have tt : sl a 16 = .pointer (some ⟨be, 0, none⟩) := hp 3 (by decide)
      refine ite_y rfl (wp_val (.pointer (some ⟨be, 0, none⟩)) ?_ ?_)
      · simp only [execOp, eval_tmp, tt]; simp [go_sem]
      · exact ⟨_, rfl, Below.refl _ _, rfl⟩
    · intro a W hb0 hs hp hi; have hb := undrew hb0; clear hb0
      have t17 : sl a 17 = .pointer (some ⟨be, 0, none⟩) := hp 4 (by decide)
      refine ite_y rfl (wp_val (.pointer (some ⟨be, 0, none⟩)) ?_ ?_)
      · simp only [execOp, eval_tmp, eval_const, t17]; simp [go_sem]
      · exact ⟨_, rfl, Below.refl _ _, rfl⟩
    · intro a W hb0 hs hp hi; have hb := undrew hb0; clear hb0
      have tt : sl a 18 = .pointer (some ⟨be, 0, none⟩) := hp 5 (by decide)
      have dd := (hb.cell (p := ⟨be, 0, none⟩) (lt_of_cell f0)).trans f0
      refine ite_y rfl (wp_val (.int .i64 k) ?_ ?_)
      · simp only [execOp, eval_tmp, tt]; simp [go_sem, dd]
      · exact ⟨_, rfl, Below.refl _ _, rfl⟩
    · intro a W hb0 hs hp hi; have hb := undrew hb0; clear hb0
      have t15 : sl a 15 = .int .i64 (n1 : Nat) := hp 2 (by decide)
      have t19 : sl a 19 = .int .i64 k := hp 6 (by decide)
      refine ite_y rfl (wp_val (.bool true) ?_ ?_)
      · simp only [execOp, eval_tmp, eval_const, t15, t19]; simp [go_sem, hd, hd2]
      · exact ⟨_, rfl, Below.refl _ _, rfl⟩
    · intro a W hb0 hs hp hi; have hb := undrew hb0; clear hb0
      have t20 : sl a 20 = .bool true := hp 7 (by decide)
      exact ite_y rfl (wp_val (sl a 20) rfl ⟨_, rfl, Below.refl _ _, t20⟩)
    · intro a W hb0 hs hp hi; have hb := undrew hb0; clear hb0
      have tg : sl a 21 = .bool true := hp 8 (by decide)
      exact ite_n (wanted_no rfl rfl (by have hz : a.tmps.size = 60 := hs; rw [hz]; decide) tg (by decide)) rfl
    · intro a W hb0 hs hp hi; have hb := undrew hb0; clear hb0
      have tg : sl a 21 = .bool true := hp 8 (by decide)
      exact ite_n (wanted_no rfl rfl (by have hz : a.tmps.size = 60 := hs; rw [hz]; decide) tg (by decide)) rfl
    · intro a W hb0 hs hp hi; have hb := undrew hb0; clear hb0
      have tg : sl a 21 = .bool true := hp 8 (by decide)
      exact ite_n (wanted_no rfl rfl (by have hz : a.tmps.size = 60 := hs; rw [hz]; decide) tg (by decide)) rfl
    · intro a W hb0 hs hp hi; have hb := undrew hb0; clear hb0
      have tg : sl a 21 = .bool true := hp 8 (by decide)
      exact ite_n (wanted_no rfl rfl (by have hz : a.tmps.size = 60 := hs; rw [hz]; decide) tg (by decide)) rfl
    · intro a W hb0 hs hp hi; have hb := undrew hb0; clear hb0
      have tg : sl a 21 = .bool true := hp 8 (by decide)
      exact ite_n (wanted_no rfl rfl (by have hz : a.tmps.size = 60 := hs; rw [hz]; decide) tg (by decide)) rfl
    · intro a W hb0 hs hp hi; have hb := undrew hb0; clear hb0
      have tg : sl a 21 = .bool true := hp 8 (by decide)
      exact ite_n (wanted_no rfl rfl (by have hz : a.tmps.size = 60 := hs; rw [hz]; decide) tg (by decide)) rfl
    · intro a W hb0 hs hp hi; have hb := undrew hb0; clear hb0
      have tg : sl a 21 = .bool true := hp 8 (by decide)
      exact ite_n (wanted_no rfl rfl (by have hz : a.tmps.size = 60 := hs; rw [hz]; decide) tg (by decide)) rfl
    · intro a W hb0 hs hp hi; have hb := undrew hb0; clear hb0
      have tg : sl a 21 = .bool true := hp 8 (by decide)
      exact ite_n (wanted_no rfl rfl (by have hz : a.tmps.size = 60 := hs; rw [hz]; decide) tg (by decide)) rfl
    · intro a W hb0 hs hp hi; have hb := undrew hb0; clear hb0
      have t21 : sl a 21 = .bool true := hp 8 (by decide)
      have t29 : sl a 29 = undef := hp 16 (by decide)
      refine ite_y rfl (wp_val (.bool true) ?_ ?_)
      · simp only [execOp, eval_tmp, eval_const, t21, t29]; simp [go_sem]
      · exact ⟨_, rfl, Below.refl _ _, rfl⟩
  intro a w3 hb hs hd hI ht
  have ha := act_is [13, 14, 15, 16, 17, 18, 19, 20, 21, 22, 23, 24, 25, 26, 27, 28, 29, 30] hs hd ht (by decide)
  have t30 : sl a 30 = .bool true := hI 17 (by decide)
  simp only [List.foldl, t30] at ha
  generalize sl a 13 = u13 at ha
  generalize sl a 14 = u14 at ha
  generalize sl a 15 = u15 at ha
  generalize sl a 16 = u16 at ha
  generalize sl a 17 = u17 at ha
  generalize sl a 18 = u18 at ha
  generalize sl a 19 = u19 at ha
  generalize sl a 20 = u20 at ha
  generalize sl a 21 = u21 at ha
  generalize sl a 22 = u22 at ha
  generalize sl a 23 = u23 at ha
  generalize sl a 24 = u24 at ha
  generalize sl a 25 = u25 at ha
  generalize sl a 26 = u26 at ha
  generalize sl a 27 = u27 at ha
  generalize sl a 28 = u28 at ha
  generalize sl a 29 = u29 at ha
  simp only [Act.put, List.setIfInBounds_toArray, List.set_cons_zero, List.set_cons_succ] at ha
  rw [ha]
  clear ha hI ht
  have B3 := Lib.hid (bl B2.out hb B2.out.size)
  have Z3 := Lib.hid ((hb.block _ (blk_lt Z2.out)).trans Z2.out)
  clear hb B2 X2 Z2 E2 f0 f1 f2 y0 y1
  obtain ⟨f0, f1⟩ := cells2 Z3.out
  have z0 := frozen_of_row _ _ 0 _ _ Z3.out
  have z1 := frozen_of_row _ _ 1 _ _ Z3.out
  go_wp2
  refine bodyPost_ret (results_cell_tmp rfl _ _ _ 63 #[.slice none 0 0, .slice none 0 0] (0, 0) _ (.int .i64 4) rfl (hss (hss Z3.out)) rfl Tryd.underlying63 rfl hinfo) rfl ⟨rfl, (B3.out.setCell (by simp) _).setCell (by simp) _⟩
set_option maxRecDepth 100000 in
set_option maxHeartbeats 4000000 in
theorem ERest_size2 (base be k t n n2 : Nat) (v : Value) (K : List Rw) (p1 p2 : Option Addr) (c1 c2 : Nat) (w : World) (hE : Elm w base be k t v n K) (h2 : n2 ≠ t) :
    Calls Tryd.prog 67 #[.pointer (some ⟨be, 0, none⟩), .agg #[.slice p1 k c1, .slice p2 n2 c2]] w fun e w' => e = .returned (.tuple #[.agg #[.slice none 0 0, .slice none 0 0], .int .i64 4]) ∧ Below w.heap.size w w' := by
  have hinfo := info_row
  obtain ⟨q, c, rfl⟩ := hE.rows.shape
  have HE := Lib.hid hE
  have hd : ((n2 : Int) != (t : Int)) = true := by simp; omega
  have hd2 : ¬ n2 = t := h2
  clear hE
  go_enter Tryd.func67, Tryd.ntmps67
  go_wp2
  have b0 : Below w.heap.size w ((w.alloc (.cells #[.slice p1 k c1, .slice p2 n2 c2] 63)).alloc (.cells #[.slice none 0 0, .slice none 0 0] 63)) := al (al (Below.refl _ _) (Nat.le_refl _)) (by simp)
  have x0 : ((w.alloc (.cells #[.slice p1 k c1, .slice p2 n2 c2] 63)).alloc (.cells #[.slice none 0 0, .slice none 0 0] 63)).heap[w.heap.size]? = some (.cells #[.slice p1 k c1, .slice p2 n2 c2] 63 (0, 0)) := hal (hnew rfl)
  have z0 : ((w.alloc (.cells #[.slice p1 k c1, .slice p2 n2 c2] 63)).alloc (.cells #[.slice none 0 0, .slice none 0 0] 63)).heap[w.heap.size + 1]? = some (.cells #[.slice none 0 0, .slice none 0 0] 63 (0, 0)) := hnew (by simp)
  generalize (w.alloc (.cells #[.slice p1 k c1, .slice p2 n2 c2] 63)).alloc (.cells #[.slice none 0 0, .slice none 0 0] 63) = w2 at b0 x0 z0 ⊢
  have B2 := Lib.hid b0; have X2 := Lib.hid x0; have Z2 := Lib.hid z0
  clear b0 x0 z0
  have E2 := Lib.hid (HE.out.keep B2.out)
  obtain ⟨f0, f1, f2⟩ := cells3 E2.out.box
  obtain ⟨y0, y1⟩ := cells2 X2.out
  refine wp_region_shapes (fun ix => ([.val (.pointer (some ⟨w.heap.size, 0, none⟩)), .val (.slice p1 k c1), .val (.int .i64 (k : Nat)), .val (.pointer (some ⟨be, 0, none⟩)), .val (.pointer (some ⟨be, 0, none⟩)), .val (.pointer (some ⟨be, 0, none⟩)), .val (.int .i64 k), .val (.bool false), .val (.bool false), .val (.pointer (some ⟨w.heap.size, 1, none⟩)), .val (.slice p2 n2 c2), .val (.int .i64 (n2 : Nat)), .val (.pointer (some ⟨be, 0, none⟩)), .val (.pointer (some ⟨be, 0, none⟩)), .val (.pointer (some ⟨be, 1, none⟩)), .val (.int .i64 t), .val (.bool true), .val (.bool true)][ix]?).getD (.any)) 60 rfl (by kernel_rfl) (by decide) (by decide) (by decide) ?_ ?_
  · refine ⟨?_, ?_, ?_, ?_, ?_, ?_, ?_, ?_, ?_, ?_, ?_, ?_, ?_, ?_, ?_, ?_, ?_, ?_, trivial⟩
    · intro a W hb0 hs hp hi; have hb := undrew hb0; clear hb0
      have t3 : sl a 3 = .pointer (some ⟨w.heap.size, 0, none⟩) := hi 3 (by decide)
      refine ite_y rfl (wp_val (.pointer (some ⟨w.heap.size, 0, none⟩)) ?_ ?_)
      · simp only [execOp, eval_tmp, eval_const, t3]; simp [go_sem]
      · exact ⟨_, rfl, Below.refl _ _, rfl⟩
    · intro a W hb0 hs hp hi; have hb := undrew hb0; clear hb0
      have tt : sl a 13 = .pointer (some ⟨w.heap.size, 0, none⟩) := hp 0 (by decide)
      have dd := (hb.cell (p := ⟨w.heap.size, 0, none⟩) (lt_of_cell y0)).trans y0
      refine ite_y rfl (wp_val (.slice p1 k c1) ?_ ?_)
      · simp only [execOp, eval_tmp, tt]; simp [go_sem, dd]
      · exact ⟨_, rfl, Below.refl _ _, rfl⟩
    · intro a W hb0 hs hp hi; have hb := undrew hb0; clear hb0
      have t14 : sl a 14 = .slice p1 k c1 := hp 1 (by decide)
      refine ite_y rfl (wp_val (.int .i64 (k : Nat)) ?_ ?_)
      · simp only [execOp, resolve, List.map_toArray, List.map, eval_tmp, eval_func, eval_const, t14]; simp [go_sem]
      · exact ⟨_, rfl, Below.refl _ _, rfl⟩
    · intro a W hb0 hs hp hi; have hb := undrew hb0; clear hb0
      have t0 : sl a 0 = .pointer (some ⟨be, 0, none⟩) := hi 0 (by decide)
      exact ite_y rfl (wp_val (sl a 0) rfl ⟨_, rfl, Below.refl _ _, t0⟩)
    · intro a W hb0 hs hp hi; have hb := undrew hb0; clear hb0
      have tt : sl a 16 = .pointer (some ⟨be, 0, none⟩) := hp 3 (by decide)
      refine ite_y rfl (wp_val (.pointer (some ⟨be, 0, none⟩)) ?_ ?_)
      · simp only [execOp, eval_tmp, tt]; simp [go_sem]
      · exact ⟨_, rfl, Below.refl _ _, rfl⟩
    · intro a W hb0 hs hp hi; have hb := undrew hb0; clear hb0
      have t17 : sl a 17 = .pointer (some ⟨be, 0, none⟩) := hp 4 (by decide)
      refine ite_y rfl (wp_val (.pointer (some ⟨be, 0, none⟩)) ?_ ?_)
      · simp only [execOp, eval_tmp, eval_const, t17]; simp [go_sem]
      · exact ⟨_, rfl, Below.refl _ _, rfl⟩
    · intro a W hb0 hs hp hi; have hb := undrew hb0; clear hb0
      have tt : sl a 18 = .pointer (some ⟨be, 0, none⟩) := hp 5 (by decide)
      have dd := (hb.cell (p := ⟨be, 0, none⟩) (lt_of_cell f0)).trans f0
      refine ite_y rfl (wp_val (.int .i64 k) ?_ ?_)
      · simp only [execOp, eval_tmp, tt]; simp [go_sem, dd]
      · exact ⟨_, rfl, Below.refl _ _, rfl⟩
    · intro a W hb0 hs hp hi; have hb := undrew hb0; clear hb0
      have t15 : sl a 15 = .int .i64 (k : Nat) := hp 2 (by decide)
      have t19 : sl a 19 = .int .i64 k := hp 6 (by decide)
      refine ite_y rfl (wp_val (.bool false) ?_ ?_)
      · simp only [execOp, eval_tmp, eval_const, t15, t19]; simp [go_sem]
      · exact ⟨_, rfl, Below.refl _ _, rfl⟩
    · intro a W hb0 hs hp hi; have hb := undrew hb0; clear hb0
      have t20 : sl a 20 = .bool false := hp 7 (by decide)
      exact ite_y rfl (wp_val (sl a 20) rfl ⟨_, rfl, Below.refl _ _, t20⟩)
    · intro a W hb0 hs hp hi; have hb := undrew hb0; clear hb0
      have tg : sl a 21 = .bool false := hp 8 (by decide)
      have t3 : sl a 3 = .pointer (some ⟨w.heap.size, 0, none⟩) := hi 3 (by decide)
      refine ite_y (wanted_yes rfl rfl (by have hz : a.tmps.size = 60 := hs; rw [hz]; decide) tg) (wp_val (.pointer (some ⟨w.heap.size, 1, none⟩)) ?_ ?_)
      · simp only [execOp, eval_tmp, eval_const, t3]; simp [go_sem]
      · exact ⟨_, rfl, Below.refl _ _, rfl⟩
    · intro a W hb0 hs hp hi; have hb := undrew hb0; clear hb0
      have tg : sl a 21 = .bool false := hp 8 (by decide)
      have tt : sl a 22 = .pointer (some ⟨w.heap.size, 1, none⟩) := hp 9 (by decide)
      have dd := (hb.cell (p := ⟨w.heap.size, 1, none⟩) (lt_of_cell y1)).trans y1
      refine ite_y (wanted_yes rfl rfl (by have hz : a.tmps.size = 60 := hs; rw [hz]; decide) tg) (wp_val (.slice p2 n2 c2) ?_ ?_)
      · simp only [execOp, eval_tmp, tt]; simp [go_sem, dd]
      · exact ⟨_, rfl, Below.refl _ _, rfl⟩
    · intro a W hb0 hs hp hi; have hb := undrew hb0; clear hb0
      have tg : sl a 21 = .bool false := hp 8 (by decide)
      have t23 : sl a 23 = .slice p2 n2 c2 := hp 10 (by decide)
      refine ite_y (wanted_yes rfl rfl (by have hz : a.tmps.size = 60 := hs; rw [hz]; decide) tg) (wp_val (.int .i64 (n2 : Nat)) ?_ ?_)
      · simp only [execOp, resolve, List.map_toArray, List.map, eval_tmp, eval_func, eval_const, t23]; simp [go_sem]
      · exact ⟨_, rfl, Below.refl _ _, rfl⟩
    · intro a W hb0 hs hp hi; have hb := undrew hb0; clear hb0
      have tg : sl a 21 = .bool false := hp 8 (by decide)
      have t0 : sl a 0 = .pointer (some ⟨be, 0, none⟩) := hi 0 (by decide)
      exact ite_y (wanted_yes rfl rfl (by have hz : a.tmps.size = 60 := hs; rw [hz]; decide) tg) (wp_val (sl a 0) rfl ⟨_, rfl, Below.refl _ _, t0⟩)
    · intro a W hb0 hs hp hi; have hb := undrew hb0; clear hb0
      have tg : sl a 21 = .bool false := hp 8 (by decide)
      have tt : sl a 25 = .pointer (some ⟨be, 0, none⟩) := hp 12 (by decide)
      refine ite_y (wanted_yes rfl rfl (by have hz : a.tmps.size = 60 := hs; rw [hz]; decide) tg) (wp_val (.pointer (some ⟨be, 0, none⟩)) ?_ ?_)
      · simp only [execOp, eval_tmp, tt]; simp [go_sem]
      · exact ⟨_, rfl, Below.refl _ _, rfl⟩
    · intro a W hb0 hs hp hi; have hb := undrew hb0; clear hb0
      have tg : sl a 21 = .bool false := hp 8 (by decide)
      have t26 : sl a 26 = .pointer (some ⟨be, 0, none⟩) := hp 13 (by decide)
      refine ite_y (wanted_yes rfl rfl (by have hz : a.tmps.size = 60 := hs; rw [hz]; decide) tg) (wp_val (.pointer (some ⟨be, 1, none⟩)) ?_ ?_)
      · simp only [execOp, eval_tmp, eval_const, t26]; simp [go_sem]
      · exact ⟨_, rfl, Below.refl _ _, rfl⟩
    · intro a W hb0 hs hp hi; have hb := undrew hb0; clear hb0
      have tg : sl a 21 = .bool false := hp 8 (by decide)
      have tt : sl a 27 = .pointer (some ⟨be, 1, none⟩) := hp 14 (by decide)
      have dd := (hb.cell (p := ⟨be, 1, none⟩) (lt_of_cell f1)).trans f1
      refine ite_y (wanted_yes rfl rfl (by have hz : a.tmps.size = 60 := hs; rw [hz]; decide) tg) (wp_val (.int .i64 t) ?_ ?_)
      · simp only [execOp, eval_tmp, tt]; simp [go_sem, dd]
      · exact ⟨_, rfl, Below.refl _ _, rfl⟩
    · intro a W hb0 hs hp hi; have hb := undrew hb0; clear hb0
      have tg : sl a 21 = .bool false := hp 8 (by decide)
      have t24 : sl a 24 = .int .i64 (n2 : Nat) := hp 11 (by decide)
      have t28 : sl a 28 = .int .i64 t := hp 15 (by decide)
      refine ite_y (wanted_yes rfl rfl (by have hz : a.tmps.size = 60 := hs; rw [hz]; decide) tg) (wp_val (.bool true) ?_ ?_)
      · simp only [execOp, eval_tmp, eval_const, t24, t28]; simp [go_sem, hd, hd2]
      · exact ⟨_, rfl, Below.refl _ _, rfl⟩
    · intro a W hb0 hs hp hi; have hb := undrew hb0; clear hb0
      have t21 : sl a 21 = .bool false := hp 8 (by decide)
      have t29 : sl a 29 = .bool true := hp 16 (by decide)
      refine ite_y rfl (wp_val (.bool true) ?_ ?_)
      · simp only [execOp, eval_tmp, eval_const, t21, t29]; simp [go_sem]
      · exact ⟨_, rfl, Below.refl _ _, rfl⟩
  intro a w3 hb hs hd hI ht
  have ha := act_is [13, 14, 15, 16, 17, 18, 19, 20, 21, 22, 23, 24, 25, 26, 27, 28, 29, 30] hs hd ht (by decide)
  have t30 : sl a 30 = .bool true := hI 17 (by decide)
  simp only [List.foldl, t30] at ha
  generalize sl a 13 = u13 at ha
  generalize sl a 14 = u14 at ha
  generalize sl a 15 = u15 at ha
  generalize sl a 16 = u16 at ha
  generalize sl a 17 = u17 at ha
  generalize sl a 18 = u18 at ha
  generalize sl a 19 = u19 at ha
  generalize sl a 20 = u20 at ha
  generalize sl a 21 = u21 at ha
  generalize sl a 22 = u22 at ha
  generalize sl a 23 = u23 at ha
  generalize sl a 24 = u24 at ha
  generalize sl a 25 = u25 at ha
  generalize sl a 26 = u26 at ha
  generalize sl a 27 = u27 at ha
  generalize sl a 28 = u28 at ha
  generalize sl a 29 = u29 at ha
  simp only [Act.put, List.setIfInBounds_toArray, List.set_cons_zero, List.set_cons_succ] at ha
  rw [ha]
  clear ha hI ht
  have B3 := Lib.hid (bl B2.out hb B2.out.size)
  have Z3 := Lib.hid ((hb.block _ (blk_lt Z2.out)).trans Z2.out)
  clear hb B2 X2 Z2 E2 f0 f1 f2 y0 y1
  obtain ⟨f0, f1⟩ := cells2 Z3.out
  have z0 := frozen_of_row _ _ 0 _ _ Z3.out
  have z1 := frozen_of_row _ _ 1 _ _ Z3.out
  go_wp2
  refine bodyPost_ret (results_cell_tmp rfl _ _ _ 63 #[.slice none 0 0, .slice none 0 0] (0, 0) _ (.int .i64 4) rfl (hss (hss Z3.out)) rfl Tryd.underlying63 rfl hinfo) rfl ⟨rfl, (B3.out.setCell (by simp) _).setCell (by simp) _⟩

theorem ERest_size (base be k t n n1 n2 : Nat) (v : Value) (K : List Rw) (p1 p2 : Option Addr) (c1 c2 : Nat) (w : World) (hE : Elm w base be k t v n K) (h : n1 ≠ k ∨ n2 ≠ t) :
    Calls Tryd.prog 67 #[.pointer (some ⟨be, 0, none⟩), .agg #[.slice p1 n1 c1, .slice p2 n2 c2]] w fun e w' => e = .returned (.tuple #[.agg #[.slice none 0 0, .slice none 0 0], .int .i64 4]) ∧ Below w.heap.size w w' := by
  by_cases h1 : n1 = k
  · subst h1
    exact ERest_size2 base be n1 t n n2 v K p1 p2 c1 c2 w hE (h.resolve_left (fun e => e rfl))
  · exact ERest_size1 base be k t n n1 n2 v K p1 p2 c1 c2 w hE h1
set_option maxRecDepth 100000 in
set_option maxHeartbeats 4000000 in
theorem EPut_size (base be k t n n1 n2 : Nat) (v : Value) (K : List Rw) (p1 p2 : Option Addr) (c1 c2 : Nat) (w : World) (hE : Elm w base be k t v n K) (h : n1 ≠ k ∨ n2 ≠ t) :
    Calls Tryd.prog 42 #[.pointer (some ⟨be, 0, none⟩), .agg #[.slice p1 n1 c1, .slice p2 n2 c2]] w fun e w' => e = .returned (.tuple #[.int .i64 0, .int .i64 4]) ∧ Below w.heap.size w w' := by
  have HB : Hid (∀ o1 o2, Below w.heap.size w ((w.alloc o1).alloc o2)) := fun o1 o2 => al (al (Below.refl _ _) (Nat.le_refl _)) (by simp)
  have HE := Lib.hid hE; have HH := Lib.hid h
  clear hE h
  go_enter Tryd.func42, Tryd.ntmps42
  go_wp2_with fail
  refine Calls.mono (ERest_size base be k t n n1 n2 v K p1 p2 c1 c2 _ (HE.out.keep (HB.out _ _)) HH.out) ?_
  rintro e w' ⟨rfl, hb⟩
  have B1 : Hid (Below w.heap.size w w') := bl (HB.out _ _) hb (by simp; omega)
  clear hb
  go_wp2
  go_ret2
  exact ⟨rfl, al B1.out B1.out.size⟩
theorem lead_zero {v : List UInt8} (h : leadS v < 0) : zeroS v = true := by
  unfold zeroS
  exact List.all_eq_true.2 fun x hx => by simpa using leadS_neg h x hx
set_option maxRecDepth 100000 in
set_option maxHeartbeats 4000000 in
theorem EPut_zero (base be k t n : Nat) (v : Value) (K : List Rw) (p1 p2 : Option Addr) (c1 c2 : Nat) (x : Rw) (w : World) (hE : Elm w base be k t v n K) (s1 : Sl B8 w p1 k c1 x.1) (s2 : Sl B8 w p2 t c2 x.2) (hK : ∀ r, r ∈ K → Fit k t r ∧ Led r) (hk : k ≤ 4096) (ht : t ≤ 65535) (hn : leadS (restF K x).1 < 0) :
    Calls Tryd.prog 42 #[.pointer (some ⟨be, 0, none⟩), .agg #[.slice p1 k c1, .slice p2 t c2]] w fun e w' => e = .returned (.tuple #[.int .i64 (if zeroS (restF K x).2 = true then 1 else 2), .int .i64 0]) ∧ Below w.heap.size w w' := by
  have HB : Hid (∀ o1 o2, Below w.heap.size w ((w.alloc o1).alloc o2)) := fun o1 o2 => al (al (Below.refl _ _) (Nat.le_refl _)) (by simp)
  have HZ : Hid (zeroS (restF K x).1 = true) := lead_zero hn
  have HE := Lib.hid hE; have S1 := Lib.hid s1; have S2 := Lib.hid s2; have HK := Lib.hid hK
  clear hE s1 s2 hK hn
  obtain ⟨u, hu⟩ : ∃ u : Int, u = if zeroS (restF K x).2 = true then 1 else 2 := ⟨_, rfl⟩
  rw [← hu]
  have HU := Lib.hid hu
  clear hu
  go_enter Tryd.func42, Tryd.ntmps42
  go_wp2_with fail
  refine Calls.mono (ERest_any base be k t n v K p1 p2 c1 c2 x _ (HE.out.keep (HB.out _ _)) (S1.out.keep (HB.out _ _)) (S2.out.keep (HB.out _ _)) HK.out hk ht) ?_
  rintro e w3 ⟨q1, m1, g1, q2, m2, g2, l1, l2, rfl, o1, o2, hb⟩
  have B3 : Hid (Below w.heap.size w w3) := bl (HB.out _ _) hb (by simp; omega)
  have L1 := Lib.hid (Sl.of_owns o1); have L2 := Lib.hid (Sl.of_owns o2)
  clear hb o1 o2 l1 l2 S1 S2 HE HB
  go_wp2_with fail
  refine use_w1 (fun W => Below w3.heap.size w3 W ∧ W.heap[w3.heap.size]? = some (.cells #[.slice q1 m1 g1, .slice q2 m2 g2] 63 (0, 0))) ⟨al (Below.refl _ _) (Nat.le_refl _), hnew rfl⟩ ?_
  rintro w4 ⟨b4, x4⟩
  refine Calls.mono (VZero_any q1 m1 g1 (restF K x).1 w4 (L1.out.keep b4)) ?_
  rintro e w' ⟨rfl, rfl⟩
  rw [HZ.out]
  have L24 := Lib.hid (L2.out.keep b4); have B4 := Lib.hid (bl B3.out b4 B3.out.size)
  obtain ⟨y0, y1⟩ := cells2 x4
  clear b4 x4
  go_wp2_with fail
  refine Calls.mono (VZero_any q2 m2 g2 (restF K x).2 w4 L24.out) ?_
  rintro e w' ⟨rfl, rfl⟩
  clear y0 y1
  cases hz : zeroS (restF K x).2 with
  | true =>
    go_wp2
    go_ret2
    have e1 := HU.out.trans (if_pos hz)
    exact ⟨by rw [e1]; rfl, B4.out⟩
  | false =>
    go_wp2
    go_ret2
    have e1 := HU.out.trans (if_neg (by rw [hz]; decide))
    exact ⟨by rw [e1]; rfl, B4.out⟩
end Go.Proofs.YtbfmdfbnhakolaaDoor
namespace Go.By
open Go.RowKit
theorem RwV.of_owns {w : World} {base T n c : Nat} {q : Option Addr} {vs : List (Value × Value)} (h : w.ownsRow base T 2 (.slice q n c) n (fl2 vs)) (h1 : ∀ u, u ∈ fl2 vs → u.oneCell' = true) : RwV w q n c vs := by
  have hl : vs.length = n := by have := h.1; rw [fl2_length] at this; omega
  rcases h.2 with ⟨e1, e2⟩ | ⟨g, cap, cur, e1, _, _, h3, h4, _⟩
  · cases e1
    exact ⟨hl, Nat.le_of_eq e2, by simp [maxLen], fun _ => ⟨e2, rfl⟩, fun j u hj => (by have := (List.getElem?_eq_some_iff.1 hj).1; rw [fl2_length] at this; omega), h1⟩
  · cases e1
    refine ⟨hl, h3, h4, fun e => (by cases e), fun j u hj => ⟨g, 0, rfl, ?_⟩, h1⟩
    have := (List.getElem?_eq_some_iff.1 hj).1
    rw [fl2_length] at this
    rw [Nat.zero_add, h.cellAt _ (by omega)]; exact hj
end Go.By
namespace Go.Proofs.YtbfmdfbnhakolaaDoor
open Go.RowKit Go.By
end Go.Proofs.YtbfmdfbnhakolaaDoor
namespace Go.By
open Go.RowKit
/-- how many bytes are not 0 -/
def cntS (v : List UInt8) : Nat := v.countP (fun x => decide (x ≠ 0))
theorem cnt_take {v : List UInt8} {j : Nat} {b : UInt8} (h : v[j]? = some b) : cntS (v.take (j + 1)) = cntS (v.take j) + if b ≠ 0 then 1 else 0 := by
  unfold cntS
  rw [List.take_add_one, h, List.countP_append]
  show _ + List.countP _ [b] = _
  rw [List.countP_singleton]
  simp only [decide_eq_true_eq]
theorem cnt_le (v : List UInt8) (j : Nat) : cntS (v.take j) ≤ j := Nat.le_trans List.countP_le_length (by rw [List.length_take]; exact Nat.min_le_left _ _)
theorem cnt_one {v : List UInt8} {l : Nat} {a : UInt8} (h : v[l]? = some a) (ha : a ≠ 0) (hc : cntS v = 1) {j : Nat} {b : UInt8} (hj : v[j]? = some b) (hne : j ≠ l) : b = 0 := by
  obtain ⟨hl, e⟩ := List.getElem?_eq_some_iff.1 h
  have hv : v = v.take l ++ a :: v.drop (l + 1) := by rw [← e, List.getElem_cons_drop hl, List.take_append_drop]
  have h2 : List.countP (fun x : UInt8 => decide (x ≠ 0)) (v.take l) + (List.countP (fun x : UInt8 => decide (x ≠ 0)) (v.drop (l + 1)) + 1) = 1 := by
    have h3 := hc
    unfold cntS at h3
    rw [hv, List.countP_append, List.countP_cons, if_pos (by simpa using ha)] at h3
    exact h3
  have h0 : ∀ x, x ∈ v.take l ∨ x ∈ v.drop (l + 1) → x = 0 := fun x hx => by
    rcases hx with hx | hx
    · have := List.countP_eq_zero.1 (show List.countP (fun x : UInt8 => decide (x ≠ 0)) (v.take l) = 0 by omega) x hx
      simpa using this
    · have := List.countP_eq_zero.1 (show List.countP (fun x : UInt8 => decide (x ≠ 0)) (v.drop (l + 1)) = 0 by omega) x hx
      simpa using this
  refine h0 b ?_
  rcases Nat.lt_or_ge j l with g | g
  · exact .inl (List.mem_of_getElem? (i := j) (by rw [List.getElem?_take, if_pos g]; exact hj))
  · exact .inr (List.mem_of_getElem? (i := j - (l + 1)) (by rw [List.getElem?_drop, show l + 1 + (j - (l + 1)) = j by omega]; exact hj))
end Go.By
namespace Go.Proofs.YtbfmdfbnhakolaaDoor
open Go.RowKit Go.By
theorem cnt_unit (n i : Nat) (hi : i < n) : cntS ((List.replicate n 0).set i 1) = 1 := by
  unfold cntS
  rw [List.set_eq_take_append_cons_drop, if_pos (by simpa using hi), List.countP_append, List.countP_cons]
  simp [List.countP_replicate]
theorem unit_iff {wd t : Nat} {r : Rw} {i : Nat} (hf : Fit wd t r) (hl : Led r) (hi : i < wd) : (cntS r.1 = 1 ∧ leadS r.1 = (i : Int)) ↔ r.1 = (List.replicate wd 0).set i 1 := by
  obtain ⟨l, e1, e2, e3⟩ := hl
  constructor
  · rintro ⟨hc, hle⟩
    obtain rfl : l = i := by rw [e1] at hle; omega
    apply List.ext_getElem?
    intro j
    by_cases hj : j < wd
    · obtain ⟨b, hb⟩ : ∃ b, r.1[j]? = some b := ⟨_, List.getElem?_eq_getElem (by rw [hf.1]; exact hj)⟩
      rw [List.getElem?_set]
      by_cases e : l = j
      · subst e; rw [if_pos rfl, if_pos (by simpa using hj)]; exact e2
      · rw [if_neg e, List.getElem?_replicate, if_pos hj, hb, cnt_one e2 (by decide) hc hb (fun h => e h.symm)]
    · rw [List.getElem?_eq_none (by rw [hf.1]; omega), List.getElem?_eq_none (by simp; omega)]
  · intro h
    refine ⟨by rw [h]; exact cnt_unit wd i hi, ?_⟩
    rw [e1]
    have h1 : r.1[i]? = some 1 := by rw [h, List.getElem?_set, if_pos rfl, if_pos (by simpa using hi)]
    have : ¬ i < l := fun hil => by have := e3 i 1 hil h1; exact absurd this (by decide)
    have : ¬ l < i := fun hli => by
      have h2 : r.1[l]? = some 0 := by rw [h, List.getElem?_set, if_neg (by omega), List.getElem?_replicate, if_pos (by omega)]
      rw [h2] at e2; cases e2
    omega
/-- is this the row that tells symbol i? -/
def mtS (i : Int) (r : Rw) : Bool := decide (cntS r.1 = 1) && decide (leadS r.1 = i)
theorem known_find {wd t : Nat} {K : List Rw} (hK : ∀ k, k ∈ K → Fit wd t k ∧ Led k) (hw : wd ≤ 65536) (i : Int) : knownS wd K i = match K.find? (mtS i) with
    | some r => (r.2, true)
    | none => ([], false) := by
  unfold knownS unitS
  by_cases hi : i < 0 ∨ (wd : Int) ≤ i
  · rw [if_pos (show (wd : Int) < 0 ∨ (65536 : Int) < (wd : Int) ∨ i < 0 ∨ (wd : Int) ≤ i by omega)]
    have : K.find? (mtS i) = none := List.find?_eq_none.2 fun r hr => by
      obtain ⟨hf, l, e1, -⟩ := hK r hr
      have hl : l < wd := by obtain ⟨-, l', hl'⟩ := hK r hr; have := hl'.lt hf; have e := hl'.1; rw [e1] at e; omega
      unfold mtS
      rw [e1, decide_eq_false (show ¬ ((l : Int) = i) by omega)]
      simp
    rw [this]; rfl
  · rw [if_neg (show ¬ ((wd : Int) < 0 ∨ (65536 : Int) < (wd : Int) ∨ i < 0 ∨ (wd : Int) ≤ i) by omega)]
    obtain ⟨n, rfl⟩ := Int.eq_ofNat_of_zero_le (show 0 ≤ i by omega)
    have hn : n < wd := by omega
    have e : K.find? (fun r => decide (r.1 = (List.replicate wd 0).set n 1)) = K.find? (mtS n) := by
      have : ∀ (L : List Rw), (∀ k, k ∈ L → Fit wd t k ∧ Led k) → L.find? (fun r => decide (r.1 = (List.replicate wd 0).set n 1)) = L.find? (mtS n) := by
        intro L
        induction L with
        | nil => intro _; rfl
        | cons a L ih =>
          intro h
          rw [List.find?_cons, List.find?_cons, ih (fun k hk => h k (by simp [hk]))]
          have hu := unit_iff (h a (by simp)).1 (h a (by simp)).2 hn
          have : mtS n a = decide (a.1 = (List.replicate wd 0).set n 1) := by
            unfold mtS
            by_cases hx : a.1 = (List.replicate wd 0).set n 1
            · rw [decide_eq_true hx, decide_eq_true (hu.2 hx).1, decide_eq_true (hu.2 hx).2]; rfl
            · rw [decide_eq_false hx]
              by_cases h1 : cntS a.1 = 1
              · rw [decide_eq_false (fun h2 => hx (hu.1 ⟨h1, h2⟩))]; simp
              · rw [decide_eq_false h1]; simp
          rw [this]
      exact this K hK
    simp only [ne_eq, not_true_eq_false, if_false, Int.toNat_natCast]
    rw [e]
    all_goals (cases K.find? (mtS n) <;> rfl)
end Go.Proofs.YtbfmdfbnhakolaaDoor
namespace Go.By
open Go.RowKit
/-- bytes in a block of their own -/
def shpBy (T B n : Nat) : Shp := ⟨fun v W => ∃ g, v = .slice (some ⟨g, 0, none⟩) n n ∧ B ≤ g ∧ ∃ bs : List UInt8, bs.length = n ∧ W.heap[g]? = some (.cells (bs.map B8).toArray T (0, 0)), fun _ _ _ ⟨g, e, h, bs, hl, hh⟩ hb => ⟨g, e, h, bs, hl, (hb.block _ (blk_lt hh)).trans hh⟩⟩
theorem eval_tmp' {a : Act} {t : Nat} {v : Value} (h : sl a t = v) : a.eval (.tmp t) = v := h
theorem wp_make_bytes {P : Program} (w : World) {o : Oper} {a : Act} {K : Act → World → Prop} {Q : Exit → Act → World → Prop} (hg : o.guard = none) (l c : Operand) (t : TypeId) (hop : o.op = Op.makeSlice t l c)
    (e : TypeId) (i : TypeInfo) (h1 : P.underlying t = some (.slice e)) (h2 : P.info? e = some i) (h3 : i.zero = some (.int .u8 0)) (h4 : i.size = 1) (h5 : i.bytes = 1) (n : Nat) (hl : a.eval l = .int .i64 n) (hc : a.eval c = .int .i64 n) (hn : n ≤ 65536)
    (hK : ∀ w' g, g = w.heap.size → w'.heap[g]? = some (.cells ((List.replicate n (0 : UInt8)).map B8).toArray e (0, 0)) → Below w.heap.size w w' → K (a.put o.dst (.slice (some ⟨g, 0, none⟩) n n)) w') : o.wp P a w K Q := by
  have _ := hg
  obtain ⟨w', hrun, r1, r2⟩ := run_make_full (P := P) w w.heap.size t e i (.int .u8 0) 1 h1 h2 h3 h4 .i64 .i64 n (by rw [h5]; omega) (by unfold maxLen; omega) (Nat.le_refl _)
  unfold Oper.wp
  simp [execOp, hop, hl, hc, hrun, Result.andThen]
  refine hK w' _ rfl ?_ ((Below.refl _ _).grown r2 (Nat.le_refl _) (by simp))
  have e1 : (madeCells #[Value.int .u8 0] n).toList = List.replicate n (B8 0) := toList_madeCells_one _ _
  have r3 : w'.ownsRow w.heap.size e 1 (.slice (some ⟨w.heap.size, 0, none⟩) n n) n (List.replicate n (B8 0)) := by rw [← e1]; have r4 := r1; simp only [Nat.mul_one] at r4; exact r4
  rw [List.map_replicate]
  exact heap_of_owns r3
/-- a copy of bytes into a block known whole -/
def fillS (bs src : List UInt8) : List UInt8 := src.take bs.length ++ bs.drop src.length
theorem fillS_len (bs src : List UInt8) : (fillS bs src).length = bs.length := by unfold fillS; rw [List.length_append, List.length_take, List.length_drop]; omega
theorem wpList_copy_bytes {P : Program} (w : World) {ops : Array Oper} {rest : List Oper} {o : Oper} {a : Act} {Q : Exit → Act → World → Prop} (hgd : o.guard = none) (d s : Operand) (dT sT : TypeId)
    (ho : o.op = .call { callee := .builtin .copy, args := #[d, s], argTypes := #[dT, sT] }) (elem : TypeId) (hu : P.underlying dT = some (.slice elem)) (hsz : (P.info? elem).map (·.size) = some 1)
    (g n : Nat) (sp : Option Addr) (m c : Nat) (hd : a.eval d = .slice (some ⟨g, 0, none⟩) n n) (hs : a.eval s = .slice sp m c) (bs src : List UInt8) (T : TypeId) (hg : w.heap[g]? = some (.cells (bs.map B8).toArray T (0, 0))) (hl : bs.length = n) (hS : Sl B8 w sp m c src)
    (h : ∀ w' z, w'.heap[g]? = some (.cells ((fillS bs src).map B8).toArray T (0, 0)) → w.grownBy w' (some g) → wpList P ops Q rest (a.put o.dst (goInt z)) w') : wpList P ops Q (o :: rest) a w := by
  have hm := hS.len
  by_cases h0 : Nat.min m n = 0
  · refine wpList_copy_nothing hgd d s dT sT ho elem hu hsz _ sp n n m c hd hs h0 ?_
    refine h w 0 ?_ (World.grownBy.refl _ _)
    have e : fillS bs src = bs := by
      unfold fillS
      rcases Nat.eq_zero_or_pos m with h1 | h1
      · have : src = [] := List.length_eq_zero_iff.1 (by omega)
        subst this; simp
      · have h2 : n = 0 := by have h3 : min m n = 0 := h0; omega
        have : bs = [] := List.length_eq_zero_iff.1 (by omega)
        subst this; simp
    rw [e]; exact hg
  · have h1 : 0 < m ∧ 0 < n := by have h3 : ¬ min m n = 0 := h0; omega
    obtain ⟨b, o', rfl, -⟩ := hS.rs 0 (by omega)
    refine wpList_copy_own hgd d s dT sT ho elem hu hsz g 0 n n ⟨b, o', none⟩ m c hd hs _ T hg ((src.take n).map B8) ?_ ?_ ?_ ?_ ?_
    · rw [List.length_map, List.length_take, hm, Nat.min_comm]
    · intro j v hj
      rw [List.getElem?_map, List.getElem?_take] at hj
      have hjl : j < n ∧ j < src.length := by
        split at hj
        · rename_i hjn
          refine ⟨hjn, ?_⟩
          rcases Nat.lt_or_ge j src.length with g | g
          · exact g
          · rw [List.getElem?_eq_none g] at hj; cases hj
        · cases hj
      obtain ⟨b2, o2, e, hc⟩ := hS.rs j hjl.2
      cases e
      rw [if_pos hjl.1, List.getElem?_eq_getElem hjl.2] at hj
      rw [Addr.add_lit, hc]; exact hj
    · rw [List.length_map, List.length_take]; simp; omega
    · intro v hv
      obtain ⟨y, _, rfl⟩ := List.mem_map.1 hv
      rfl
    · refine h _ _ ?_ (grownBy_setRow w g _)
      rw [hrs hg]
      congr 3
      unfold fillS
      rw [hl, List.map_append, List.map_drop]
      simp only [List.take_zero, List.nil_append, Nat.zero_add, List.toList_toArray, List.length_map, List.length_take]
      congr 1
      rcases Nat.lt_or_ge n src.length with g | g
      · rw [Nat.min_eq_left (by omega), List.drop_eq_nil_of_le (by simp [hl]), List.drop_eq_nil_of_le (by simp [hl]; omega)]
      · rw [Nat.min_eq_right g]
end Go.By
namespace Go.Proofs.YtbfmdfbnhakolaaDoor
open Go.RowKit Go.By
set_option maxRecDepth 100000 in
set_option maxHeartbeats 4000000 in
theorem Fit8_any (k t : Nat) (p1 p2 : Option Addr) (n1 c1 n2 c2 : Nat) (x : Rw) (w : World) (s1 : Sl B8 w p1 n1 c1 x.1) (s2 : Sl B8 w p2 n2 c2 x.2) (hk : k ≤ 65535) (ht : t ≤ 65535) :
    Calls Tryd.prog 28 #[.agg #[.slice p1 n1 c1, .slice p2 n2 c2], .int .i64 k, .int .i64 t] w fun e w' => ∃ q1 d1 q2 d2 xs ys, e = .returned (.agg #[.slice q1 k d1, .slice q2 t d2]) ∧ Sl B8 w' q1 k d1 xs ∧ Sl B8 w' q2 t d2 ys ∧ Below w.heap.size w w' := by
  have hinfo : (Tryd.prog.info? 54).map (·.size) = some 2 := by kernel_rfl
  obtain ⟨i0, hi0, hz0, hz1, hz2⟩ := info_parts info_u8
  have S1 := Lib.hid s1; have S2 := Lib.hid s2
  clear s1 s2
  go_enter Tryd.func28, Tryd.ntmps28
  go_wp2
  have b0 : Below w.heap.size w ((w.alloc (.cells #[.slice p1 n1 c1, .slice p2 n2 c2] 54)).alloc (.cells #[.slice none 0 0, .slice none 0 0] 54)) := al (al (Below.refl _ _) (Nat.le_refl _)) (by simp)
  have x0 : ((w.alloc (.cells #[.slice p1 n1 c1, .slice p2 n2 c2] 54)).alloc (.cells #[.slice none 0 0, .slice none 0 0] 54)).heap[w.heap.size]? = some (.cells #[.slice p1 n1 c1, .slice p2 n2 c2] 54 (0, 0)) := hal (hnew rfl)
  have z0 : ((w.alloc (.cells #[.slice p1 n1 c1, .slice p2 n2 c2] 54)).alloc (.cells #[.slice none 0 0, .slice none 0 0] 54)).heap[w.heap.size + 1]? = some (.cells #[.slice none 0 0, .slice none 0 0] 54 (0, 0)) := hnew (by simp)
  generalize (w.alloc (.cells #[.slice p1 n1 c1, .slice p2 n2 c2] 54)).alloc (.cells #[.slice none 0 0, .slice none 0 0] 54) = w2 at b0 x0 z0 ⊢
  have h12 : w.heap.size + 1 < w2.heap.size := blk_lt z0
  refine wp_region_shapes (fun ix => ([.val (.int .i64 k), (shpBy 5 w2.heap.size k), .val (.int .i64 t), (shpBy 5 w2.heap.size t), (shpBy 5 w2.heap.size k), (shpBy 5 w2.heap.size t)][ix]?).getD (.any)) 24 rfl (by kernel_rfl) (by decide) (by decide) (by decide) ?_ ?_
  · refine ⟨?_, ?_, ?_, ?_, ?_, ?_, trivial⟩
    · intro a W hb0 hs hp hi; have hb := undrew hb0; clear hb0
      have t1 : sl a 1 = .int .i64 k := hi 1 (by decide)
      exact ite_y rfl (wp_val (sl a 1) rfl ⟨_, rfl, Below.refl _ _, t1⟩)
    · intro a W hb0 hs hp hi; have hb := undrew hb0; clear hb0
      have tt : sl a 9 = .int .i64 k := hp 0 (by decide)
      refine ite_y rfl (wp_make_bytes W rfl (.tmp 9) (.tmp 9) 24 rfl 5 i0 Tryd.underlying24 hi0 hz0 hz1 hz2 k (eval_tmp' tt) (eval_tmp' tt) (by omega) ?_)
      intro W' g hg hh hw
      exact ⟨_, rfl, hw, g, rfl, by have := hb.size; omega, List.replicate k 0, by simp, hh⟩
    · intro a W hb0 hs hp hi; have hb := undrew hb0; clear hb0
      have t2 : sl a 2 = .int .i64 t := hi 2 (by decide)
      exact ite_y rfl (wp_val (sl a 2) rfl ⟨_, rfl, Below.refl _ _, t2⟩)
    · intro a W hb0 hs hp hi; have hb := undrew hb0; clear hb0
      have tt : sl a 11 = .int .i64 t := hp 2 (by decide)
      refine ite_y rfl (wp_make_bytes W rfl (.tmp 11) (.tmp 11) 24 rfl 5 i0 Tryd.underlying24 hi0 hz0 hz1 hz2 t (eval_tmp' tt) (eval_tmp' tt) (by omega) ?_)
      intro W' g hg hh hw
      exact ⟨_, rfl, hw, g, rfl, by have := hb.size; omega, List.replicate t 0, by simp, hh⟩
    · intro a W hb0 hs hp hi; have hb := undrew hb0; clear hb0
      exact ite_y rfl (wp_val (sl a 10) rfl ⟨_, rfl, Below.refl _ _, hp 1 (by decide)⟩)
    · intro a W hb0 hs hp hi; have hb := undrew hb0; clear hb0
      exact ite_y rfl (wp_val (sl a 12) rfl ⟨_, rfl, Below.refl _ _, hp 3 (by decide)⟩)
  intro a w3 hb hs hd hI ht
  have ha := act_is [9, 10, 11, 12, 7, 8] hs hd ht (by decide)
  have y7 : (shpBy 5 w2.heap.size k).ok (sl a 7) w3 := hI 4 (by decide)
  obtain ⟨g7, e7, b7, bs7, l7, h7⟩ := y7
  have y8 : (shpBy 5 w2.heap.size t).ok (sl a 8) w3 := hI 5 (by decide)
  obtain ⟨g8, e8, b8, bs8, l8, h8⟩ := y8
  simp only [List.foldl, e7, e8] at ha
  generalize sl a 9 = u9 at ha
  generalize sl a 10 = u10 at ha
  generalize sl a 11 = u11 at ha
  generalize sl a 12 = u12 at ha
  simp only [Act.put, List.setIfInBounds_toArray, List.set_cons_zero, List.set_cons_succ] at ha
  rw [ha]
  clear ha hI ht
  have B3 := Lib.hid (bl b0 hb b0.size)
  have X3 := Lib.hid ((hb.block _ (blk_lt x0)).trans x0); have Z3 := Lib.hid ((hb.block _ (blk_lt z0)).trans z0)
  have S13 := Lib.hid (S1.out.keep B3.out)
  have L7 := Lib.hid l7; have L8 := Lib.hid l8; have H7 := Lib.hid h7; have H8 := Lib.hid h8
  clear b0 x0 z0 hb l7 l8 h7 h8 S1
  obtain ⟨y0, y1⟩ := cells2 X3.out
  go_wp2_with (with_reducible refine wpList_copy_bytes w3 rfl (.tmp 13) (.tmp 15) 24 24 rfl 5 Tryd.underlying24 (by kernel_rfl) g7 k p1 n1 c1 rfl rfl bs7 x.1 5 H7.out L7.out S13.out ?_)
  intro w4 z4 hh4 hg4
  have B4 := Lib.hid (B3.out.grown hg4 (by have := B3.out.size; omega) (fun j hj => by cases hj; omega))
  have ne1 : w.heap.size ≠ g7 := by omega
  have ne2 : w.heap.size + 1 ≠ g7 := by omega
  have X4 := Lib.hid ((hg4.block _ (blk_lt X3.out) (fun e => ne1 (Option.some.inj e))).trans X3.out); have Z4 := Lib.hid ((hg4.block _ (blk_lt Z3.out) (fun e => ne2 (Option.some.inj e))).trans Z3.out)
  have S24 := Lib.hid (S2.out.keep B4.out)
  have H84 : Hid (∃ bs : List UInt8, bs.length = t ∧ w4.heap[g8]? = some (.cells (bs.map B8).toArray 5 (0, 0))) := by
    by_cases e : g8 = g7
    · subst e
      have h2 := H8.out
      rw [H7.out] at h2
      have h3 : (bs7.map B8).toArray.size = (bs8.map B8).toArray.size := by injection h2 with h2; injection h2 with h2; rw [h2]
      have h4 : k = t := by have h5 := L7.out; have h6 := L8.out; simp at h3; omega
      exact ⟨_, by rw [fillS_len, L7.out, h4], hh4⟩
    · exact ⟨bs8, L8.out, (hg4.block _ (blk_lt H8.out) (fun e2 => e (Option.some.inj e2))).trans H8.out⟩
  have H74 : Hid (∃ bs : List UInt8, bs.length = k ∧ w4.heap[g7]? = some (.cells (bs.map B8).toArray 5 (0, 0))) := ⟨_, by rw [fillS_len, L7.out], hh4⟩
  clear X3 Z3 S13 y0 y1 hh4 hg4 H7 H8 L7 L8 B3 S2
  obtain ⟨y0, y1⟩ := cells2 X4.out
  obtain ⟨bs, lb, hb8⟩ := H84.out
  have LB := Lib.hid lb; have HB8 := Lib.hid hb8
  clear lb hb8
  go_wp2_with (with_reducible refine wpList_copy_bytes w4 rfl (.tmp 17) (.tmp 19) 24 24 rfl 5 Tryd.underlying24 (by kernel_rfl) g8 t p2 n2 c2 rfl rfl bs x.2 5 HB8.out LB.out S24.out ?_)
  intro w5 z5 hh5 hg5
  have B5 := Lib.hid (B4.out.grown hg5 (by have := B4.out.size; omega) (fun j hj => by cases hj; omega))
  have ne3 : w.heap.size + 1 ≠ g8 := by omega
  have Z5 := Lib.hid ((hg5.block _ (blk_lt Z4.out) (fun e => ne3 (Option.some.inj e))).trans Z4.out)
  have H75 : Hid (∃ bs : List UInt8, bs.length = k ∧ w5.heap[g7]? = some (.cells (bs.map B8).toArray 5 (0, 0))) := by
    obtain ⟨bs', l', h'⟩ := H74.out
    by_cases e : g7 = g8
    · subst e
      have h2 := HB8.out
      rw [h'] at h2
      have h3 : (bs'.map B8).toArray.size = (bs.map B8).toArray.size := by injection h2 with h2; injection h2 with h2; rw [h2]
      have h4 : k = t := by have h5 := LB.out; simp at h3; omega
      exact ⟨_, by rw [fillS_len, LB.out, h4], hh5⟩
    · exact ⟨bs', l', (hg5.block _ (blk_lt h') (fun e2 => e (Option.some.inj e2))).trans h'⟩
  have H85 : Hid (∃ bs : List UInt8, bs.length = t ∧ w5.heap[g8]? = some (.cells (bs.map B8).toArray 5 (0, 0))) := ⟨_, by rw [fillS_len, LB.out], hh5⟩
  obtain ⟨f0, f1⟩ := cells2 Z5.out
  have v0 := frozen_of_row _ _ 0 _ _ Z5.out
  have v1 := frozen_of_row _ _ 1 _ _ Z5.out
  clear X4 Z4 S24 y0 y1 hh5 hg5 HB8 LB B4 H74 H84
  go_wp2
  obtain ⟨xs, lx, hx⟩ := H75.out
  obtain ⟨ys, ly, hy⟩ := H85.out
  have n7 : g7 ≠ w.heap.size + 1 := by omega
  have n8 : g8 ≠ w.heap.size + 1 := by omega
  refine bodyPost_ret (results_cell_row rfl _ _ _ 54 #[.slice (some ⟨g7, 0, none⟩) k k, .slice (some ⟨g8, 0, none⟩) t t] (0, 0) _ rfl (hss (hss Z5.out)) Tryd.underlying54 rfl hinfo) rfl ⟨some ⟨g7, 0, none⟩, k, some ⟨g8, 0, none⟩, t, xs, ys, rfl, ?_, ?_, (B5.out.setCell (by simp) _).setCell (by simp) _⟩
  · exact sl_block xs k (hsc (hsc hx n7) n7) rfl lx (by unfold maxLen; omega)
  · exact sl_block ys t (hsc (hsc hy n8) n8) rfl ly (by unfold maxLen; omega)
end Go.Proofs.YtbfmdfbnhakolaaDoor
namespace Go.Proofs.YtbfmdfbnhakolaaDoor
open Go.RowKit Go.By
/-- rows made at first: all without bytes -/
theorem RwL.made {w : World} {base g n : Nat} (hh : w.heap[g]? = some (.cells (madeCells #[.slice none 0 0, .slice none 0 0] (n * 2)) 63 (0, 0))) (hb : base ≤ g) (hn : n ≤ maxLen) : RwL 63 5 w base (.slice (some ⟨g, 0, none⟩) n n) n (List.replicate n ([], [])) := by
  have hfl : (madeCells #[.slice none 0 0, .slice none 0 0] (n * 2)).toList = fl2 (List.replicate n ((.slice none 0 0 : Value), (.slice none 0 0 : Value))) := by
    apply List.ext_getElem?
    intro i
    by_cases hi : i < n * 2
    · have e1 : (madeCells #[.slice none 0 0, .slice none 0 0] (n * 2)).toList[i]? = some (.slice none 0 0) := by
        rcases Nat.mod_two_eq_zero_or_one i with h | h <;> simp [madeCells, hi, h]
      have hd : i / 2 < n := by omega
      obtain ⟨f1, f2⟩ := fl2_at (vs := List.replicate n ((.slice none 0 0 : Value), (.slice none 0 0 : Value))) (i := i / 2) (u := (.slice none 0 0, .slice none 0 0)) (by rw [List.getElem?_replicate, if_pos hd])
      rw [e1]
      rcases Nat.mod_two_eq_zero_or_one i with h | h
      · rw [show i / 2 * 2 = i by omega] at f1; exact f1.symm
      · rw [show i / 2 * 2 + 1 = i by omega] at f2; exact f2.symm
    · rw [List.getElem?_eq_none (by simp [madeCells]; omega), List.getElem?_eq_none (by rw [fl2_length, List.length_replicate]; omega)]
  refine ⟨List.replicate n (.slice none 0 0, .slice none 0 0), by simp, by simp, ⟨by rw [fl2_length, List.length_replicate], .inr ⟨g, n, _, rfl, hb, hh, Nat.le_refl _, hn, by simp [madeCells], ?_⟩⟩, ?_⟩
  · rw [hfl, List.take_of_length_le (by rw [fl2_length, List.length_replicate]; omega)]
  · intro j u hj
    obtain ⟨h1, h2⟩ := List.getElem?_eq_some_iff.1 hj
    rw [List.length_replicate] at h1
    simp at h2
    subst h2
    exact ⟨([], []), by rw [List.getElem?_replicate, if_pos h1], ⟨none, 0, 0, rfl, rfl, World.ownsRow_nil _ _ _ _⟩, ⟨none, 0, 0, rfl, rfl, World.ownsRow_nil _ _ _ _⟩⟩
theorem fill_step {α : Type} {K : List α} {j n : Nat} {a z : α} (hj : K[j]? = some a) (hn : K.length = n) : (K.take j ++ List.replicate (n - j) z).set j a = K.take (j + 1) ++ List.replicate (n - (j + 1)) z := by
  have hl := (List.getElem?_eq_some_iff.1 hj).1
  have lj : (K.take j).length = j := by rw [List.length_take]; omega
  rw [List.set_append_right _ _ (by omega), lj, Nat.sub_self, List.take_add_one, hj]
  rw [show n - j = (n - (j + 1)) + 1 by omega, List.replicate_succ]
  simp
theorem heap_owns2 {w : World} {base E g n : Nat} {L : List Value} (h : w.ownsRow base E 2 (.slice (some ⟨g, 0, none⟩) n n) n L) : w.heap[g]? = some (.cells L.toArray E (0, 0)) := by
  rcases h.2 with ⟨h1, _⟩ | ⟨g', cap, cur, hv, _, hh, _, _, hs, ht⟩
  · cases h1
  · cases hv
    rw [hh]
    have : cur = L.toArray := by
      rw [← ht, List.take_of_length_le (by simp [hs])]
    rw [this]
end Go.Proofs.YtbfmdfbnhakolaaDoor
namespace Go.By
open Go.RowKit
theorem RwL.mono {T2 T1 base b2 n : Nat} {w : World} {v : Value} {K : List (List UInt8 × List UInt8)} (h : RwL T2 T1 w base v n K) (hb : b2 ≤ base) : RwL T2 T1 w b2 v n K := by
  obtain ⟨vs, a, b, o, r⟩ := h
  refine ⟨vs, a, b, ?_, fun j u hj => by obtain ⟨k, hk, g1, g2⟩ := r j u hj; exact ⟨k, hk, g1.mono hb, g2.mono hb⟩⟩
  obtain ⟨q, c, rfl⟩ := owns_shape o
  exact owns_mono o hb
end Go.By
namespace Go.Proofs.YtbfmdfbnhakolaaDoor
open Go.RowKit Go.By
def shpRL (B n : Nat) (K : List Rw) : Shp := ⟨fun v W => RwL 63 5 W B v n K, fun _ _ _ h hb => h.keep hb⟩
def shpRB (B n k t : Nat) (K : List Rw) : Shp := ⟨fun v W => ∃ u, v = .agg #[.int .i64 k, .int .i64 t, u] ∧ RwL 63 5 W B u n K, fun _ _ _ ⟨u, e, h⟩ hb => ⟨u, e, h.keep hb⟩⟩
def shpEl (B n k t : Nat) (K : List Rw) : Shp := ⟨fun v W => ∃ b u, v = .pointer (some ⟨b, 0, none⟩) ∧ Elm W B b k t u n K, fun _ _ _ ⟨b, u, e, h⟩ hb => ⟨b, u, e, h.keep hb⟩⟩
end Go.Proofs.YtbfmdfbnhakolaaDoor
namespace Go.By
open Go.RowKit
section
variable {T2 T1 : TypeId} {w w' : World} {base n : Nat} {v : Value} {xss : List (List UInt8)}
theorem Own2.mono {b2 : Nat} (h : Own2 T2 T1 w base v n xss) (hb : b2 ≤ base) : Own2 T2 T1 w b2 v n xss := by
  obtain ⟨vs, a, b, r⟩ := h
  obtain ⟨q, c, rfl⟩ := owns_shape a
  exact ⟨vs, owns_mono a hb, b, fun j u hj => by obtain ⟨xs, q', c', e1, e2, e3⟩ := r j u hj; exact ⟨xs, q', c', e1, e2, owns_mono e3 hb⟩⟩
theorem Own2.made {q : Value} (ho : w.ownsRow base T2 1 q n (madeCells #[Value.slice none 0 0] n).toList) : Own2 T2 T1 w base q n (List.replicate n []) := by
  have e : (madeCells #[Value.slice none 0 0] n).toList = List.replicate n (Value.slice none 0 0) := toList_madeCells_one _ _
  rw [e] at ho
  refine ⟨_, ho, by simp, fun j u hj => ?_⟩
  obtain ⟨h1, h2⟩ := List.getElem?_eq_some_iff.1 hj
  rw [List.length_replicate] at h1
  simp at h2
  exact ⟨[], none, 0, by rw [List.getElem?_replicate, if_pos h1], h2.symm, World.ownsRow_nil _ _ _ _⟩
theorem Own2.put {g c i m c3 : Nat} {q3 : Option Addr} {xs : List UInt8} (h : Own2 T2 T1 w base (.slice (some ⟨g, 0, none⟩) n c) n xss) (hT : T1 ≠ T2) (hi : i < n) (h1 : w.ownsRow base T1 1 (.slice q3 m c3) m (xs.map B8)) :
    Own2 T2 T1 (w.setCell ⟨g, i, none⟩ (.slice q3 m c3)) base (.slice (some ⟨g, 0, none⟩) n c) n (xss.set i xs) := by
  obtain ⟨vs, a, b, r⟩ := h
  have hml : m = xs.length := by have := h1.1; simp at this; exact this.symm
  subst hml
  have hvl : vs.length = n := by simpa using a.1
  have hst := a.stored i (.slice q3 xs.length c3)
  refine ⟨vs.set i (.slice q3 xs.length c3), hst.1, by simp [b], fun j u hj => ?_⟩
  rw [List.getElem?_set] at hj
  by_cases e : i = j
  · subst e
    rw [if_pos rfl, if_pos (by omega)] at hj
    cases hj
    exact ⟨xs, q3, c3, by rw [List.getElem?_set, if_pos rfl, if_pos (by omega)], rfl, owns_kept h1 hst.2 (owns_ne h1 a hT)⟩
  · rw [if_neg e] at hj
    obtain ⟨xs', q', c', e1, e2, e3⟩ := r j u hj
    exact ⟨xs', q', c', by rw [List.getElem?_set, if_neg e]; exact e1, e2, owns_kept e3 hst.2 (owns_ne e3 a hT)⟩
theorem Own2.blk {g c i : Nat} (h : Own2 T2 T1 w base (.slice (some ⟨g, 0, none⟩) n c) n xss) (hi : i < n) : (∃ u, w.cell? ⟨g, i, none⟩ = some u) ∧ w.frozen? ⟨g, i, none⟩ = false ∧ base ≤ g := by
  obtain ⟨vs, a, b, r⟩ := h
  have hvl : vs.length = n := by simpa using a.1
  exact ⟨⟨_, (a.cellAt i (by omega)).trans (List.getElem?_eq_getElem (by omega))⟩, a.frozenAt _, (a.lt g rfl).1⟩
end
end Go.By
namespace Go.Proofs.YtbfmdfbnhakolaaDoor
open Go.RowKit Go.By
theorem snds_step {K : List Rw} {j n : Nat} {r : Rw} (hj : K[j]? = some r) (hn : K.length = n) : ((K.take j).map (fun x : Rw => x.2) ++ List.replicate (n - j) []).set j r.2 = (K.take (j + 1)).map (fun x : Rw => x.2) ++ List.replicate (n - (j + 1)) [] := by
  have e := fill_step (K := K.map (fun x : Rw => x.2)) (j := j) (n := n) (a := r.2) (z := []) (by rw [List.getElem?_map, hj]; rfl) (by rw [List.length_map]; exact hn)
  rw [List.map_take, List.map_take]; exact e
end Go.Proofs.YtbfmdfbnhakolaaDoor
namespace Go.By
open Go.RowKit Go.Proofs.YtbfmdfbnhakolaaDoor
theorem owns_same {w w' : World} {base T k n : Nat} {v : Value} {L : List Value} (h : w.ownsRow base T k v n L) (hs : w.heap.size ≤ w'.heap.size) (hb : ∀ g, v.ownBlock = some g → w'.heap[g]? = w.heap[g]?) : w'.ownsRow base T k v n L := by
  have _ := hs
  refine ⟨h.1, ?_⟩
  rcases h.2 with h1 | ⟨g, cap, cur, e, h1, h2, h3⟩
  · exact .inl h1
  · exact .inr ⟨g, cap, cur, e, h1, (hb g (by rw [e]; rfl)).trans h2, h3⟩
section
variable {w w' : World} {base be k t n : Nat} {v : Value} {K : List Rw}
theorem Chg.blk (h : Chg w w' be v) (hE : Elm w base be k t v n K) {g T : Nat} {cs : Array Value} {fr : Nat × Nat} (hg : w.heap[g]? = some (.cells cs T fr)) (h1 : T ≠ 109) (h2 : v.ownBlock ≠ some g) : w'.heap[g]? = some (.cells cs T fr) := by
  refine (h.block g (blk_lt hg) (fun e => ?_) h2).trans hg
  subst e
  rw [hE.box] at hg; injection hg with hg; injection hg with _ hg _; exact h1 hg.symm
theorem Chg.blk2 (h : Chg w w' be v) (hE : Elm w base be k t v n K) {g T : Nat} {cs : Array Value} {fr : Nat × Nat} (hg : w.heap[g]? = some (.cells cs T fr)) (h1 : T ≠ 109) (h2 : 63 ≠ T) : w'.heap[g]? = some (.cells cs T fr) :=
  h.blk hE hg h1 (hE.rows.ne_box hg h2)
theorem Chg.bw (h : Chg w w' be v) (hE : Elm w base be k t v n K) {b : Nat} {u : Value} {xs : List UInt8} (hu : Bw 5 w b u xs) : Bw 5 w' b u xs := by
  obtain ⟨q, m, c, e, l, o⟩ := hu
  refine ⟨q, m, c, e, l, owns_same o h.size fun g hg => ?_⟩
  rcases o.2 with ⟨e1, _⟩ | ⟨g', cap, cur, e1, _, hh, _⟩
  · rw [e1] at hg; cases hg
  · rw [e1] at hg; cases hg
    rw [h.blk2 hE hh (by decide) (by decide), hh]
theorem Chg.rwl (h : Chg w w' be v) (hE : Elm w base be k t v n K) {b2 n2 : Nat} {v2 : Value} {K2 : List Rw} (h2 : RwL 63 5 w b2 v2 n2 K2) (hne : ∀ g, v2.ownBlock = some g → v.ownBlock ≠ some g) : RwL 63 5 w' b2 v2 n2 K2 := by
  obtain ⟨vs, a, b, o, r⟩ := h2
  refine ⟨vs, a, b, owns_same o h.size fun g hg => ?_, fun j u hj => by obtain ⟨x, hk, g1, g2⟩ := r j u hj; exact ⟨x, hk, h.bw hE g1, h.bw hE g2⟩⟩
  rcases o.2 with ⟨e1, _⟩ | ⟨g', cap, cur, e1, _, hh, _⟩
  · rw [e1] at hg; cases hg
  · have hn := hne g hg
    rw [e1] at hg; cases hg
    rw [h.blk hE hh (by decide) hn, hh]
theorem Chg.elm (h : Chg w w' be v) (hE : Elm w base be k t v n K) {b2 be2 n2 k2 t2 : Nat} {v2 : Value} {K2 : List Rw} (h2 : Elm w b2 be2 k2 t2 v2 n2 K2) (hbe : be2 ≠ be) (hne : ∀ g, v2.ownBlock = some g → v.ownBlock ≠ some g) : Elm w' b2 be2 k2 t2 v2 n2 K2 :=
  ⟨(h.block be2 (blk_lt h2.box) hbe (hE.rows.ne_box h2.box (by decide))).trans h2.box, h.rwl hE h2.rows hne, h2.old⟩
theorem Chg.rwn (h : Chg w w' be v) (hE : Elm w base be k t v n K) {W : World} {q : Option Addr} {m c : Nat} {D : List Rw} (hD : RwN W w 71 q m c D) (hW : W.heap.size ≤ base) : RwN W w' 71 q m c D := by
  obtain ⟨h1, h2, vs, o, h4⟩ := hD
  refine ⟨h1.trans (chg_old h hE.rows hW (Nat.le_trans hW hE.old) h1.size), h2, vs, owns_same o h.size fun g hg => ?_, h4⟩
  rcases o.2 with ⟨e1, _⟩ | ⟨g', cap, cur, e1, _, hh, _⟩
  · rw [e1] at hg; cases hg
  · rw [e1] at hg; cases hg
    rw [h.blk2 hE hh (by decide) (by decide), hh]
end
end Go.By
namespace Go.Proofs.YtbfmdfbnhakolaaDoor
open Go.RowKit Go.By
/-- what comes of an equation that fits -/
def codeF (K : List Rw) (x : Rw) : Int := if leadS (restF K x).1 < 0 then (if zeroS (restF K x).2 = true then 1 else 2) else 0
def putK (K : List Rw) (x : Rw) : List Rw := if leadS (restF K x).1 < 0 then K else putF K x
def putD (K D : List Rw) (x : Rw) : List Rw := if leadS (restF K x).1 < 0 then D else D ++ [x]
theorem Sys.putK {n t : Nat} {D K : List Rw} {x : Rw} (h : Sys n t (kD D) K) (hx : Fit n t x) : Sys n t (kD (putD K D x)) (putK K x) := by
  unfold putD Go.Proofs.YtbfmdfbnhakolaaDoor.putK
  by_cases hn : leadS (restF K x).1 < 0
  · rw [if_pos hn, if_pos hn]; exact h
  · rw [if_neg hn, if_neg hn, kD_snoc]; exact h.put hx hn
theorem RwN.vals {W w : World} {T n c : Nat} {q : Option Addr} {K : List Rw} (h : RwN W w T q n c K) : ∃ vs, w.ownsRow W.heap.size T 2 (.slice q n c) n (fl2 vs) ∧ RwV w q n c vs ∧ vs.length = n ∧ ∀ (j : Nat) (k : Rw), K[j]? = some k → ∃ u, vs[j]? = some u ∧ RwP W u k := by
  obtain ⟨hb, hl, vs, o, hv⟩ := h
  have hvl : vs.length = n := by have := o.1; rw [fl2_length] at this; omega
  refine ⟨vs, o, RwV.of_owns o (fun u hu => ?_), hvl, hv⟩
  obtain ⟨a, ha, hu⟩ := List.mem_flatMap.1 hu
  obtain ⟨j, hj, rfl⟩ := List.getElem_of_mem ha
  obtain ⟨u', hu', q1, m1, c1, q2, m2, c2, e, -⟩ := hv j (K[j]'(by omega)) (List.getElem?_eq_getElem (by omega))
  rw [List.getElem?_eq_getElem hj] at hu'
  injection hu' with hu'
  rw [hu', e] at hu
  simp at hu
  rcases hu with rfl | rfl <;> rfl
theorem incr_ge {l : List Nat} (h : l.Pairwise (· < ·)) : ∀ (i : Nat) (hi : i < l.length), i ≤ l[i]
  | 0, _ => Nat.zero_le _
  | i + 1, hi => by
    have h1 := incr_ge h i (by omega)
    have h2 := List.pairwise_iff_getElem.1 h i (i + 1) (by omega) hi (by omega)
    omega
theorem incr_le {l : List Nat} {B : Nat} (h : l.Pairwise (· < ·)) (hB : ∀ a, a ∈ l → a < B) : ∀ (d i : Nat) (hi : i < l.length), i + d + 1 = l.length → l[i] + d < B
  | 0, i, hi, _ => hB _ (List.getElem_mem hi)
  | d + 1, i, hi, he => by
    have h1 := incr_le h hB d (i + 1) (by omega) (by omega)
    have h2 := List.pairwise_iff_getElem.1 h i (i + 1) hi (by omega) (by omega)
    omega
theorem incr_len {l : List Nat} {B : Nat} (h : l.Pairwise (· < ·)) (hB : ∀ a, a ∈ l → a < B) : l.length ≤ B := by
  rcases Nat.eq_zero_or_pos l.length with h0 | h0
  · omega
  · have h1 := incr_ge h (l.length - 1) (by omega)
    have h2 := hB _ (List.getElem_mem (show l.length - 1 < l.length by omega))
    omega
theorem incr_range {l : List Nat} {B : Nat} (h : l.Pairwise (· < ·)) (hB : ∀ a, a ∈ l → a < B) (hl : l.length = B) : ∀ i, i < B → l[i]? = some i := fun i hi => by
  have hi' : i < l.length := by omega
  have h1 := incr_ge h i hi'
  have h2 := incr_le h hB (B - 1 - i) i hi' (by omega)
  rw [List.getElem?_eq_getElem hi']
  congr 1; omega
/-- a full system: its rows are units -/
theorem full_units {k t : Nat} {K : List Rw} (h : Red k t K) (hl : K.length = k) {i : Nat} {r : Rw} (hr : K[i]? = some r) : r.1 = (List.replicate k 0).set i 1 := by
  have hik : i < k := by have := (List.getElem?_eq_some_iff.1 hr).1; omega
  have hlead : ∀ j, j < k → (K.map leadN)[j]? = some j := incr_range h.leads (B := k) (fun a ha => by
    obtain ⟨x, hx, rfl⟩ := List.mem_map.1 ha
    obtain ⟨hf, hl⟩ := h.kept.rows x hx
    exact hl.at.lt hf) (by rw [List.length_map, hl])
  have hf := (h.kept.rows r (List.mem_of_getElem? hr)).1
  apply List.ext_getElem?
  intro j
  by_cases hj : j < k
  · obtain ⟨s, hs⟩ : ∃ s, K[j]? = some s := ⟨_, List.getElem?_eq_getElem (by omega)⟩
    have hd := h.delta hr hs
    have hls : leadN s = j := by
      have := hlead j hj
      rw [List.getElem?_map, hs] at this
      simpa using this
    rw [hls] at hd
    have e1 := vR_at (x := r) (l := j) hf hj
    rw [hd] at e1
    unfold atS at e1
    rw [if_pos (Int.natCast_nonneg _), Int.toNat_natCast, List.getD_eq_getElem?_getD, List.getElem?_eq_getElem (by rw [hf.1]; exact hj)] at e1
    rw [List.getElem?_eq_getElem (by rw [hf.1]; exact hj), List.getElem?_set]
    by_cases e : i = j
    · rw [if_pos e] at e1
      rw [if_pos e, if_pos (by simpa using hik)]
      simpa using e1
    · rw [if_neg e] at e1
      rw [if_neg e, List.getElem?_replicate, if_pos hj]
      simpa using e1
  · rw [List.getElem?_eq_none (by rw [hf.1]; omega), List.getElem?_eq_none (by simp; omega)]
theorem known_full {k t : Nat} {K : List Rw} (h : Red k t K) (hl : K.length = k) (hk : k ≤ 65536) {i : Nat} {r : Rw} (hr : K[i]? = some r) : knownS k K i = (r.2, true) := by
  rw [known_find h.kept.rows hk]
  have hik : i < k := by have := (List.getElem?_eq_some_iff.1 hr).1; omega
  have hmt : ∀ (j : Nat) (s : Rw), K[j]? = some s → mtS i s = decide (j = i) := fun j s hs => by
    have hjk : j < k := by have := (List.getElem?_eq_some_iff.1 hs).1; omega
    have hu := full_units h hl hs
    obtain ⟨hf, hd⟩ := h.kept.rows s (List.mem_of_getElem? hs)
    have := (unit_iff hf hd hjk).2 hu
    unfold mtS
    rw [this.1, this.2]
    by_cases e : j = i
    · subst e; simp
    · rw [decide_eq_false e, decide_eq_false (show ¬ ((j : Int) = (i : Int)) by omega)]; simp
  have : K.find? (mtS i) = some r := by
    rw [List.find?_eq_some_iff_getElem]
    obtain ⟨hik', e⟩ := List.getElem?_eq_some_iff.1 hr
    refine ⟨by rw [hmt i r hr]; simp, i, hik', e, fun a ha => ?_⟩
    have hak : a < K.length := by omega
    rw [hmt a K[a] (List.getElem?_eq_getElem hak), decide_eq_false (show ¬ a = i by omega)]; rfl
  rw [this]
theorem Red.le {k t : Nat} {K : List Rw} (h : Red k t K) : K.length ≤ k := by
  have := incr_len h.leads (B := k) (fun a ha => by
    obtain ⟨x, hx, rfl⟩ := List.mem_map.1 ha
    obtain ⟨hf, hl⟩ := h.kept.rows x hx
    exact hl.at.lt hf)
  rwa [List.length_map] at this
end Go.Proofs.YtbfmdfbnhakolaaDoor
namespace Go.Proofs.YtbfmdfbnhakolaaDoor
open Go.RowKit Go.By
theorem rowF_cons {wd : Nat} {x : List UInt8} {l : List (List UInt8)} (hx : x.length = wd) (i : Nat) : rowF wd (x :: l).flatten (i + 1) = rowF wd l.flatten i := by
  unfold rowF
  rw [List.flatten_cons, Nat.add_mul, Nat.one_mul, Nat.add_comm, ← List.drop_drop, ← hx, List.drop_left]
theorem rows_flat {wd : Nat} : ∀ {xss : List (List UInt8)}, (∀ x, x ∈ xss → x.length = wd) → (List.range xss.length).map (rowF wd xss.flatten) = xss
  | [], _ => rfl
  | x :: l, h => by
    have hx := h x (by simp)
    rw [List.length_cons, List.range_succ_eq_map, List.map_cons, List.map_map]
    congr 1
    · unfold rowF; rw [Nat.zero_mul, List.drop_zero, List.flatten_cons, ← hx, List.take_left]
    · have e : (rowF wd (x :: l).flatten ∘ Nat.succ) = rowF wd l.flatten := by funext i; exact rowF_cons hx i
      rw [e]; exact rows_flat (fun y hy => h y (by simp [hy]))
theorem flat_rows {wd : Nat} : ∀ (n : Nat) {C : List UInt8}, C.length = n * wd → ((List.range n).map (rowF wd C)).flatten = C
  | 0, C, h => by have : C = [] := List.length_eq_zero_iff.1 (by simpa using h)
                  subst this; rfl
  | n + 1, C, h => by
    rw [List.range_succ_eq_map, List.map_cons, List.map_map, List.flatten_cons]
    have e : (rowF wd C ∘ Nat.succ) = rowF wd (C.drop wd) := by
      funext i; unfold rowF; simp only [Function.comp]
      rw [List.drop_drop, Nat.succ_mul, Nat.add_comm]
    rw [e, flat_rows n (by rw [List.length_drop, h, Nat.add_mul]; omega)]
    unfold rowF
    rw [Nat.zero_mul, List.drop_zero, List.take_append_drop]
theorem unitC_at (n : Nat) : ∀ k, k ≤ n → ∀ a b, a < n → b < n → (unitC n k)[a * n + b]? = some (if a = b ∧ a < k then 1 else 0)
  | 0, _, a, b, ha, hb => by
    have hlt : a * n + b < n * n := by
      have : (a + 1) * n ≤ n * n := Nat.mul_le_mul_right _ ha
      rw [Nat.add_mul, Nat.one_mul] at this; omega
    unfold unitC; rw [List.getElem?_replicate_of_lt hlt]; simp
  | k + 1, hk, a, b, ha, hb => by
    have hlt : a * n + b < n * n := by
      have : (a + 1) * n ≤ n * n := Nat.mul_le_mul_right _ ha
      rw [Nat.add_mul, Nat.one_mul] at this; omega
    have ih := unitC_at n k (by omega) a b ha hb
    unfold unitC
    rw [List.getElem?_set]
    by_cases e : k * n + k = a * n + b
    · have h1 : k = a := by
        have d1 : (k * n + k) / n = k := by rw [Nat.mul_comm, Nat.mul_add_div (by omega), Nat.div_eq_of_lt (by omega)]; rfl
        have d2 : (a * n + b) / n = a := by rw [Nat.mul_comm, Nat.mul_add_div (by omega), Nat.div_eq_of_lt hb]; rfl
        rw [e, d2] at d1; exact d1.symm
      subst h1
      have h2 : k = b := by omega
      subst h2
      rw [if_pos rfl, unitC_len, if_pos hlt, if_pos ⟨rfl, by omega⟩]
    · rw [if_neg e, ih]
      by_cases h1 : a = b
      · subst h1
        have : a ≠ k := fun h => e (by rw [h])
        by_cases h2 : a < k
        · rw [if_pos ⟨rfl, h2⟩, if_pos ⟨rfl, by omega⟩]
        · rw [if_neg (fun h => h2 h.2), if_neg (fun h => h2 (by omega))]
      · rw [if_neg (fun h => h1 h.1), if_neg (fun h => h1 h.1)]
theorem unit_elem {N k j : Nat} {row : List UInt8} {x : UInt8} (hk : k < N) (hrow : ((List.range N).map (rowF N (unitC N N)))[k]? = some row) (hx : row[j]? = some x) (hj : j < N) : x = if k = j then 1 else 0 := by
  rw [List.getElem?_map, List.getElem?_range hk] at hrow
  have e : rowF N (unitC N N) k = row := by simpa using hrow
  rw [← e] at hx
  unfold rowF at hx
  rw [List.getElem?_take, if_pos hj, List.getElem?_drop, unitC_at N N (Nat.le_refl _) k j hk hj] at hx
  have := Option.some.inj hx
  rw [← this]
  by_cases h : k = j
  · rw [if_pos h, if_pos ⟨h, hk⟩]
  · rw [if_neg h, if_neg (fun g => h g.1)]
/-- a grid is a unit just where its rows are -/
theorem unit_same {N wd m : Nat} {xss : List (List UInt8)} (hm : xss.length = m) (h : ∀ x, x ∈ xss → x.length = wd) : decide (wd = N ∧ m = N ∧ xss.flatten = unitC N N) = (decide (wd = N) && decide (xss = (List.range N).map (rowF N (unitC N N)))) := by
  by_cases e : wd = N
  · subst e
    rw [decide_eq_true rfl, Bool.true_and, decide_eq_decide]
    constructor
    · rintro ⟨_, h2, h3⟩
      have := rows_flat h
      rw [hm, h2, h3] at this
      exact this.symm
    · intro h2
      refine ⟨rfl, ?_, ?_⟩
      · rw [← hm, h2]; simp
      · rw [h2]; exact flat_rows wd (unitC_len wd wd)
  · rw [decide_eq_false (fun h => e h.1), decide_eq_false e, Bool.false_and]
end Go.Proofs.YtbfmdfbnhakolaaDoor
namespace Go.Proofs.YtbfmdfbnhakolaaDoor
open Go.RowKit Go.By
end Go.Proofs.YtbfmdfbnhakolaaDoor
namespace Go.Proofs.YtbfmdfbnhakolaaDoor
open Go.RowKit Go.By
/-- the rows and their data, ahead of the columns: so many -/
def fillF (n : Nat) (cells : List UInt8) (k : Nat) : Nat → Rw := fun i => if i < k then (rowF n cells i, rowF n (unitC n n) i) else ([], [])
theorem fillF_step (n : Nat) (cells : List UInt8) (k : Nat) : updF (fillF n cells k) k (rowF n cells k, rowF n (unitC n n) k) = fillF n cells (k + 1) := by
  funext i
  unfold updF fillF
  by_cases h : i = k
  · rw [if_pos h, if_pos (by omega), h]
  · rw [if_neg h]
    by_cases h2 : i < k
    · rw [if_pos h2, if_pos (by omega)]
    · rw [if_neg h2, if_neg (by omega)]
def sqR (n : Nat) (cells : List UInt8) : List Gf.V := (List.range n).map fun i => vf (rowF n cells i)
def flatF (n : Nat) (F : Nat → Rw) : List UInt8 := ((List.range n).map fun i => (F i).2).flatten
/-- what Inverse gives of a square -/
def RetI (w : World) (n : Nat) (cells : List UInt8) (e : Ending) (w' : World) : Prop :=
  ∃ F : Nat → Rw, (GJ n (sqR n cells) F n ∧ RetG2 5 w n n (flatF n F) 0 e w') ∨ ∃ c, c < n ∧ GJ n (sqR n cells) F c ∧ (∀ i, c ≤ i → i < n → vf (F i).1 c = 0) ∧ RetG2 5 w 0 0 [] 19 e w'
theorem unit_row {n i : Nat} (hi : i < n) : vf (rowF n (unitC n n) i) = Gf.unit i := by
  funext j
  show vf (rowF n (unitC n n) i) j = Gf.unit i j
  unfold vf
  rw [List.getD_eq_getElem?_getD]
  by_cases hj : j < n
  · unfold rowF
    rw [List.getElem?_take, if_pos hj, List.getElem?_drop, unitC_at n n (Nat.le_refl _) i j hi hj]
    show (if i = j ∧ i < n then (1 : UInt8) else 0) = if i = j then 1 else 0
    by_cases hij : i = j
    · rw [if_pos ⟨hij, hi⟩, if_pos hij]
    · rw [if_neg (fun h => hij h.1), if_neg hij]
  · rw [List.getElem?_eq_none (by rw [rowF_len2 (unitC_len n n) hi]; omega)]
    show (0 : UInt8) = if i = j then 1 else 0
    rw [if_neg (by omega)]
theorem fill_init (n : Nat) (cells : List UInt8) (hl : cells.length = n * n) : GJ n (sqR n cells) (fillF n cells n) 0 := by
  refine GJ.init (by simp [sqR]) (fun i hi => ?_) (fun i hi => ?_) (fun i hi => ?_)
  · unfold fillF; rw [if_pos hi]
    exact ⟨rowF_len2 hl hi, rowF_len2 (unitC_len n n) hi⟩
  · unfold fillF sqR; rw [if_pos hi, List.getElem?_map, List.getElem?_range hi]; rfl
  · unfold fillF; rw [if_pos hi]; exact unit_row hi
theorem heap_of_owns2 {w : World} {base E g n : Nat} {L : List Value} (h : w.ownsRow base E 2 (.slice (some ⟨g, 0, none⟩) n n) n L) : w.heap[g]? = some (.cells L.toArray E (0, 0)) := by
  rcases h.2 with ⟨h1, _⟩ | ⟨g', cap, cur, hv, _, hh, _, _, hs, ht⟩
  · cases h1
  · cases hv
    rw [hh]
    have : cur = L.toArray := by
      rw [← ht, List.take_of_length_le (by simp [hs])]
    rw [this]
theorem RMem.make {w : World} {g n : Nat} {cells : List UInt8} (h : w.heap[g]? = some (.cells (madeCells #[.slice none 0 0, .slice none 0 0] (n * 2)) 63 (0, 0))) : RMem w g 63 n (fillF n cells 0) := by
  refine ⟨_, h, by simp [madeCells], fun i hi => ⟨.slice none 0 0, .slice none 0 0, ?_, ?_, none, 0, 0, none, 0, 0, rfl, rfl, ?_, ?_, (fun a ha => by cases ha), (fun a ha => by cases ha)⟩⟩
  · have h1 : i * 2 < n * 2 := by omega
    simp [madeCells, h1, Nat.mul_mod_left]
  · have h1 : i * 2 + 1 < n * 2 := by omega
    simp [madeCells, h1, Nat.mul_add_mod]
  · exact Sl.nil0 _ _
  · exact Sl.nil0 _ _
/-- so many rows of the result are put -/
def putC (k : Nat) (F : Nat → List UInt8) (j : Nat) : List UInt8 := ((List.range j).map F).flatten ++ List.replicate ((k - j) * k) 0
theorem put_flat {k : Nat} {F : Nat → List UInt8} (h : ∀ i, i < k → (F i).length = k) : ∀ j, j ≤ k → (((List.range j).map F).flatten).length = j * k
  | 0, _ => by simp
  | j + 1, hj => by
    rw [List.range_succ, List.map_append, List.flatten_append, List.length_append, put_flat h j (by omega), Nat.add_mul]
    simp [h j (by omega)]
theorem putC_step {k j : Nat} {F : Nat → List UInt8} (h : ∀ i, i < k → (F i).length = k) (hj : j < k) : (putC k F j).take (j * k) ++ (F j ++ (putC k F j).drop (j * k + k)) = putC k F (j + 1) := by
  have hl := put_flat h j (by omega)
  unfold putC
  rw [← hl, List.take_left, ← List.drop_drop, List.drop_left, List.drop_replicate]
  rw [List.range_succ, List.map_append, List.flatten_append]
  simp only [List.map_cons, List.map_nil, List.flatten_cons, List.flatten_nil, List.append_nil, List.append_assoc]
  congr 3
  have : (k - j) * k = (k - (j + 1)) * k + k := by rw [← Nat.succ_mul]; congr 1; omega
  omega
theorem putC_zero (k : Nat) (F : Nat → List UInt8) : putC k F 0 = List.replicate (k * k) 0 := by simp [putC]
theorem putC_full (k : Nat) (F : Nat → List UInt8) : putC k F k = ((List.range k).map F).flatten := by simp [putC]
theorem wp_copy_row {P : Program} {w : World} {o : Oper} {a : Act} {K : Act → World → Prop} {Q : Exit → Act → World → Prop} (d s : Operand) (dT sT : TypeId)
    (ho : o.op = .call { callee := .builtin .copy, args := #[d, s], argTypes := #[dT, sT] }) (elem : TypeId) (hu : P.underlying dT = some (.slice elem)) (hsz : (P.info? elem).map (·.size) = some 1)
    (g off dLen dCap : Nat) (ad : Addr) (sLen sCap : Nat) (hd : a.eval d = .slice (some ⟨g, off, none⟩) dLen dCap) (hs : a.eval s = .slice (some ad) sLen sCap)
    (cur : Array Value) (t : TypeId) (hg : w.heap[g]? = some (.cells cur t (0, 0))) (cs : List Value) (hn : cs.length = Nat.min sLen dLen)
    (hsrc : ∀ j v, cs[j]? = some v → w.cell? (ad.add j) = some v) (hfit : off + cs.length ≤ cur.size) (h1 : ∀ v ∈ cs, v.oneCell' = true)
    (h : K (a.put o.dst (goInt cs.length)) (w.setRow g (cur.toList.take off ++ (cs ++ cur.toList.drop (off + cs.length))).toArray)) : o.wp P a w K Q := by
  have hrun := run_copy_row (P := P) w dT sT o.type elem g off dLen dCap ad sLen sCap cur t cs hu hsz hg hn hsrc hfit h1
  unfold Oper.wp
  simp [execOp, ho, resolve, invoke, builtin, hd, hs, hrun, Result.andThen]
  exact h
/-- a row of a grid: where it lies -/
def shpAt (g o m : Nat) : Shp := ⟨fun v _ => ∃ c, v = .slice (some ⟨g, o, none⟩) m c, fun _ _ _ h _ => h⟩
/-- the rows from c on -/
def tailF (F : Nat → Rw) (c n : Nat) : List Rw := (List.range (n - c)).map fun j => F (c + j)
theorem tailF_at (F : Nat → Rw) {c n j : Nat} (h : j < n - c) : (tailF F c n)[j]? = some (F (c + j)) := by
  unfold tailF; rw [List.getElem?_map, List.getElem?_range h]; rfl
theorem RMem.tail {w : World} {g T n c : Nat} {F : Nat → Rw} (h : RMem w g T n F) (hn : n ≤ maxLen) : RwS w (some ⟨g, c * 2, none⟩) (n - c) (n - c) (tailF F c n) := by
  obtain ⟨cs, h1, h2, h3⟩ := h
  refine ⟨by simp [tailF], Nat.le_refl _, by omega, (fun e => by cases e), fun j k hj => ?_⟩
  have hjl := (List.getElem?_eq_some_iff.1 hj).1
  simp [tailF] at hjl
  rw [tailF_at F hjl] at hj
  cases hj
  obtain ⟨u, v, e1, e2, q1, m1, c1, q2, m2, c2, rfl, rfl, a, b, -, -⟩ := h3 (c + j) (by omega)
  refine ⟨g, c * 2, q1, m1, c1, q2, m2, c2, rfl, ?_, ?_, a, b⟩
  · rw [cell_of_row _ _ _ _ _ _ h1, ← e1]; congr 1; omega
  · rw [cell_of_row _ _ _ _ _ _ h1, ← e2]; congr 1; omega
theorem idx_cases (F : Nat → Rw) (c n : Nat) (hc : c ≤ n) (f : Rw → Bool) : (idxf f (tailF F c n) = -1 ∧ ∀ i, c ≤ i → i < n → f (F i) = false) ∨ ∃ j : Nat, idxf f (tailF F c n) = j ∧ c + j < n ∧ f (F (c + j)) = true := by
  unfold idxf
  cases h : (tailF F c n).findIdx? f with
  | none =>
    refine .inl ⟨rfl, fun i h1 h2 => ?_⟩
    have := List.findIdx?_eq_none_iff.1 h (F i) (List.mem_of_getElem? (i := i - c) (by rw [tailF_at F (by omega)]; congr 2; omega))
    exact this
  | some j =>
    refine .inr ⟨j, rfl, ?_⟩
    obtain ⟨h1, h2, -⟩ := List.findIdx?_eq_some_iff_getElem.1 h
    have h3 : j < n - c := by simpa [tailF] using h1
    refine ⟨by omega, ?_⟩
    have h4 := List.getElem?_eq_getElem h1
    rw [tailF_at F h3] at h4
    injection h4 with h4
    rw [h4]; exact h2
end Go.Proofs.YtbfmdfbnhakolaaDoor
