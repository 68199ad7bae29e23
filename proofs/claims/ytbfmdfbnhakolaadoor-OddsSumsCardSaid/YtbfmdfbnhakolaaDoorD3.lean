/- Arrays of numbers in memory. -/
import Derived.Test.YtbfmdfbnhakolaaDoorD2
namespace Go.By
open Go.RowKit
/-- an array of numbers: block g, m of them -/
def NArr (T U : TypeId) (w : World) (g m : Nat) (F : Nat → Nat) : Prop := ∃ vs : List Value, w.heap[g]? = some (.cells vs.toArray T (0, 0)) ∧ vs.length = m ∧ ∀ i, i < m → ∃ q n c, vs[i]? = some (.slice q n c) ∧ Ws U w q n c (F i)
theorem NArr.keep {T U : TypeId} {w w' : World} {g m : Nat} {F : Nat → Nat} (h : NArr T U w g m F) (hb : Below w.heap.size w w') : NArr T U w' g m F := by
  obtain ⟨vs, hh, hl, hv⟩ := h
  exact ⟨vs, (hb.block _ (blk_lt hh)).trans hh, hl, fun i hi => by
    obtain ⟨q, n, c, e, hw⟩ := hv i hi
    exact ⟨q, n, c, e, hw.keep hb⟩⟩
theorem NArr.congr {T U : TypeId} {w : World} {g m : Nat} {F G : Nat → Nat} (h : NArr T U w g m F) (e : ∀ i, i < m → F i = G i) : NArr T U w g m G := by
  obtain ⟨vs, hh, hl, hv⟩ := h
  exact ⟨vs, hh, hl, fun i hi => by
    obtain ⟨q, n, c, e2, hw⟩ := hv i hi
    exact ⟨q, n, c, e2, by rw [← e i hi]; exact hw⟩⟩
/-- what is read at a place -/
theorem NArr.at {T U : TypeId} {w : World} {g m : Nat} {F : Nat → Nat} (h : NArr T U w g m F) {i : Nat} (hi : i < m) : ∃ q n c, w.cell? ⟨g, i, none⟩ = some (.slice q n c) ∧ w.frozen? ⟨g, i, none⟩ = false ∧ Ws U w q n c (F i) := by
  obtain ⟨vs, hh, hl, hv⟩ := h
  obtain ⟨q, n, c, e, hw⟩ := hv i hi
  refine ⟨q, n, c, ?_, frozen_of_row _ _ _ _ _ hh, hw⟩
  rw [cell_of_row _ _ i _ _ _ hh]
  simpa using e
theorem NArr.set {T U : TypeId} {w : World} {g m j N : Nat} {F G : Nat → Nat} {q : Option Addr} {n c : Nat} (h : NArr T U w g m F) (hne : T ≠ U) (hw : Ws U w q n c N) (hj : j < m) (hG : G j = N) (e : ∀ i, i < m → i ≠ j → G i = F i) : NArr T U (w.setCell ⟨g, j, none⟩ (.slice q n c)) g m G := by
  obtain ⟨vs, hh, hl, hv⟩ := h
  refine ⟨vs.set j (.slice q n c), ?_, by rw [List.length_set]; exact hl, fun i hi => ?_⟩
  · rw [hss hh, List.setIfInBounds_toArray]
  · by_cases hij : i = j
    · subst hij
      exact ⟨q, n, c, by rw [List.getElem?_set_self (by omega)], by rw [hG]; exact hw.set hh hne⟩
    · obtain ⟨q1, n1, c1, e1, h1⟩ := hv i hi
      exact ⟨q1, n1, c1, by rw [List.getElem?_set_ne (fun e => hij e.symm)]; exact e1, by rw [e i hi hij]; exact h1.set hh hne⟩
theorem NArr.blk {T U : TypeId} {w : World} {g m : Nat} {F : Nat → Nat} (h : NArr T U w g m F) : ∃ cs : Array Value, w.heap[g]? = some (.cells cs T (0, 0)) := by
  obtain ⟨vs, hh, _⟩ := h; exact ⟨_, hh⟩
/-- another array is written -/
theorem NArr.other {T U : TypeId} {w : World} {g g2 i m : Nat} {F : Nat → Nat} {v : Value} {cs : Array Value} (h : NArr T U w g m F) (k2 : w.heap[g2]? = some (.cells cs T (0, 0))) (hb : g ≠ g2) (hne : T ≠ U) : NArr T U (w.setCell ⟨g2, i, none⟩ v) g m F := by
  obtain ⟨vs, hh, hl, hv⟩ := h
  exact ⟨vs, hsc hh hb, hl, fun j hj => by
    obtain ⟨q, n, c, e, hw⟩ := hv j hj
    exact ⟨q, n, c, e, hw.set k2 hne⟩⟩
theorem heap_owns1 {w : World} {base E g n : Nat} {L : List Value} (h : w.ownsRow base E 1 (.slice (some ⟨g, 0, none⟩) n n) n L) (hn : 0 < n) : w.heap[g]? = some (.cells L.toArray E (0, 0)) := by
  have hl := owns_len h
  rcases h.2 with ⟨e, _⟩ | ⟨g', cap, cur, e1, _, hh, _, _, hs, hc⟩
  · cases e
  · cases e1
    rw [hh]
    have : cur = L.toArray := by
      apply Array.ext
      · simp [hs, hl]
      · intro i h1 h2
        have h3 : i < L.length := by simpa using h2
        have hcell := h.cellAt i (by rw [← hl]; omega)
        rw [cell_of_row _ _ i _ _ _ hh, Array.getElem?_eq_getElem h1, List.getElem?_eq_getElem h3] at hcell
        simpa using hcell
    rw [this]
theorem NArr.made {T U : TypeId} {w : World} {base g m : Nat} (h : w.ownsRow base T 1 (.slice (some ⟨g, 0, none⟩) m m) m (madeCells #[Value.slice none 0 0] m).toList) (hm : 0 < m) : NArr T U w g m (fun _ => 0) := by
  refine ⟨_, heap_owns1 h hm, by simp [madeCells], fun i hi => ⟨none, 0, 0, ?_, Ws.zero _ _⟩⟩
  rw [toList_madeCells_one, List.getElem?_replicate_of_lt hi]
end Go.By
namespace Go.Proofs.YtbfmdfbnhakolaaDoor
open Go.RowKit Go.By
theorem info_natz : (Tryd.prog.info? 29).map (fun i => (i.zero, i.size, i.bytes)) = some (some (.agg #[.slice none 0 0]), 1, 24) := by kernel_rfl
end Go.Proofs.YtbfmdfbnhakolaaDoor
