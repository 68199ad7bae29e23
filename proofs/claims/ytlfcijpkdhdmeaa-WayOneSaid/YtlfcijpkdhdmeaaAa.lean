/- One cell of a parcel is written: its bytes, or where it came from. -/
import Derived.Test.YtlfcijpkdhdmeaaA7
namespace Go.Proofs.Ytlfcijpkdhdmeaa
open Go.RowKit Go.By
theorem set_get {α : Type} {ts : List α} {i : Nat} {t : α} (h : ts[i]? = some t) : ts.set i t = ts := by
  apply List.ext_getElem?
  intro j
  rw [List.getElem?_set]
  split
  · rename_i e; subst e
    have := (List.getElem?_eq_some_iff.1 h).1
    rw [if_pos this, h]
  · rfl
theorem par_lt {w : World} {base n i : Nat} {v : Value} {ts : List Par} {t : Par} (h : PL w base v n ts) (ht : ts[i]? = some t) : i < n := by
  have := (List.getElem?_eq_some_iff.1 ht).1; rw [h.len] at this; exact this
/-- where it came from is written -/
theorem Pl.from_set {w : World} {base n c g i : Nat} {ts : List Par} {t : Par} (h : PL w base (.slice (some ⟨g, 0, none⟩) n c) n ts) (ht : ts[i]? = some t) (k : Int) :
    PL (w.setCell ⟨g, i * 2 + 1, none⟩ (.int .i64 k)) base (.slice (some ⟨g, 0, none⟩) n c) n (ts.set i (t.1, k, t.2.2)) := by
  have hi := par_lt h ht
  have hil : i < ts.length := by rw [h.len]; exact hi
  have hg := grownBy_setCell w g (i * 2 + 1) (.int .i64 k)
  refine ⟨by rw [List.length_set, h.len], ?_, fun s hs => ?_, ?_⟩
  · have := (h.own.stored (i * 2 + 1) (.int .i64 k)).1
    rw [List.map_set, pcs_set _ _ _ (by rw [List.length_map]; exact hil)]
    have hp := pcs_at (us := ts.map parOf) (i := i) (u := parOf t) (by rw [List.getElem?_map, ht]; rfl)
    have e : (pcs (ts.map parOf)).set (i * 2) t.1 = pcs (ts.map parOf) := set_get hp.1
    show World.ownsRow _ _ _ _ _ _ (((pcs (ts.map parOf)).set (i * 2) t.1).set (i * 2 + 1) _)
    rw [e]; exact this
  · rcases List.mem_or_eq_of_mem_set hs with hs | rfl
    · exact (h.row s hs).grown ne_types h.own hg
    · exact (h.row t (List.mem_of_getElem? ht)).grown ne_types h.own hg
  · have e : blks (ts.set i (t.1, k, t.2.2)) = blks ts := by
      have h1 : (ts.set i (t.1, k, t.2.2)).map (·.1) = ts.map (·.1) := by
        rw [List.map_set]; exact set_get (by rw [List.getElem?_map, ht]; rfl)
      have h2 : ∀ ss : List Par, blks ss = (ss.map (·.1)).filterMap (·.ownBlock) := fun ss => by simp [blks, List.filterMap_map]; rfl
      rw [h2, h2, h1]
    rw [e]; exact h.dis
/-- a byte of it is written -/
theorem Pl.byte_set {w : World} {base n i gb m c k : Nat} {v : Value} {ts : List Par} {f : Int} {xs : List UInt8} (h : PL w base v n ts) (ht : ts[i]? = some (.slice (some ⟨gb, 0, none⟩) m c, f, xs)) (y : UInt8) :
    PL (w.setCell ⟨gb, k, none⟩ (B8 y)) base v n (ts.set i (.slice (some ⟨gb, 0, none⟩) m c, f, xs.set k y)) := by
  have hi := par_lt h ht
  have hil : i < ts.length := by rw [h.len]; exact hi
  have hg := grownBy_setCell w gb k (B8 y)
  obtain ⟨q', m', c', e1, hrow⟩ := h.row _ (List.mem_of_getElem? ht)
  simp only at e1 hrow
  obtain ⟨rfl, rfl, rfl⟩ : some ⟨gb, 0, none⟩ = q' ∧ m = m' ∧ c = c' := by simpa using e1
  have hne : ∀ kk, v.ownBlock = some kk → some kk ≠ some gb := fun kk hk => owns_ne h.own hrow (fun e => ne_types e.symm) kk hk
  refine ⟨by rw [List.length_set, h.len], ?_, fun s hs => ?_, ?_⟩
  · rw [List.map_set]
    have e : (ts.map parOf).set i (parOf (.slice (some ⟨gb, 0, none⟩) m c, f, xs.set k y)) = ts.map parOf := set_get (by rw [List.getElem?_map, ht]; rfl)
    rw [e]; exact owns_kept h.own hg hne
  · obtain ⟨j, hj, e⟩ := List.getElem_of_mem hs
    rw [List.getElem_set] at e
    split at e
    · subst e
      have := (hrow.stored k (B8 y)).1
      rw [← List.map_set] at this
      exact ⟨_, _, _, rfl, this⟩
    · rename_i hij
      have hjl : j < ts.length := by rw [List.length_set] at hj; exact hj
      have hs' : s ∈ ts := by rw [← e]; exact List.getElem_mem hjl
      obtain ⟨q2, m2, c2, e2, hrow2⟩ := h.row s hs'
      refine ⟨q2, m2, c2, e2, owns_kept hrow2 hg (fun kk hk e3 => ?_)⟩
      have hd := h.dis
      unfold blks at hd
      rw [List.Nodup, List.pairwise_filterMap, List.pairwise_iff_getElem] at hd
      have ei : ts[i] = (.slice (some ⟨gb, 0, none⟩) m c, f, xs) := Option.some.inj ((List.getElem?_eq_getElem hil).symm.trans ht)
      have b1 : (ts[i]).1.ownBlock = some gb := by rw [ei]; rfl
      have b2 : (ts[j]).1.ownBlock = some gb := by rw [e, e2, hk]; exact e3
      rcases Nat.lt_or_ge i j with hlt | hge
      · exact hd i j hil hjl hlt gb b1 gb b2 rfl
      · exact hd j i hjl hil (by omega) gb b2 gb b1 rfl
  · have e : blks (ts.set i (.slice (some ⟨gb, 0, none⟩) m c, f, xs.set k y)) = blks ts := by
      have h1 : (ts.set i (.slice (some ⟨gb, 0, none⟩) m c, f, xs.set k y)).map (·.1) = ts.map (·.1) := by
        rw [List.map_set]; exact set_get (by rw [List.getElem?_map, ht]; rfl)
      have h2 : ∀ ss : List Par, blks ss = (ss.map (·.1)).filterMap (·.ownBlock) := fun ss => by simp [blks, List.filterMap_map]; rfl
      rw [h2, h2, h1]
    rw [e]; exact h.dis
/-- the byte k of a parcel, with bit o turned -/
def flip (xs : List UInt8) (at' : Nat) : List UInt8 := xs.set (at' / 8) ((xs.getD (at' / 8) 0) ^^^ UInt8.ofNat (2 ^ (at' % 8)))
/-- behind so many bits: the bytes, and whether any was turned -/
def maskF (b j : Nat) (xs : List UInt8) : Nat → List UInt8 × Bool
  | 0 => (xs, false)
  | k + 1 => if b.testBit k = true ∧ (j + k) / 8 < xs.length then (flip (maskF b j xs k).1 (j + k), true) else maskF b j xs k
theorem maskF_len (b j : Nat) (xs : List UInt8) : ∀ k, (maskF b j xs k).1.length = xs.length
  | 0 => rfl
  | k + 1 => by
    unfold maskF
    split
    · simp [flip, maskF_len b j xs k]
    · exact maskF_len b j xs k
end Go.Proofs.Ytlfcijpkdhdmeaa
