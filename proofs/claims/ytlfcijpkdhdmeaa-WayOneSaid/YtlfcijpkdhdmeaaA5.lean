/- Lists of parcels that the call owns: each owns its bytes, no two share them. -/
import Derived.Test.YtlfcijpkdhdmeaaA1
namespace Go.By
open Go.RowKit
/-- a slice value that owns bytes -/
def Bt (T1 : Nat) (w : World) (base : Nat) (v : Value) (xs : List UInt8) : Prop := ∃ q m c, v = .slice q m c ∧ w.ownsRow base T1 1 (.slice q m c) m (xs.map B8)
/-- a parcel in memory: its slice, where it came from, its bytes -/
abbrev Par := Value × Int × List UInt8
def parOf (t : Par) : Value × Int := (t.1, t.2.1)
def parIs (t : Par) : List UInt8 × Int := (t.2.2, t.2.1)
def blks (ts : List Par) : List Nat := ts.filterMap fun t => t.1.ownBlock
structure Pl (TP T1 : Nat) (w : World) (base : Nat) (v : Value) (n : Nat) (ts : List Par) : Prop where
  len : ts.length = n
  own : w.ownsRow base TP 2 v n (pcs (ts.map parOf))
  row : ∀ t, t ∈ ts → Bt T1 w base t.1 t.2.2
  dis : (blks ts).Nodup
section
variable {TP T1 : Nat} {w w' : World} {base n : Nat} {v : Value} {ts : List Par}
theorem Bt.keep {xs : List UInt8} (h : Bt T1 w base v xs) (hb : Below w.heap.size w w') : Bt T1 w' base v xs := by
  obtain ⟨q, m, c, rfl, h⟩ := h; exact ⟨q, m, c, rfl, owns_keep h hb⟩
theorem Bt.one {xs : List UInt8} (h : Bt T1 w base v xs) : v.oneCell' = true := by obtain ⟨q, m, c, rfl, h⟩ := h; rfl
theorem Bt.lt {xs : List UInt8} (h : Bt T1 w base v xs) : ∀ b, v.ownBlock = some b → base ≤ b ∧ b < w.heap.size := by
  obtain ⟨q, m, c, rfl, h⟩ := h; exact h.lt
/-- what is written into the array of parcels leaves the bytes -/
theorem Bt.grown {xs : List UInt8} {u : Value} {L : List Value} {m : Nat} (h : Bt T1 w base v xs) (hT : T1 ≠ TP) (ho : w.ownsRow base TP 2 u m L) (hg : w.grownBy w' u.ownBlock) : Bt T1 w' base v xs := by
  obtain ⟨q, m, c, rfl, h⟩ := h; exact ⟨q, m, c, rfl, owns_kept h hg (owns_ne h ho hT)⟩
theorem Pl.keep (h : Pl TP T1 w base v n ts) (hb : Below w.heap.size w w') : Pl TP T1 w' base v n ts :=
  ⟨h.len, owns_keepv h.own hb, fun t ht => (h.row t ht).keep hb, h.dis⟩
theorem Pl.ones (h : Pl TP T1 w base v n ts) : ∀ u, u ∈ ts.map parOf → u.1.oneCell' = true := by
  intro u hu
  obtain ⟨t, ht, rfl⟩ := List.mem_map.1 hu
  exact (h.row t ht).one
theorem blks_append (a b : List Par) : blks (a ++ b) = blks a ++ blks b := by simp [blks]
theorem blks_sub {a b : List Par} (h : a.Sublist b) : (blks a).Sublist (blks b) := h.filterMap _
theorem Pl.blt (h : Pl TP T1 w base v n ts) : ∀ b, b ∈ blks ts → base ≤ b ∧ b < w.heap.size := by
  intro b hb
  obtain ⟨t, ht, e⟩ := List.mem_filterMap.1 hb
  exact (h.row t ht).lt b e
/-- another order, or fewer, of the same parcels -/
theorem Pl.turn {u : Value} {m : Nat} {ss : List Par} (h : Pl TP T1 w base v n ts) (hT : T1 ≠ TP) (hm : ∀ t, t ∈ ss → t ∈ ts) (hd : (blks ss).Nodup) (hl : ss.length = m) (ho : w'.ownsRow base TP 2 u m (pcs (ss.map parOf))) (hg : w.grownBy w' v.ownBlock) : Pl TP T1 w' base u m ss :=
  ⟨hl, ho, fun t ht => (h.row t (hm t ht)).grown hT h.own hg, hd⟩
/-- one more, with bytes of its own in new memory; 'w1' is the world in which the clone is made, 'w2' behind it -/
theorem Pl.push {w1 w2 : World} {u x : Value} {k : Int} {xs : List UInt8} (h : Pl TP T1 w1 base v n ts) (hT : T1 ≠ TP) (hx : Bt T1 w2 w1.heap.size x xs) (hbase : base ≤ w1.heap.size) (hb : Below w1.heap.size w1 w2) (ho : w'.ownsRow base TP 2 u (n + 1) (pcs (ts.map parOf) ++ [x, .int .i64 k])) (hg : w2.grownBy w' v.ownBlock) :
    Pl TP T1 w' base u (n + 1) (ts ++ [(x, k, xs)]) := by
  have h2 := h.keep hb
  have hx2 : Bt T1 w2 base x xs := by obtain ⟨q, m, c, rfl, h⟩ := hx; exact ⟨q, m, c, rfl, owns_mono h hbase⟩
  refine ⟨by simp [h.len], ?_, fun t ht => ?_, ?_⟩
  · rw [List.map_append, pcs_append]; exact ho
  · rcases List.mem_append.1 ht with ht | ht
    · exact (h2.row t ht).grown hT h2.own hg
    · simp at ht; subst ht; exact hx2.grown hT h2.own hg
  · rw [blks_append, List.nodup_append]
    refine ⟨h.dis, ?_, ?_⟩
    · cases hb : x.ownBlock <;> simp [blks, hb]
    · intro a ha b hb' e
      subst e
      obtain ⟨t, ht, e⟩ := List.mem_filterMap.1 hb'
      simp at ht; subst ht
      have := (hx.lt a e).1
      have := (h.blt a ha).2
      omega
/-- one is put in another's place, with bytes of its own in new memory -/
theorem Pl.swap {w1 w2 : World} {x : Value} {k : Int} {xs : List UInt8} {i : Nat} (h : Pl TP T1 w1 base v n ts) (hi : i < n) (hT : T1 ≠ TP) (hx : Bt T1 w2 w1.heap.size x xs) (hbase : base ≤ w1.heap.size) (hb : Below w1.heap.size w1 w2) (ho : w'.ownsRow base TP 2 v n (pcs ((ts.map parOf).set i (x, k)))) (hg : w2.grownBy w' v.ownBlock) :
    Pl TP T1 w' base v n (ts.set i (x, k, xs)) := by
  have h2 := h.keep hb
  have hx2 : Bt T1 w2 base x xs := by obtain ⟨q, m, c, rfl, h⟩ := hx; exact ⟨q, m, c, rfl, owns_mono h hbase⟩
  have hil : i < ts.length := by rw [h.len]; exact hi
  refine ⟨by simp [h.len], ?_, fun t ht => ?_, ?_⟩
  · rw [List.map_set]; exact ho
  · rcases List.mem_or_eq_of_mem_set ht with ht | rfl
    · exact (h2.row t ht).grown hT h2.own hg
    · exact hx2.grown hT h2.own hg
  · have hd := h.dis
    rw [← List.take_append_drop i ts, List.drop_eq_getElem_cons hil, blks_append] at hd
    rw [List.set_eq_take_append_cons_drop, if_pos hil, blks_append]
    have e1 : blks (ts[i] :: ts.drop (i + 1)) = blks [ts[i]] ++ blks (ts.drop (i + 1)) := blks_append [ts[i]] _
    have e2 : blks ((x, k, xs) :: ts.drop (i + 1)) = blks [(x, k, xs)] ++ blks (ts.drop (i + 1)) := blks_append [(x, k, xs)] _
    rw [e1] at hd
    rw [e2]
    have hnew : ∀ a, a ∈ blks [(x, k, xs)] → ∀ b, b ∈ blks ts → a ≠ b := by
      intro a ha b hb' e
      subst e
      obtain ⟨t, ht, e⟩ := List.mem_filterMap.1 ha
      simp at ht; subst ht
      have := (hx.lt a e).1
      have := (h.blt a hb').2
      omega
    have hone : (blks [(x, k, xs)]).Nodup := by cases hb : x.ownBlock <;> simp [blks, hb]
    simp only [List.nodup_append] at hd ⊢
    obtain ⟨d1, ⟨d2, d3, d4⟩, d5⟩ := hd
    have s1 : ∀ a, a ∈ blks (ts.take i) → a ∈ blks ts := fun a ha => (blks_sub (List.take_sublist i ts)).subset ha
    have s2 : ∀ a, a ∈ blks (ts.drop (i + 1)) → a ∈ blks ts := fun a ha => (blks_sub (List.drop_sublist (i + 1) ts)).subset ha
    refine ⟨d1, ⟨hone, d3, fun a ha b hb' => hnew a ha b (s2 b hb')⟩, fun a ha b hb' => ?_⟩
    rcases List.mem_append.1 hb' with hb' | hb'
    · exact fun e => hnew b hb' a (s1 a ha) e.symm
    · exact d5 a ha b (List.mem_append_right _ hb')
end
theorem Sl.take_c {α : Type} {enc : α → Value} {w : World} {p : Option Addr} {n c k : Nat} {xs : List α} (h : Sl enc w p n c xs) (hk : k ≤ n) : Sl enc w p k c (xs.take k) := by
  refine ⟨by rw [List.length_take, h.len]; omega, by have := h.le; omega, h.max, fun e => ?_, ?_⟩
  · have := h.nil e; omega
  · intro i hi
    have hi' : i < xs.length := by rw [List.length_take] at hi; omega
    obtain ⟨b, o, hp, hc⟩ := h.rs i hi'
    exact ⟨b, o, hp, by rw [hc]; simp⟩
end Go.By
