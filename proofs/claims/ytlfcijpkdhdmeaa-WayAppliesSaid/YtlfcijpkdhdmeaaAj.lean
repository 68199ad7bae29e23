/- The contracts of the reference's without and put of layer 20. -/
import Derived.Test.YtlfcijpkdhdmeaaAh
namespace Go.Proofs.Ytlfcijpkdhdmeaa
open Go.RowKit Go.By
abbrev I64 : Int → Value := Value.int .i64
theorem dropAt_take_succ {α : Type} {xs : List α} {k i : Nat} {x : α} (h : xs[k]? = some x) (hne : k ≠ i) : dropAt (xs.take (k + 1)) i = dropAt (xs.take k) i ++ [x] := by
  obtain ⟨hk, e⟩ := List.getElem?_eq_some_iff.1 h
  unfold dropAt
  rw [List.take_succ_eq_append_getElem hk, e]
  rcases Nat.lt_or_ge k i with hlt | hge
  · rw [List.take_of_length_le (show (xs.take k ++ [x]).length ≤ i by simp; omega), List.drop_eq_nil_of_le (show (xs.take k ++ [x]).length ≤ i + 1 by simp; omega), List.take_of_length_le (show (xs.take k).length ≤ i by simp; omega), List.drop_eq_nil_of_le (show (xs.take k).length ≤ i + 1 by simp; omega)]
    simp
  · rw [List.take_append_of_le_length (by simp; omega), List.drop_append_of_le_length (by simp; omega), List.append_assoc]
theorem dropAt_take_at {α : Type} {xs : List α} {i : Nat} (h : i < xs.length) : dropAt (xs.take (i + 1)) i = dropAt (xs.take i) i := by
  unfold dropAt
  rw [List.take_take, List.take_take, List.drop_eq_nil_of_le (by rw [List.length_take]; omega), List.drop_eq_nil_of_le (by rw [List.length_take]; omega)]
  simp
theorem dropAt_nil {α : Type} (i : Nat) : dropAt ([] : List α) i = [] := by simp [dropAt]
/-- two lists in new memory: of slices, and of ints -/
def RetT (w : World) (vs : List Value) (ks : List Int) (e : Ending) (w' : World) : Prop :=
  ∃ q1 c1 q2 c2, e = .returned (.tuple #[.slice q1 vs.length c1, .slice q2 ks.length c2]) ∧ w'.ownsRow w.heap.size 28 1 (.slice q1 vs.length c1) vs.length vs ∧ w'.ownsRow w.heap.size 3 1 (.slice q2 ks.length c2) ks.length (ks.map I64) ∧ Below w.heap.size w w'
theorem push1 {w w' : World} {base n : Nat} {u v : Value} {vs : List Value} (h : w.ownsRow base 3 1 u n vs) (hg : w.grownBy w' v.ownBlock) {m : Nat} {L : List Value} (ho : w.ownsRow base 28 1 v m L) : w'.ownsRow base 3 1 u n vs :=
  owns_kept h hg (owns_ne h ho (by decide))
theorem push2 {w w' : World} {base n : Nat} {u v : Value} {vs : List Value} (h : w.ownsRow base 28 1 u n vs) (hg : w.grownBy w' v.ownBlock) {m : Nat} {L : List Value} (ho : w.ownsRow base 3 1 v m L) : w'.ownsRow base 28 1 u n vs :=
  owns_kept h hg (owns_ne h ho (by decide))
theorem one_cell {w : World} {v : Value} {T g : Nat} (hg : g = w.heap.size) : ∀ (j : Nat) (u : Value), [v][j]? = some u → (w.alloc (.cells #[v] T)).cell? ((⟨g, 0, none⟩ : Addr).add j) = some u := by
  intro j u hj
  rw [Addr.add_lit, Nat.zero_add, cell_of_row _ _ j _ _ _ (hnew hg)]
  match j with
  | 0 => simpa using hj
  | j + 1 => simp at hj
set_option maxRecDepth 100000 in
set_option maxHeartbeats 4000000 in
theorem without_any (p1 p2 : Option Addr) (n c1 c2 i : Nat) (vs : List Value) (ks : List Int) (w : World) (h1 : Sl id w p1 n c1 vs) (h2 : Sl I64 w p2 n c2 ks) (hv : ∀ v, v ∈ vs → ∃ q m c, v = .slice q m c) (hn : n < 5000) (hi : i < n) :
    Calls Try.prog 33 #[.slice p1 n c1, .slice p2 n c2, .int .i64 i] w (RetT w (dropAt vs i) (dropAt ks i)) := by
  obtain ⟨r0, hr0, hrz, hr1, hr2⟩ := info_parts info_rows
  obtain ⟨t0, ht0, htz, ht1, ht2⟩ := info_parts info_int
  have H1 := Lib.hid h1; have H2 := Lib.hid h2; have HV := Lib.hid hv
  have b1 := h1.bound; have b2 := h2.bound
  clear h1 h2 hv
  go_enter Try.func33, Try.ntmps33
  go_wp2
  go_loopw [8, 9, 13] (fun a b i' wr => ∃ (k m : Nat) (q1 q2 : Option Addr) (d1 d2 : Nat), k ≤ n ∧ i' = .int .i64 k ∧ m ≤ k ∧ a = .slice q1 m d1 ∧ b = .slice q2 m d2 ∧ Hid (m = (dropAt (vs.take k) i).length ∧ m = (dropAt (ks.take k) i).length) ∧
    Hid (wr.ownsRow w.heap.size 28 1 (.slice q1 m d1) m (dropAt (vs.take k) i)) ∧ Hid (wr.ownsRow w.heap.size 3 1 (.slice q2 m d2) m ((dropAt (ks.take k) i).map I64)) ∧ Hid (Below w.heap.size w wr)) (fun _ _ i' _ => n - (intOf i').toNat)
  case atStart => exact ⟨0, 0, none, none, 0, 0, Nat.zero_le _, rfl, Nat.le_refl _, rfl, rfl, by rw [List.take_zero, List.take_zero, dropAt_nil, dropAt_nil]; exact ⟨rfl, rfl⟩, by rw [List.take_zero, dropAt_nil]; exact World.ownsRow_nil _ _ _ _, by rw [List.take_zero, dropAt_nil]; exact World.ownsRow_nil _ _ _ _, Below.refl _ _⟩
  case round =>
    obtain ⟨k, m, q1, q2, d1, d2, hk, rfl, hmk, rfl, rfl, hL, hO1, hO2, hB⟩ := hrel
    by_cases hlt : k < n
    · obtain ⟨b, o, v, rfl, hc, hx⟩ := H1.out.at k hlt
      obtain ⟨b', o', y, rfl, hc', hy⟩ := H2.out.at k hlt
      have hcw := (hB.out.cell (p := ⟨b, o + k, none⟩) (lt_of_cell hc)).trans hc
      have hcw' := (hB.out.cell (p := ⟨b', o' + k, none⟩) (lt_of_cell hc')).trans hc'
      have i1 : (k : Int) < (n : Int) := by omega
      have hsz := hB.out.size
      obtain ⟨qv, mv, cv, rfl⟩ := HV.out v (List.mem_of_getElem? hx.out)
      simp only [id] at hcw
      clear hc hc'
      by_cases hki : k = i
      · have hb : ((k : Int) != (i : Int)) = false := by simp; omega
        have e1 : Hid (dropAt (vs.take (k + 1)) i = dropAt (vs.take k) i) := by subst hki; exact dropAt_take_at (by rw [H1.out.len]; exact hlt)
        have e2 : Hid (dropAt (ks.take (k + 1)) i = dropAt (ks.take k) i) := by subst hki; exact dropAt_take_at (by rw [H2.out.len]; exact hlt)
        clear hki
        go_wp2
        go_roundw
        case rel => exact ⟨k + 1, m, q1, q2, d1, d2, by omega, by go_num, by omega, rfl, rfl, by rw [e1.out, e2.out]; exact hL.out, by rw [e1.out]; exact hO1.out, by rw [e2.out]; exact hO2.out, hB.out⟩
        case measure => simp [intOf]; omega
      · have hb : ((k : Int) != (i : Int)) = true := by simp; omega
        have e1 : Hid (dropAt (vs.take (k + 1)) i = dropAt (vs.take k) i ++ [.slice qv mv cv]) := dropAt_take_succ hx.out hki
        have e2 : Hid (dropAt (ks.take (k + 1)) i = dropAt (ks.take k) i ++ [y]) := dropAt_take_succ hy.out hki
        clear hki
        have hA1 : Hid (∀ o, (wr.alloc o).ownsRow w.heap.size 28 1 (.slice q1 m d1) m (dropAt (vs.take k) i)) := fun o => owns_keep hO1.out (al (Below.refl _ _) (Nat.le_refl _))
        go_wp2_with (at_builtin; refine wpList_append_own _ rfl _ _ 25 rfl w.heap.size 28 r0 (.slice none 0 0) 1 24 Try.underlying25 hr0 hrz hr1 hr2 rfl (by omega) _ m _ rfl (hA1.out _) ⟨wr.heap.size, 0, none⟩ 1 1 [.slice qv mv cv] rfl rfl (one_cell rfl) ?c2 ?c3 ?c4 ?c5 ?_)
        case c2 => intro x hx; simp at hx; subst hx; rfl
        case c3 => unfold maxLen; omega
        case c4 => omega
        case c5 => simp; omega
        intro v' w2 ho2 hg2 _
        obtain ⟨q1', d1', rfl⟩ := owns_shape ho2
        have kw2 : Below w.heap.size w w2 := (al hB.out hsz).grown hg2 (by simp; omega) (fun r hr => (hO1.out.lt r hr).1)
        have ho2' : w2.ownsRow w.heap.size 3 1 (.slice q2 m d2) m ((dropAt (ks.take k) i).map I64) := push1 (owns_keep hO2.out (al (Below.refl _ _) (Nat.le_refl _))) hg2 (hA1.out _)
        have hcw2 : w2.cell? ⟨b', o' + k, none⟩ = some (I64 y) := by
          obtain ⟨b9, o9, y9, e9, hc9, hy9⟩ := H2.out.at k hlt
          cases e9
          have := (kw2.cell (p := ⟨b', o' + k, none⟩) (lt_of_cell hc9)).trans hc9
          rw [this, Option.some.inj (hy9.out.symm.trans hy.out)]
        have HO2 := Lib.hid ho2; have HO2' := Lib.hid ho2'; have KW2 := Lib.hid kw2
        have hs2 := kw2.size
        clear ho2 hg2 ho2' kw2 hcw hcw'
        have hA2 : Hid (∀ o, (w2.alloc o).ownsRow w.heap.size 3 1 (.slice q2 m d2) m ((dropAt (ks.take k) i).map I64)) := fun o => owns_keep HO2'.out (al (Below.refl _ _) (Nat.le_refl _))
        go_wp2_with (at_builtin; refine wpList_append_own _ rfl _ _ 45 rfl w.heap.size 3 t0 (.int .i64 0) 1 8 Try.underlying45 ht0 htz ht1 ht2 rfl (by omega) _ m _ rfl (hA2.out _) ⟨w2.heap.size, 0, none⟩ 1 1 [I64 y] rfl rfl (one_cell rfl) ?c2 ?c3 ?c4 ?c5 ?_)
        case c2 => intro x hx; simp at hx; subst hx; rfl
        case c3 => unfold maxLen; omega
        case c4 => omega
        case c5 => simp; omega
        intro v'' w3 ho3 hg3 _
        obtain ⟨q2', d2', rfl⟩ := owns_shape ho3
        have kw3 : Hid (Below w.heap.size w w3) := (al KW2.out hs2).grown hg3 (by simp; omega) (fun r hr => (HO2'.out.lt r hr).1)
        have ho4 : Hid (w3.ownsRow w.heap.size 28 1 (.slice q1' (m + 1) d1') (m + 1) (dropAt (vs.take k) i ++ [.slice qv mv cv])) := push2 (owns_keep HO2.out (al (Below.refl _ _) (Nat.le_refl _))) hg3 (hA2.out _)
        have HO3 := Lib.hid ho3
        clear ho3 hg3 hcw2
        go_wp2
        go_roundw
        case rel => exact ⟨k + 1, m + 1, q1', q2', d1', d2', by omega, by go_num, by omega, rfl, rfl, by rw [e1.out, e2.out, List.length_append, List.length_append]; have := hL.out; exact ⟨by rw [← this.1]; rfl, by rw [← this.2]; rfl⟩, by rw [e1.out]; exact ho4.out, by rw [e2.out, List.map_append]; exact HO3.out, kw3.out⟩
        case measure => simp [intOf]; omega
    · have hkn : k = n := by omega
      subst hkn
      have e1 : vs.take k = vs := List.take_of_length_le (by rw [H1.out.len]; omega)
      have e2 : ks.take k = ks := List.take_of_length_le (by rw [H2.out.len]; omega)
      rw [e1] at hL hO1; rw [e2] at hL hO2
      have hfin : Hid (RetT w (dropAt vs i) (dropAt ks i) (.returned (.tuple #[.slice q1 m d1, .slice q2 m d2])) wr) :=
        ⟨q1, d1, q2, d2, by rw [← hL.out.1, ← hL.out.2], by rw [← hL.out.1]; exact hO1.out, by rw [← hL.out.2]; exact hO2.out, hB.out⟩
      clear e1 e2
      go_wp2
      go_ret2
      exact hfin.out
end Go.Proofs.Ytlfcijpkdhdmeaa
