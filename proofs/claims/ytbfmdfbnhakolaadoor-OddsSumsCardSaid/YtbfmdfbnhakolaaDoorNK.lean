/- Numbers: Add of any. -/
import Derived.Test.YtbfmdfbnhakolaaDoorNJ
namespace Go.By
open Go.RowKit
/-- a slice of numbers -/
structure Nsl (T : TypeId) (w : World) (p : Option Addr) (n c : Nat) (Ns : List Nat) : Prop where
  len : Ns.length = n
  max : n ≤ 9223372036854775807
  elt : ∀ i N, Ns[i]? = some N → ∃ b o q m d, p = some ⟨b, o, none⟩ ∧ w.cell? ⟨b, o + i, none⟩ = some (.slice q m d) ∧ Ws T w q m d N
theorem Nsl.keep {T : TypeId} {w w' : World} {p : Option Addr} {n c : Nat} {Ns : List Nat} (h : Nsl T w p n c Ns) (hb : Below w.heap.size w w') : Nsl T w' p n c Ns :=
  ⟨h.len, h.max, fun i N hi => by
    obtain ⟨b, o, q, m, d, hp, hc, hw⟩ := h.elt i N hi
    exact ⟨b, o, q, m, d, hp, (hb.cell (p := ⟨b, o + i, none⟩) (lt_of_cell hc)).trans hc, hw.keep hb⟩⟩
theorem Nsl.two {T T' : TypeId} {w : World} {g : Nat} {fr : Nat × Nat} {q1 q2 : Option Addr} {n1 c1 n2 c2 M N : Nat} (hg : w.heap[g]? = some (.cells #[.slice q1 n1 c1, .slice q2 n2 c2] T' fr)) (h1 : Ws T w q1 n1 c1 M) (h2 : Ws T w q2 n2 c2 N) : Nsl T w (some ⟨g, 0, none⟩) 2 2 [M, N] :=
  ⟨rfl, by omega, fun i N' hi => by
    match i, hi with
    | 0, hi => simp at hi; subst hi; exact ⟨g, 0, q1, n1, c1, rfl, cell_of_row _ _ 0 _ _ _ hg, h1⟩
    | 1, hi => simp at hi; subst hi; exact ⟨g, 0, q2, n2, c2, rfl, cell_of_row _ _ 1 _ _ _ hg, h2⟩
    | j + 2, hi => simp at hi⟩
theorem Nsl.three {T T' : TypeId} {w : World} {g : Nat} {fr : Nat × Nat} {q1 q2 q3 : Option Addr} {n1 c1 n2 c2 n3 c3 M N K : Nat} (hg : w.heap[g]? = some (.cells #[.slice q1 n1 c1, .slice q2 n2 c2, .slice q3 n3 c3] T' fr)) (h1 : Ws T w q1 n1 c1 M) (h2 : Ws T w q2 n2 c2 N) (h3 : Ws T w q3 n3 c3 K) : Nsl T w (some ⟨g, 0, none⟩) 3 3 [M, N, K] :=
  ⟨rfl, by omega, fun i N' hi => by
    match i, hi with
    | 0, hi => simp at hi; subst hi; exact ⟨g, 0, q1, n1, c1, rfl, cell_of_row _ _ 0 _ _ _ hg, h1⟩
    | 1, hi => simp at hi; subst hi; exact ⟨g, 0, q2, n2, c2, rfl, cell_of_row _ _ 1 _ _ _ hg, h2⟩
    | 2, hi => simp at hi; subst hi; exact ⟨g, 0, q3, n3, c3, rfl, cell_of_row _ _ 2 _ _ _ hg, h3⟩
    | j + 3, hi => simp at hi⟩
theorem sum_take_succ {Ns : List Nat} {k N : Nat} (h : Ns[k]? = some N) : (Ns.take (k + 1)).sum = (Ns.take k).sum + N := by
  rw [List.take_add_one, h]; simp
theorem sum_take_le (Ns : List Nat) (k : Nat) : (Ns.take k).sum ≤ Ns.sum := by
  conv => rhs; rw [← List.take_append_drop k Ns]
  rw [List.sum_append]; omega
theorem blk_lt {w : World} {i : Nat} {o : Obj} (h : w.heap[i]? = some o) : i < w.heap.size := lt_of_block h
theorem One.later {w : World} {g : Nat} {v : Value} {T : TypeId} (h : w.heap[g]? = some (.cells #[v] T (0, 0))) (g' i : Nat) (u : Value) (hne : g ≠ g' := by simp) : (w.setCell ⟨g', i, none⟩ u).cell? ⟨g, 0, none⟩ = some v ∧ (w.setCell ⟨g', i, none⟩ u).frozen? ⟨g, 0, none⟩ = false :=
  ⟨cell_of_row _ _ 0 _ _ _ (hsc h hne), frozen_of_row _ _ _ _ _ (hsc h hne)⟩
/-- two calls: a sum (or product) of words, and what is made of it -/
theorem RetWs.sl {T : TypeId} {w w' : World} {n N : Nat} {e : Ending} (h : RetWs T w n N e w') : ∃ S : List UInt64, e = .returned (.slice (some ⟨w.heap.size, 0, none⟩) n n) ∧ Sl W64 w' (some ⟨w.heap.size, 0, none⟩) n n S ∧ Lies T w' (some ⟨w.heap.size, 0, none⟩) ∧ valW S = N ∧ Below w.heap.size w w' := by
  obtain ⟨S, he, ho, hv, hb⟩ := h
  exact ⟨S, he, Sl.of_owns ho, lies_of_owns ho, hv, hb⟩
end Go.By
namespace Go.Proofs.YtbfmdfbnhakolaaDoor
open Go.RowKit Go.By
/-- words, of which a number is made next -/
def RetThen (w : World) (N : Nat) (e : Ending) (w1 : World) : Prop :=
  ∃ g n, e = .returned (.slice (some ⟨g, 0, none⟩) n n) ∧ Below w.heap.size w w1 ∧ Hid (Calls Tryd.prog 33 #[.slice (some ⟨g, 0, none⟩) n n] w1 (RetM 34 w1 N))
theorem plus_then (p q : Option Addr) (n c m d M N : Nat) (w : World) (h1 : Ws 34 w p n c M) (h2 : Ws 34 w q m d N) (hm : m ≤ n) :
    Calls Tryd.prog 36 #[.slice p n c, .slice q m d] w (RetThen w (M + N)) := by
  obtain ⟨xs, s1, n1, v1⟩ := h1.ex
  obtain ⟨ys, s2, n2, v2⟩ := h2.ex
  refine (plus_any p q n c m d xs ys w s1 s2 hm (by have := h1.le; omega)).mono ?_
  rintro e w1 hr
  obtain ⟨S, rfl, hs, hl, hv, hb⟩ := hr.sl
  refine ⟨_, _, rfl, hb, ?_⟩
  have := made_any _ _ _ S w1 hs hl
  rw [hv, v1, v2] at this
  exact this
theorem times_then (p q : Option Addr) (n c m d M N : Nat) (w : World) (h1 : Ws 34 w p n c M) (h2 : Ws 34 w q m d N) :
    Calls Tryd.prog 37 #[.slice p n c, .slice q m d] w (RetThen w (M * N)) := by
  obtain ⟨xs, s1, n1, v1⟩ := h1.ex
  obtain ⟨ys, s2, n2, v2⟩ := h2.ex
  refine (times_any p q n c m d xs ys w s1 s2 (by have := h1.le; omega) (by have := h2.le; omega)).mono ?_
  rintro e w1 hr
  obtain ⟨S, rfl, hs, hl, hv, hb⟩ := hr.sl
  refine ⟨_, _, rfl, hb, ?_⟩
  have := made_any _ _ _ S w1 hs hl
  rw [hv, v1, v2] at this
  exact this
set_option maxRecDepth 100000 in
set_option maxHeartbeats 2000000 in
theorem Add_any (p : Option Addr) (k c : Nat) (Ns : List Nat) (w : World) (h : Nsl 34 w p k c Ns) :
    Calls Tryd.prog 13 #[.slice p k c] w (RetM 34 w Ns.sum) := by
  have hinfo := info_nat
  have hkm := h.max
  have H := Lib.hid h; clear h
  have HB : Hid (∀ o o2, Below w.heap.size w ((w.alloc o).alloc o2)) := fun o o2 => al (al (Below.refl _ _) (Nat.le_refl _)) (by simp)
  go_enter Tryd.func13, Tryd.ntmps13
  go_wp2
  go_loopw [12] (fun i wr => ∃ (j : Nat) (q : Option Addr) (n d : Nat), j ≤ k ∧ i = .int .i64 j ∧ Hid (wr.heap[w.heap.size]? = some (.cells #[.slice none 0 0] 29 (0, 0))) ∧ Hid (wr.heap[w.heap.size + 1]? = some (.cells #[.slice q n d] 29 (0, 0))) ∧ Hid (Ws 34 wr q n d (Ns.take j).sum) ∧ Hid (Below w.heap.size w wr)) (fun i _ => k - (intOf i).toNat)
  case atStart => exact ⟨0, none, 0, 0, Nat.zero_le _, rfl, hal (hnew rfl), hnew (by simp), by show Ws _ _ _ _ _ (Ns.take 0).sum; rw [List.take_zero]; exact Ws.zero _ _, HB.out _ _⟩
  case round =>
    obtain ⟨j, q, n, d, hj, rfl, h0, h1, hw, hB⟩ := hrel
    obtain ⟨_, a1, a2, a3, a4⟩ := One.of h0.out
    obtain ⟨_, b1, b2, b3, b4⟩ := One.of h1.out
    have hsz := hB.out.size
    by_cases hlt : j < k
    · obtain ⟨N, hN⟩ : ∃ N, Ns[j]? = some N := ⟨Ns[j]'(by rw [H.out.len]; exact hlt), List.getElem?_eq_getElem _⟩
      obtain ⟨b, o, q2, m, d2, rfl, hc, hw2⟩ := H.out.elt j N hN
      have hcw := (hB.out.cell (p := ⟨b, o + j, none⟩) (lt_of_cell hc)).trans hc
      have hw2' : Hid (Ws 34 wr q2 m d2 N) := hw2.keep hB.out
      have hjk : (j : Int) < (k : Int) := by omega
      have HN := Lib.hid hN
      clear hc hw2 hN hlt
      by_cases hnm : n < m
      · have hnm' : (n : Int) < (m : Int) := by omega
        clear hnm
        go_wp2
        go_quiet (fail)
        go_wp2_with fail
        refine Calls.mono (plus_then _ _ _ _ _ _ _ _ _ (hw2'.out.keep (bdn (al (Below.refl _ _) (Nat.le_refl _)))) (hw.out.keep (bdn (al (Below.refl _ _) (Nat.le_refl _)))) (by omega)) ?_
        rintro e w4 ⟨g, nn, rfl, hb4, hmade⟩
        go_wp2_with fail
        refine Calls.mono hmade.out ?_
        rintro e w5 hr
        rw [Nat.add_comm] at hr
        have hb45 : Below wr.heap.size w4 w5 → Below wr.heap.size wr w5 := fun h => (bl (bdn (al (Below.refl _ _) (Nat.le_refl _))) hb4 (by simp)).trans h
        have hsz4 := hb4.size
        simp at hsz4
        rcases hr with ⟨hcap, q5, n5, c5, rfl, hw5, hb5⟩ | ⟨hcap, rfl, hb5⟩
        · have hb6 := hb45 (hb5.mono (by omega))
          have k0 : w5.heap[w.heap.size]? = some (.cells #[.slice none 0 0] 29 (0, 0)) := (hb6.block _ (blk_lt h0.out)).trans h0.out
          have k1 : w5.heap[w.heap.size + 1]? = some (.cells #[.slice q n d] 29 (0, 0)) := (hb6.block _ (blk_lt h1.out)).trans h1.out
          obtain ⟨_, x1, x2, x3, x4⟩ := One.of k1
          have F : Hid ((w5.setCell ⟨w.heap.size + 1, 0, none⟩ (.slice q5 n5 c5)).heap[w.heap.size]? = some (.cells #[.slice none 0 0] 29 (0, 0)) ∧ (w5.setCell ⟨w.heap.size + 1, 0, none⟩ (.slice q5 n5 c5)).heap[w.heap.size + 1]? = some (.cells #[.slice q5 n5 c5] 29 (0, 0)) ∧ Ws 34 (w5.setCell ⟨w.heap.size + 1, 0, none⟩ (.slice q5 n5 c5)) q5 n5 c5 (Ns.take (j + 1)).sum ∧ Below w.heap.size w (w5.setCell ⟨w.heap.size + 1, 0, none⟩ (.slice q5 n5 c5))) :=
            ⟨hsc k0 (by simp), hss k1, by rw [sum_take_succ HN.out]; exact hw5.set k1 (by decide), ((hB.out.trans (hb6.mono (by omega)))).setCell (by simp) _⟩
          clear hb6 hb5 hb4 hw5 k0 k1 hb45 hcap hmade
          go_wp2
          go_roundw
          case rel => exact ⟨j + 1, _, _, _, by omega, by go_num, F.out.1, F.out.2.1, F.out.2.2.1, F.out.2.2.2⟩
          case measure => simp [intOf]; omega
        · have hb6 := hb45 (hb5.mono (by omega))
          have k0 : w5.heap[w.heap.size]? = some (.cells #[.slice none 0 0] 29 (0, 0)) := (hb6.block _ (blk_lt h0.out)).trans h0.out
          have k1 : w5.heap[w.heap.size + 1]? = some (.cells #[.slice q n d] 29 (0, 0)) := (hb6.block _ (blk_lt h1.out)).trans h1.out
          obtain ⟨_, x1, x2, x3, x4⟩ := One.of k1
          obtain ⟨y1, y2⟩ := One.later k0 (w.heap.size + 1) 0 (.slice none 0 0)
          have K0 := Lib.hid (hsc k0 (show w.heap.size ≠ (⟨w.heap.size + 1, 0, none⟩ : Addr).block by simp) (v := .slice none 0 0))
          have F : Hid (capN ≤ Ns.sum ∧ Below w.heap.size w ((w5.setCell ⟨w.heap.size + 1, 0, none⟩ (.slice none 0 0)).setCell ⟨w.heap.size, 0, none⟩ (.slice none 0 0))) :=
            ⟨Nat.le_trans (by rw [← sum_take_succ HN.out] at hcap; exact hcap) (sum_take_le _ _), ((hB.out.trans (hb6.mono (by omega))).setCell (by simp) _).setCell (by simp) _⟩
          clear hb6 hb5 hb4 k0 k1 hb45 hcap hmade
          go_wp2
          exact bodyPost_ret (res_cell_tmp rfl _ _ _ 29 #[.slice none 0 0] (0, 0) _ (.int .i64 16) rfl (hss K0.out) rfl Tryd.underlying29 rfl hinfo) rfl (Or.inr ⟨F.out.1, rfl, F.out.2⟩)
      · have hnm' : ¬ (n : Int) < (m : Int) := by omega
        clear hnm
        go_wp2
        go_quiet (fail)
        go_wp2_with fail
        refine Calls.mono (plus_then _ _ _ _ _ _ _ _ _ (hw.out.keep (bdn (al (Below.refl _ _) (Nat.le_refl _)))) (hw2'.out.keep (bdn (al (Below.refl _ _) (Nat.le_refl _)))) (by omega)) ?_
        rintro e w4 ⟨g, nn, rfl, hb4, hmade⟩
        go_wp2_with fail
        refine Calls.mono hmade.out ?_
        rintro e w5 hr
        skip
        have hb45 : Below wr.heap.size w4 w5 → Below wr.heap.size wr w5 := fun h => (bl (bdn (al (Below.refl _ _) (Nat.le_refl _))) hb4 (by simp)).trans h
        have hsz4 := hb4.size
        simp at hsz4
        rcases hr with ⟨hcap, q5, n5, c5, rfl, hw5, hb5⟩ | ⟨hcap, rfl, hb5⟩
        · have hb6 := hb45 (hb5.mono (by omega))
          have k0 : w5.heap[w.heap.size]? = some (.cells #[.slice none 0 0] 29 (0, 0)) := (hb6.block _ (blk_lt h0.out)).trans h0.out
          have k1 : w5.heap[w.heap.size + 1]? = some (.cells #[.slice q n d] 29 (0, 0)) := (hb6.block _ (blk_lt h1.out)).trans h1.out
          obtain ⟨_, x1, x2, x3, x4⟩ := One.of k1
          have F : Hid ((w5.setCell ⟨w.heap.size + 1, 0, none⟩ (.slice q5 n5 c5)).heap[w.heap.size]? = some (.cells #[.slice none 0 0] 29 (0, 0)) ∧ (w5.setCell ⟨w.heap.size + 1, 0, none⟩ (.slice q5 n5 c5)).heap[w.heap.size + 1]? = some (.cells #[.slice q5 n5 c5] 29 (0, 0)) ∧ Ws 34 (w5.setCell ⟨w.heap.size + 1, 0, none⟩ (.slice q5 n5 c5)) q5 n5 c5 (Ns.take (j + 1)).sum ∧ Below w.heap.size w (w5.setCell ⟨w.heap.size + 1, 0, none⟩ (.slice q5 n5 c5))) :=
            ⟨hsc k0 (by simp), hss k1, by rw [sum_take_succ HN.out]; exact hw5.set k1 (by decide), ((hB.out.trans (hb6.mono (by omega)))).setCell (by simp) _⟩
          clear hb6 hb5 hb4 hw5 k0 k1 hb45 hcap hmade
          go_wp2
          go_roundw
          case rel => exact ⟨j + 1, _, _, _, by omega, by go_num, F.out.1, F.out.2.1, F.out.2.2.1, F.out.2.2.2⟩
          case measure => simp [intOf]; omega
        · have hb6 := hb45 (hb5.mono (by omega))
          have k0 : w5.heap[w.heap.size]? = some (.cells #[.slice none 0 0] 29 (0, 0)) := (hb6.block _ (blk_lt h0.out)).trans h0.out
          have k1 : w5.heap[w.heap.size + 1]? = some (.cells #[.slice q n d] 29 (0, 0)) := (hb6.block _ (blk_lt h1.out)).trans h1.out
          obtain ⟨_, x1, x2, x3, x4⟩ := One.of k1
          obtain ⟨y1, y2⟩ := One.later k0 (w.heap.size + 1) 0 (.slice none 0 0)
          have K0 := Lib.hid (hsc k0 (show w.heap.size ≠ (⟨w.heap.size + 1, 0, none⟩ : Addr).block by simp) (v := .slice none 0 0))
          have F : Hid (capN ≤ Ns.sum ∧ Below w.heap.size w ((w5.setCell ⟨w.heap.size + 1, 0, none⟩ (.slice none 0 0)).setCell ⟨w.heap.size, 0, none⟩ (.slice none 0 0))) :=
            ⟨Nat.le_trans (by rw [← sum_take_succ HN.out] at hcap; exact hcap) (sum_take_le _ _), ((hB.out.trans (hb6.mono (by omega))).setCell (by simp) _).setCell (by simp) _⟩
          clear hb6 hb5 hb4 k0 k1 hb45 hcap hmade
          go_wp2
          exact bodyPost_ret (res_cell_tmp rfl _ _ _ 29 #[.slice none 0 0] (0, 0) _ (.int .i64 16) rfl (hss K0.out) rfl Tryd.underlying29 rfl hinfo) rfl (Or.inr ⟨F.out.1, rfl, F.out.2⟩)
    · obtain rfl : j = k := by omega
      have F : Hid ((Ns.take j).sum = Ns.sum) := by show _ = _; rw [List.take_of_length_le (by have := H.out.len; omega)]
      rw [F.out] at hw
      have HWE : Hid (Ws 34 (wr.setCell ⟨w.heap.size, 0, none⟩ (.slice q n d)) q n d Ns.sum ∧ Ns.sum < capN ∧ Below w.heap.size w (wr.setCell ⟨w.heap.size, 0, none⟩ (.slice q n d))) := ⟨hw.out.set h0.out (by decide), hw.out.lt, hB.out.setCell (Nat.le_refl _) _⟩
      clear hw hlt
      go_wp2
      exact bodyPost_ret (res_cell_tmp rfl _ _ _ 29 #[.slice q n d] (0, 0) _ (.int .i64 0) rfl (hss h0.out) rfl Tryd.underlying29 rfl hinfo) rfl (Or.inl ⟨HWE.out.2.1, _, _, _, rfl, HWE.out.1, HWE.out.2.2⟩)
end Go.Proofs.YtbfmdfbnhakolaaDoor
