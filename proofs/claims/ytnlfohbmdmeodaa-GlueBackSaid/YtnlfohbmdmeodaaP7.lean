/- The contract of the law's few; the chapter's example. -/
import Derived.Test.YtnlfohbmdmeodaaP6
namespace Go.Proofs.Ytnlfohbmdmeodaa
open Go.RowKit Go.By
theorem use_w {P : Program} {f : FuncId} {args : Array Value} {W : World} {Q : Ending → World → Prop} (I : World → Prop) (h : I W) (k : ∀ W', I W' → Calls P f args W' Q) : Calls P f args W Q := k W h
theorem lt_of_blk {w : World} {b : Nat} {o : Obj} (h : w.heap[b]? = some o) : b < w.heap.size := by
  rcases Nat.lt_or_ge b w.heap.size with g | g
  · exact g
  · rw [Array.getElem?_eq_none g] at h; cases h
theorem cells4 {w : World} {b T : Nat} {u v x y : Value} (h : w.heap[b]? = some (.cells #[u, v, x, y] T (0, 0))) : w.cell? ⟨b, 0, none⟩ = some u ∧ w.cell? ⟨b, 1, none⟩ = some v ∧ w.cell? ⟨b, 2, none⟩ = some x ∧ w.cell? ⟨b, 3, none⟩ = some y :=
  ⟨cell_of_row _ _ 0 _ _ _ h, cell_of_row _ _ 1 _ _ _ h, cell_of_row _ _ 2 _ _ _ h, cell_of_row _ _ 3 _ _ _ h⟩
theorem sl2_triple {W : World} {g T : Nat} {fr : Nat × Nat} {p1 p2 p3 : Option Addr} {n1 n2 n3 c1 c2 c3 : Nat} {xs ys zs : List UInt8} (hW : W.heap[g]? = some (.cells #[.slice p1 n1 c1, .slice p2 n2 c2, .slice p3 n3 c3] T fr)) (h1 : Sl B8 W p1 n1 c1 xs) (h2 : Sl B8 W p2 n2 c2 ys) (h3 : Sl B8 W p3 n3 c3 zs) :
    Sl2 W (some ⟨g, 0, none⟩) 3 3 [xs, ys, zs] := by
  refine sl2_block [xs, ys, zs] 3 hW rfl rfl (by simp [maxLen]) ?_
  intro i us hi
  match i, hi with
  | 0, hi => simp at hi; subst hi; exact ⟨p1, n1, c1, rfl, h1⟩
  | 1, hi => simp at hi; subst hi; exact ⟨p2, n2, c2, rfl, h2⟩
  | 2, hi => simp at hi; subst hi; exact ⟨p3, n3, c3, rfl, h3⟩
/-- some truth value, and old memory as it was -/
def RetSome (w : World) (e : Ending) (w' : World) : Prop := ∃ b, e = .returned (.bool b) ∧ Below w.heap.size w w'
set_option maxRecDepth 100000 in
set_option maxHeartbeats 1000000 in
theorem few12_any (l s n d : Int) (p : Option Addr) (m c : Nat) (xss : List (List UInt8)) (w : World) (h : Sl2 w p m c xss) (hl2 : l ≤ 9223372036854775807) :
    Calls Try.prog 6 #[.agg #[.int .i64 l, .int .i64 s, .int .i64 n, .int .u32 d], .slice p m c] w (RetSome w) := by
  have HC := Lib.hid (fun w => Check_any l s n d w hl2)
  have hB := fun o => al (o := o) (Below.refl w.heap.size w) (Nat.le_refl _)
  have hmb := h.bound
  have H := Lib.hid h
  clear h
  go_enter Try.func6, Try.ntmps6
  go_wp2
  go_loop [5, 10] (fun s' i => ∃ (k : Nat) (z : Int), k ≤ m ∧ i = .int .i64 k ∧ s' = .int .i64 z) (fun _ i => m - (intOf i).toNat)
  case atStart => exact ⟨0, 0, Nat.zero_le _, rfl, rfl⟩
  case round =>
    obtain ⟨k, z, hk, rfl, rfl⟩ := hrel
    by_cases hlt : k < m
    · obtain ⟨b, o, q, m', c', xs, rfl, hc, hs, hx⟩ := H.out.at k hlt
      have hcw := calloc (o := .cells #[.int .i64 l, .int .i64 s, .int .i64 n, .int .u32 d] 24) hc
      clear hs
      go_wp2
      go_round
      case rel => exact ⟨k + 1, _, by omega, by go_num, rfl⟩
      case measure => simp [intOf]; omega
    · have hkm : k = m := by omega
      subst hkm
      by_cases hs4 : z ≤ 4000
      · by_cases hk2 : k ≤ 200
        · have hk2' : (k : Int) ≤ 200 := by omega
          by_cases hl4 : l ≤ 4000
          · go_wp2
            go_ret
            exact ⟨_, rfl, hB _⟩
          · have hl4' : (4000 : Int) < l := by omega
            generalize checkS l s n = y at *
            clear hl4
            cases hy : (y != 0) <;>
            · go_wp2_with fail
              refine (HC.out _).mono ?_; rintro e w1 ⟨rfl, hb1⟩
              go_wp2
              go_ret
              exact ⟨_, rfl, bl (hB _) hb1 (by simp)⟩
        · have hk2' : (200 : Int) < (k : Int) := by omega
          clear hk2
          go_wp2
          go_ret
          exact ⟨_, rfl, hB _⟩
      · have hs4' : (4000 : Int) < z := by omega
        clear hs4
        go_wp2
        go_ret
        exact ⟨_, rfl, hB _⟩
set_option maxRecDepth 100000 in
set_option maxHeartbeats 1000000 in
theorem awake12 (w : World) : Calls Try.prog 5 #[] w fun e w' => e = .returned (.bool true) ∧ Below w.heap.size w w' := by
  have HO : Hid (ofS 5 2 0 = .tuple #[.agg #[.int .i64 5, .int .i64 2, .int .i64 3, .int .u32 0], .int .i64 0]) := by show _ = _; rfl
  have HJ : Hid (joinS 5 2 3 [[1, 2], [3, 4], [5, 9]] = ([1, 2, 3, 4, 5], 0)) := by show _ = _; decide +kernel
  have HW : Hid ((decide ((wholeS 5 2 3 [[1, 2], [3, 4], [5, 9]]).2 = 0) && zeroS ((wholeS 5 2 3 [[1, 2], [3, 4], [5, 9]]).1.drop (5 : Int).toNat)) = false) := by show _ = _; decide +kernel
  have C1 := fun w => POf_any 5 2 0 w (by omega)
  rw [HO.out] at C1
  have C2 := fun p m c w h => Join_any 5 2 3 0 p m c [[1, 2], [3, 4], [5, 9]] w h (by omega)
  rw [HJ.out] at C2
  have C3 := fun p m c w h => Clean_any 5 2 3 0 p m c [[1, 2], [3, 4], [5, 9]] w h (by omega)
  simp only [HW.out] at C3
  have H1 := Lib.hid C1; have H2 := Lib.hid C2; have H3 := Lib.hid C3
  clear C1 C2 C3 HO HJ HW
  go_enter Try.func5, Try.ntmps5
  go_wp2_with fail
  refine (H1.out _).mono ?_; rintro e w1 ⟨rfl, hb1⟩
  have k0 := hb1.size
  go_wp2_with fail
  refine use_w (fun W => Sl2 W (some ⟨w1.heap.size + 1 + 1 + 1 + 1, 0, none⟩) 3 3 [[1, 2], [3, 4], [5, 9]] ∧ W.heap[w1.heap.size]? = some (.cells #[.int .i64 5, .int .i64 2, .int .i64 3, .int .u32 0] 24 (0, 0)) ∧ Below w1.heap.size w1 W) ⟨?_, ?_, ?_⟩ ?_
  · refine sl2_triple (hnew (by simp)) ?_ ?_ ?_
    · exact sl_block [1, 2] 2 (hal (hal (hal (hnew (by simp))))) rfl rfl (by simp [maxLen])
    · exact sl_block [3, 4] 2 (hal (hal (hnew (by simp)))) rfl rfl (by simp [maxLen])
    · exact sl_block [5, 9] 2 (hal (hnew (by simp))) rfl rfl (by simp [maxLen])
  · exact hal (hal (hal (hal (hnew rfl))))
  · exact al (al (al (al (al (Below.refl _ _) (Nat.le_refl _)) (by simp)) (by simp; omega)) (by simp; omega)) (by simp; omega)
  rintro W2 ⟨hS, hc, hb2⟩
  have HS := Lib.hid hS; have HC := Lib.hid hc
  clear hS hc
  have k2 := bl hb1 hb2 k0
  refine (H2.out _ _ _ W2 HS.out).mono ?_; rintro e w3 ⟨q, m', c', rfl, hq, hb3⟩
  have hm : m' = 5 := hq.len.symm
  subst hm
  have HQ := Lib.hid hq; clear hq
  have k3 := bl k2 hb3 k2.size
  have hc3 := (hb3.block _ (lt_of_blk HC.out)).trans HC.out
  obtain ⟨d0, d1, d2, d3⟩ := cells4 hc3
  go_wp2_with fail
  refine Calls.mono (Same_any _ _ _ _ _ _ [1, 2, 3, 4, 5] [1, 2, 3, 4, 5] _ (HQ.out.keep (al (Below.refl _ _) (Nat.le_refl _))) (sl_block [1, 2, 3, 4, 5] 5 (hnew rfl) rfl rfl (by simp [maxLen]))) ?_
  rintro e w4 ⟨rfl, hb4⟩
  rw [decide_eq_true rfl]
  have j4 : Below w3.heap.size w3 w4 := bl (al (Below.refl _ _) (Nat.le_refl _)) hb4 (by simp)
  have k4 := bl k3 j4 k3.size
  have hc4 := (j4.block _ (lt_of_blk hc3)).trans hc3
  clear d0 d1 d2 d3
  obtain ⟨d0, d1, d2, d3⟩ := cells4 hc4
  have HS4 := Lib.hid ((HS.out.keep hb3).keep j4)
  clear hc3 hc4
  go_wp2_with fail
  refine Calls.mono (H3.out _ _ _ w4 HS4.out) ?_; rintro e w5 ⟨rfl, hb5⟩
  go_wp2
  go_ret
  exact ⟨rfl, bl k4 hb5 k4.size⟩
end Go.Proofs.Ytnlfohbmdmeodaa
