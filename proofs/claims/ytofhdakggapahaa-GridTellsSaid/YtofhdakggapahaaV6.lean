/- The contracts of the reference's functions of layer 3. -/
import Derived.Test.YtofhdakggapahaaV5
namespace Go.Proofs.Ytofhdakggapahaa
open Go.RowKit Go.By
set_option maxHeartbeats 400000 in
theorem RLead_any (p : Option Addr) (n c : Nat) (v : List UInt8) (w : World) (h : Sl B8 w p n c v) :
    Calls Try.prog 75 #[.slice p n c] w fun e w' => e = .returned (.int .i64 (leadS v)) ∧ w = w' := by
  have hb := h.bound
  have H := Lib.hid h; clear h
  go_enter Try.func75, Try.ntmps75
  go_wp2
  go_loop [3] (fun i => ∃ k : Nat, k ≤ n ∧ i = .int .i64 k ∧ Hid (∀ j y, j < k → v[j]? = some y → decide (y ≠ 0) = false)) (fun i => n - (intOf i).toNat)
  case atStart => exact ⟨0, Nat.zero_le _, rfl, fun j y hj => by omega⟩
  case round =>
    obtain ⟨k, hk, rfl, hj⟩ := hrel
    by_cases hlt : k < n
    · obtain ⟨b, o, x, rfl, hc, hx⟩ := H.out.at k hlt
      have ht := nat_ne_zero x
      by_cases h0 : x = 0
      · rw [decide_eq_false (by simpa using h0)] at ht
        have H0 := Lib.hid h0; clear h0
        go_wp2
        go_round
        case rel => exact ⟨k + 1, by omega, by go_num, fun j y hj' hy => by
          by_cases e : j = k
          · subst e; have := hx.out.symm.trans hy; cases this; simp [H0.out]
          · exact hj.out j y (by omega) hy⟩
        case measure => simp [intOf]; omega
      · rw [decide_eq_true (by simpa using h0)] at ht
        have H0 := Lib.hid h0; clear h0
        go_wp2
        go_ret
        exact ⟨by rw [leadS, idxf_found hx.out (by simpa using H0.out) hj.out]; rfl, rfl⟩
    · go_wp2
      go_ret
      exact ⟨by rw [leadS, idxf_none (k := k) (by have := H.out.len; omega) hj.out]; rfl, rfl⟩
/-- where a vector leads: nowhere, or at a place with a byte that isn't 0 -/
theorem leadS_cases (v : List UInt8) : (leadS v = -1 ∧ atS v (leadS v) = 0 ∧ ∀ x, x ∈ v → x = 0) ∨ ∃ (k : Nat) (x : UInt8), leadS v = (k : Int) ∧ v[k]? = some x ∧ x ≠ 0 ∧ atS v (leadS v) = x ∧ ∀ (j : Nat) (y : UInt8), j < k → v[j]? = some y → y = 0 := by
  unfold leadS idxf
  cases h : v.findIdx? (fun b => decide (b ≠ 0)) with
  | none =>
    left
    refine ⟨rfl, by simp [atS], ?_⟩
    rw [List.findIdx?_eq_none_iff] at h
    intro x hx
    have := h x hx
    simpa using this
  | some i =>
    right
    obtain ⟨hi, hf, hb⟩ := List.findIdx?_eq_some_iff_getElem.1 h
    refine ⟨i, v[i], rfl, List.getElem?_eq_getElem hi, by simpa using hf, by simp [atS, List.getD, hi], ?_⟩
    intro j y hj hy
    obtain ⟨hj', e⟩ := List.getElem?_eq_some_iff.1 hy
    have := hb j hj
    rw [e] at this
    simpa using this
theorem info_ref : (Try.prog.info? 68).map (·.size) = some 2 := by kernel_rfl
/-- one result: a row that reads so -/
def RetS (w : World) (r : List UInt8 × List UInt8) (e : Ending) (w' : World) : Prop :=
  ∃ q1 m1 c1 q2 m2 c2, e = .returned (.agg #[.slice q1 m1 c1, .slice q2 m2 c2]) ∧ Sl B8 w' q1 m1 c1 r.1 ∧ Sl B8 w' q2 m2 c2 r.2 ∧ Below w.heap.size w w'
set_option maxRecDepth 100000 in
set_option maxHeartbeats 1000000 in
theorem RNorm_any (p1 p2 : Option Addr) (n1 c1 n2 c2 : Nat) (v d : List UInt8) (w : World) (h1 : Sl B8 w p1 n1 c1 v) (h2 : Sl B8 w p2 n2 c2 d) (r1 : Room n1) (r2 : Room n2) :
    Calls Try.prog 91 #[.agg #[.slice p1 n1 c1, .slice p2 n2 c2]] w (RetS w (normS (v, d))) := by
  have hi := info_ref
  have H1 := Lib.hid h1; have H2 := Lib.hid h2
  have b1 := h1.bound
  have hB : ∀ o1 o2, Below w.heap.size w ((w.alloc o1).alloc o2) := fun o1 o2 => al (al (Below.refl _ _) (Nat.le_refl _)) (by simp)
  rcases leadS_cases v with ⟨e1, e2, -⟩ | ⟨k, x, e1, e2, e3, e4, -⟩
  · have HN : Hid (normS (v, d) = (v, d)) := if_pos e2
    have CL := Lib.hid (fun W a => RLead_any p1 n1 c1 v W a)
    rw [e1] at CL
    clear h1 h2 e1 e2
    go_enter Try.func91, Try.ntmps91
    go_wp2_with fail
    refine (CL.out _ (H1.out.keep (hB _ _))).mono ?_; rintro e w' ⟨rfl, rfl⟩
    go_wp2
    rw [HN.out]
    refine bodyPost_ret (results_cell_row rfl _ _ _ 68 #[.slice p1 n1 c1, .slice p2 n2 c2] (0, 0) _ rfl (hnew (by simp)) Try.underlying68 rfl hi) rfl ⟨p1, n1, c1, p2, n2, c2, rfl, H1.out.keep (hB _ _), H2.out.keep (hB _ _), hB _ _⟩
  · have HN : Hid (normS (v, d) = (v.map (Gf.gmul (invOf x)), d.map (Gf.gmul (invOf x)))) := by
      show _ = _
      simp only [normS, e4, if_neg e3, invOf]
    have CL := Lib.hid (fun W a => RLead_any p1 n1 c1 v W a)
    rw [e1] at CL
    have hk : k < n1 := by have := (List.getElem?_eq_some_iff.1 e2).1; rw [h1.len] at this; exact this
    obtain ⟨b, o, x', rfl, hc, hx⟩ := h1.at k hk
    have hxx : x' = x := Option.some.inj (hx.out.symm.trans e2)
    subst hxx
    have hcc : ∀ o1 o2, ((w.alloc o1).alloc o2).cell? ⟨b, o + k, none⟩ = some (B8 x') := fun o1 o2 => calloc (calloc hc)
    have kp : ¬ ((k : Int) < 0) := by omega
    have kn : (k : Int) < (n1 : Int) := by omega
    have HI := Lib.hid (fun W => RInv_any x' W)
    generalize invOf x' = g at *
    clear h1 h2 e1 e2 e3 e4 hx hc
    go_enter Try.func91, Try.ntmps91
    go_wp2_with fail
    refine (CL.out _ (H1.out.keep (hB _ _))).mono ?_; rintro e w' ⟨rfl, rfl⟩
    go_wp2_with fail
    refine (HI.out _).mono ?_; rintro e w' ⟨rfl, rfl⟩
    have hB' := hB (.cells #[.slice (some ⟨b, o, none⟩) n1 c1, .slice p2 n2 c2] 68) (.cells #[.slice none 0 0, .slice none 0 0] 68)
    have e1 : ((w.alloc (.cells #[.slice (some ⟨b, o, none⟩) n1 c1, .slice p2 n2 c2] 68)).alloc (.cells #[.slice none 0 0, .slice none 0 0] 68)).heap[w.heap.size]? = some (.cells #[.slice (some ⟨b, o, none⟩) n1 c1, .slice p2 n2 c2] 68 (0, 0)) := hal (hnew rfl)
    have e2 : ((w.alloc (.cells #[.slice (some ⟨b, o, none⟩) n1 c1, .slice p2 n2 c2] 68)).alloc (.cells #[.slice none 0 0, .slice none 0 0] 68)).heap[w.heap.size + 1]? = some (.cells #[.slice none 0 0, .slice none 0 0] 68 (0, 0)) := hnew (w := w.alloc _) (by simp)
    have esz : w.heap.size + 2 ≤ ((w.alloc (.cells #[.slice (some ⟨b, o, none⟩) n1 c1, .slice p2 n2 c2] 68)).alloc (.cells #[.slice none 0 0, .slice none 0 0] 68)).heap.size := by simp
    clear hB hcc
    go_wp2_with fail
    generalize (w.alloc (.cells #[.slice (some ⟨b, o, none⟩) n1 c1, .slice p2 n2 c2] 68)).alloc (.cells #[.slice none 0 0, .slice none 0 0] 68) = W at *
    have R0 : ∀ W', Below (w.heap.size + 2) W W' → W'.cell? ⟨w.heap.size, 0, none⟩ = some (.slice (some ⟨b, o, none⟩) n1 c1) := fun W' h => cell_of_row _ _ 0 _ _ _ ((h.block _ (by omega)).trans e1)
    have R1 : ∀ W', Below (w.heap.size + 2) W W' → W'.cell? ⟨w.heap.size, 1, none⟩ = some (.slice p2 n2 c2) := fun W' h => cell_of_row _ _ 1 _ _ _ ((h.block _ (by omega)).trans e1)
    have R2 : ∀ W', Below (w.heap.size + 2) W W' → W'.cell? ⟨w.heap.size + 1, 0, none⟩ = some (.slice none 0 0) := fun W' h => cell_of_row _ _ 0 _ _ _ ((h.block _ (by omega)).trans e2)
    have R3 : ∀ W', Below (w.heap.size + 2) W W' → W'.cell? ⟨w.heap.size + 1, 1, none⟩ = some (.slice none 0 0) := fun W' h => cell_of_row _ _ 1 _ _ _ ((h.block _ (by omega)).trans e2)
    have Z2 : ∀ W', Below (w.heap.size + 2) W W' → W'.frozen? ⟨w.heap.size + 1, 0, none⟩ = false := fun W' h => frozen_of_row _ _ 0 _ _ ((h.block _ (by omega)).trans e2)
    have Z3 : ∀ W', Below (w.heap.size + 2) W W' → W'.frozen? ⟨w.heap.size + 1, 1, none⟩ = false := fun W' h => frozen_of_row _ _ 1 _ _ ((h.block _ (by omega)).trans e2)
    have E2 := Lib.hid e2
    clear e1 e2
    have hd : Below (w.heap.size + 2) W W.drew := (Below.refl _ _).drew
    have C1 : Hid (∀ W', Below (w.heap.size + 2) W W' → Calls Try.prog 102 #[B8 g, .slice (some ⟨b, o, none⟩) n1 c1] W' (RetB1 5 W' (v.map (Gf.gmul g)))) := fun W' h => RScale_any g _ n1 c1 v W' (H1.out.keep (hB'.trans (h.mono (by omega)))) r1
    have C2 : Hid (∀ W', Below (w.heap.size + 2) W W' → Calls Try.prog 102 #[B8 g, .slice p2 n2 c2] W' (RetB1 5 W' (d.map (Gf.gmul g)))) := fun W' h => RScale_any g p2 n2 c2 d W' (H2.out.keep (hB'.trans (h.mono (by omega)))) r2
    have hB2 := Lib.hid hB'
    clear hB'
    go_region_with (first
      | (go_at_call 102; (with_reducible refine Calls.mono (C1.out _ (by assumption)) ?_); rintro e w1 ⟨q1, m1, c1', hm1, rfl, ho1, hb1⟩; have hw1 := stp (by assumption) hb1 rfl esz)
      | (go_at_call 102; (with_reducible refine Calls.mono (C2.out _ (by assumption)) ?_); rintro e w2 ⟨q2, m2, c2', hm2, rfl, ho2, hb2⟩; have hw2 := stp (by assumption) hb2 rfl esz))
    all_goals go_wp2
    all_goals rw [HN.out]
    all_goals first
      | (refine bodyPost_ret (results_cell_row rfl _ _ _ 68 #[.slice q1 m1 c1', .slice q2 m2 c2'] (0, 0) _ rfl (hss (hss ((hw2.block _ (by omega)).trans E2.out))) Try.underlying68 rfl hi) rfl ⟨q1, m1, c1', q2, m2, c2', rfl, Sl.of_owns (owns_set (owns_set (owns_keep ho1 hb2) (show w.heap.size + 1 < _ by have := hw1.size; simp; omega)) (show w.heap.size + 1 < _ by have := hw1.size; simp; omega)), Sl.of_owns (owns_set (owns_set ho2 (show w.heap.size + 1 < _ by have := hw1.size; simp; omega)) (show w.heap.size + 1 < _ by have := hw1.size; simp; omega)), ((hB2.out.trans (hw2.mono (by omega))).setCell (by simp) _).setCell (by simp) _⟩)
      | (refine bodyPost_ret (results_cell_row rfl _ _ _ 68 #[.slice q1 m1 c1', .slice q2 m2 c2'] (0, 0) _ rfl (hss (hss ((hw1.block _ (by omega)).trans E2.out))) Try.underlying68 rfl hi) rfl ⟨q1, m1, c1', q2, m2, c2', rfl, Sl.of_owns (owns_set (owns_set ho1 (show w.heap.size + 1 < _ by have := hw2.size; simp; omega)) (show w.heap.size + 1 < _ by have := hw2.size; simp; omega)), Sl.of_owns (owns_set (owns_set (owns_keep ho2 hb1) (show w.heap.size + 1 < _ by have := hw2.size; simp; omega)) (show w.heap.size + 1 < _ by have := hw2.size; simp; omega)), ((hB2.out.trans (hw1.mono (by omega))).setCell (by simp) _).setCell (by simp) _⟩)
end Go.Proofs.Ytofhdakggapahaa
