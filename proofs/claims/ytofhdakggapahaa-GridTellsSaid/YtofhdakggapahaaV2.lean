/- The contracts of the rows' functions: Clone, Norm, Less. -/
import Derived.Test.YtofhdakggapahaaV1
import Derived.Test.YtofhdakggapahaaW9
import Derived.Deep.RegionWith
namespace Go.Proofs.Ytofhdakggapahaa
open Go.RowKit Go.By
theorem qs {f : FuncId} {args : Array Value} {w : World} {n : Nat} {v : Value} (h : Calls Try.prog f args (w.drewN n) fun e w' => e = .returned v ∧ w.drewN n = w') :
    Calls Try.prog f args (w.drewN n) fun e w'' => e = .returned v ∧ ∃ m, w'' = w.drewN m :=
  Calls.quiet_of_same (h.mono fun _ _ ⟨a, b⟩ => ⟨a, b.symm⟩)
theorem dr {α : Type} {enc : α → Value} {w : World} {p : Option Addr} {n c : Nat} {xs : List α} (h : Sl enc w p n c xs) (k : Nat) : Sl enc (w.drewN k) p n c xs := h.keep (below_drewN w k)
theorem info_row : (Try.prog.info? 61).map (·.size) = some 2 := by kernel_rfl
set_option maxHeartbeats 400000 in
theorem RClone_any (p1 p2 : Option Addr) (n1 c1 n2 c2 : Nat) (v d : List UInt8) (w : World) (h1 : Sl B8 w p1 n1 c1 v) (h2 : Sl B8 w p2 n2 c2 d) (r1 : Room n1) (r2 : Room n2) :
    Calls Try.prog 70 #[.agg #[.slice p1 n1 c1, .slice p2 n2 c2]] w (RetR 5 w (v, d)) := by
  have hi := info_row
  have H1 := Lib.hid h1; have H2 := Lib.hid h2; clear h1 h2
  go_enter Try.func70, Try.ntmps70
  go_wp2_with fail
  have hB : ∀ o1 o2, Below w.heap.size w ((w.alloc o1).alloc o2) := fun o1 o2 => al (al (Below.refl _ _) (Nat.le_refl _)) (by simp)
  refine (Of_any _ _ _ _ _ _ v d _ (H1.out.keep (hB _ _)) (H2.out.keep (hB _ _)) r1 r2).mono ?_; rintro e w1 ⟨q1, m1, c1', q2, m2, c2', g1, g2, rfl, ho1, ho2, hb⟩
  have HO1 := Lib.hid ho1; have HO2 := Lib.hid ho2; clear ho1 ho2
  have e2 : w1.heap[w.heap.size + 1]? = some (.cells #[.slice none 0 0, .slice none 0 0] 61 (0, 0)) := by
    rw [hb.block _ (by simp)]; exact hnew (by simp)
  have f0 : w1.cell? ⟨w.heap.size + 1, 0, none⟩ = some (.slice none 0 0) := cell_of_row _ _ 0 _ _ _ e2
  have f1 : w1.cell? ⟨w.heap.size + 1, 1, none⟩ = some (.slice none 0 0) := cell_of_row _ _ 1 _ _ _ e2
  have z0 : w1.frozen? ⟨w.heap.size + 1, 0, none⟩ = false := frozen_of_row _ _ 0 _ _ e2
  have z1 : w1.frozen? ⟨w.heap.size + 1, 1, none⟩ = false := frozen_of_row _ _ 1 _ _ e2
  have E2 := Lib.hid e2; clear e2
  go_wp2
  refine bodyPost_ret (results_cell_row rfl _ _ _ 61 #[.slice q1 m1 c1', .slice q2 m2 c2'] (0, 0) _ rfl (hss (hss E2.out)) Try.underlying61 rfl hi) rfl ⟨q1, m1, c1', q2, m2, c2', g1, g2, rfl, ?_, ?_, ((bl (hB _ _) hb (by simp; omega)).setCell (by simp) _).setCell (by simp) _⟩
  · exact owns_mono (owns_set (owns_set HO1.out (by simp)) (by simp)) (by simp; omega)
  · exact owns_mono (owns_set (owns_set HO2.out (by simp)) (by simp)) (by simp; omega)
/-- a row, normed -/
def normS (r : List UInt8 × List UInt8) : List UInt8 × List UInt8 :=
  if atS r.1 (leadS r.1) = 0 then r else (r.1.map (Gf.gmul (Gf.ginv (atS r.1 (leadS r.1)))), r.2.map (Gf.gmul (Gf.ginv (atS r.1 (leadS r.1)))))
set_option maxRecDepth 100000 in
set_option maxHeartbeats 1000000 in
theorem Norm_any (p1 p2 : Option Addr) (n1 c1 n2 c2 : Nat) (v d : List UInt8) (w : World) (h1 : Sl B8 w p1 n1 c1 v) (h2 : Sl B8 w p2 n2 c2 d) (r1 : Room n1) (r2 : Room n2) :
    Calls Try.prog 64 #[.agg #[.slice p1 n1 c1, .slice p2 n2 c2]] w (RetR 5 w (normS (v, d))) := by
  have hi := info_row
  have H1 := Lib.hid h1; have H2 := Lib.hid h2; clear h1 h2
  obtain ⟨L, hL⟩ : ∃ L, L = leadS v := ⟨_, rfl⟩
  obtain ⟨a, ha⟩ : ∃ a, a = atS v L := ⟨_, rfl⟩
  have HL := Lib.hid hL; have HA := Lib.hid ha
  have CL : ∀ W, Below w.heap.size w W → Calls Try.prog 62 #[.slice p1 n1 c1] W fun e w' => e = .returned (.int .i64 L) ∧ W = w' := fun W hW => by rw [hL]; exact Lead_any _ _ _ v W (H1.out.keep hW)
  have CA : ∀ W, Below w.heap.size w W → Calls Try.prog 61 #[.slice p1 n1 c1, .int .i64 L] W fun e w' => e = .returned (B8 a) ∧ W = w' := fun W hW => by rw [ha]; exact At_any _ _ _ v L W (H1.out.keep hW)
  have HCL := Lib.hid CL; have HCA := Lib.hid CA
  clear CL CA hL ha
  have HN : Hid (normS (v, d) = if a = 0 then (v, d) else (v.map (Gf.gmul (Gf.ginv a)), d.map (Gf.gmul (Gf.ginv a)))) := by
    show _ = _
    simp only [normS, ← HL.out, ← HA.out]
  have hB : ∀ o1 o2 n, Below w.heap.size w (((w.alloc o1).alloc o2).drewN n) := fun o1 o2 n => (al (al (Below.refl _ _) (Nat.le_refl _)) (by simp) : Below w.heap.size w ((w.alloc o1).alloc o2)).trans ⟨rfl, rfl, rfl, Nat.le_refl _, fun _ _ => rfl⟩
  by_cases ha0 : a = 0
  · have hN := HN.out
    rw [if_pos ha0] at hN
    have HNN := Lib.hid hN
    have HI : Hid (∀ W, Calls Try.prog 89 #[B8 a] W fun e w' => e = .returned (.tuple #[B8 0, .int .i64 3]) ∧ W = w') := fun W => by
      have := Inv_any a W
      rwa [show invRes a = (B8 0, 3) by simp [invRes, ha0]] at this
    clear ha0 hN HN
    go_enter Try.func64, Try.ntmps64
    go_wp2_with fail
    go_quiet ((first
      | (go_at_call 62; exact qs (HCL.out _ (hB _ _ _)))
      | (go_at_call 61; exact qs (HCA.out _ (hB _ _ _)))
      | (go_at_call 89; exact qs (HI.out _))))
    have hB' := Lib.hid (hB (.cells #[.slice p1 n1 c1, .slice p2 n2 c2] 61) (.cells #[.slice none 0 0, .slice none 0 0] 61) nq)
    clear hB
    go_wp2_with fail
    refine (RClone_any _ _ _ _ _ _ v d _ (H1.out.keep hB'.out) (H2.out.keep hB'.out) r1 r2).mono ?_; rintro e w1 ⟨q1, m1, c1', q2, m2, c2', g1, g2, rfl, ho1, ho2, hb⟩
    have HO1 := Lib.hid ho1; have HO2 := Lib.hid ho2; clear ho1 ho2
    have e2 : w1.heap[w.heap.size + 1]? = some (.cells #[.slice none 0 0, .slice none 0 0] 61 (0, 0)) := by
      rw [hb.block _ (by simp)]; exact hnew (w := w.alloc _) (by simp)
    have f0 : w1.cell? ⟨w.heap.size + 1, 0, none⟩ = some (.slice none 0 0) := cell_of_row _ _ 0 _ _ _ e2
    have f1 : w1.cell? ⟨w.heap.size + 1, 1, none⟩ = some (.slice none 0 0) := cell_of_row _ _ 1 _ _ _ e2
    have z0 : w1.frozen? ⟨w.heap.size + 1, 0, none⟩ = false := frozen_of_row _ _ 0 _ _ e2
    have z1 : w1.frozen? ⟨w.heap.size + 1, 1, none⟩ = false := frozen_of_row _ _ 1 _ _ e2
    have E2 := Lib.hid e2; clear e2
    go_wp2
    rw [HNN.out]
    refine bodyPost_ret (results_cell_row rfl _ _ _ 61 #[.slice q1 m1 c1', .slice q2 m2 c2'] (0, 0) _ rfl (hss (hss E2.out)) Try.underlying61 rfl hi) rfl ⟨q1, m1, c1', q2, m2, c2', g1, g2, rfl, ?_, ?_, ((bl hB'.out hb (by simp; omega)).setCell (by simp) _).setCell (by simp) _⟩
    · exact owns_mono (owns_set (owns_set HO1.out (by simp)) (by simp)) (by simp; omega)
    · exact owns_mono (owns_set (owns_set HO2.out (by simp)) (by simp)) (by simp; omega)
  · have hN := HN.out
    rw [if_neg ha0] at hN
    have HNN := Lib.hid hN
    have HI : Hid (∀ W, Calls Try.prog 89 #[B8 a] W fun e w' => e = .returned (.tuple #[B8 (Gf.ginv a), .int .i64 0]) ∧ W = w') := fun W => by
      have := Inv_any a W
      rwa [show invRes a = (B8 (Gf.ginv a), 0) by simp [invRes, ha0]] at this
    clear ha0 hN HN
    generalize Gf.ginv a = g at *
    go_enter Try.func64, Try.ntmps64
    go_wp2_with fail
    go_quiet ((first
      | (go_at_call 62; exact qs (HCL.out _ (hB _ _ _)))
      | (go_at_call 61; exact qs (HCA.out _ (hB _ _ _)))
      | (go_at_call 89; exact qs (HI.out _))))
    have hB' := hB (.cells #[.slice p1 n1 c1, .slice p2 n2 c2] 61) (.cells #[.slice none 0 0, .slice none 0 0] 61) nq
    have e1 : (((w.alloc (.cells #[.slice p1 n1 c1, .slice p2 n2 c2] 61)).alloc (.cells #[.slice none 0 0, .slice none 0 0] 61)).drewN nq).heap[w.heap.size]? = some (.cells #[.slice p1 n1 c1, .slice p2 n2 c2] 61 (0, 0)) := hal (hnew rfl)
    have e2 : (((w.alloc (.cells #[.slice p1 n1 c1, .slice p2 n2 c2] 61)).alloc (.cells #[.slice none 0 0, .slice none 0 0] 61)).drewN nq).heap[w.heap.size + 1]? = some (.cells #[.slice none 0 0, .slice none 0 0] 61 (0, 0)) := hnew (w := w.alloc _) (by simp)
    have esz : w.heap.size + 2 ≤ (((w.alloc (.cells #[.slice p1 n1 c1, .slice p2 n2 c2] 61)).alloc (.cells #[.slice none 0 0, .slice none 0 0] 61)).drewN nq).heap.size := by simp
    clear hB
    go_wp2_with fail
    generalize ((w.alloc (.cells #[.slice p1 n1 c1, .slice p2 n2 c2] 61)).alloc (.cells #[.slice none 0 0, .slice none 0 0] 61)).drewN nq = W at *
    have R0 : ∀ W', Below (w.heap.size + 2) W W' → W'.cell? ⟨w.heap.size, 0, none⟩ = some (.slice p1 n1 c1) := fun W' h => cell_of_row _ _ 0 _ _ _ ((h.block _ (by omega)).trans e1)
    have R1 : ∀ W', Below (w.heap.size + 2) W W' → W'.cell? ⟨w.heap.size, 1, none⟩ = some (.slice p2 n2 c2) := fun W' h => cell_of_row _ _ 1 _ _ _ ((h.block _ (by omega)).trans e1)
    have R2 : ∀ W', Below (w.heap.size + 2) W W' → W'.cell? ⟨w.heap.size + 1, 0, none⟩ = some (.slice none 0 0) := fun W' h => cell_of_row _ _ 0 _ _ _ ((h.block _ (by omega)).trans e2)
    have R3 : ∀ W', Below (w.heap.size + 2) W W' → W'.cell? ⟨w.heap.size + 1, 1, none⟩ = some (.slice none 0 0) := fun W' h => cell_of_row _ _ 1 _ _ _ ((h.block _ (by omega)).trans e2)
    have Z2 : ∀ W', Below (w.heap.size + 2) W W' → W'.frozen? ⟨w.heap.size + 1, 0, none⟩ = false := fun W' h => frozen_of_row _ _ 0 _ _ ((h.block _ (by omega)).trans e2)
    have Z3 : ∀ W', Below (w.heap.size + 2) W W' → W'.frozen? ⟨w.heap.size + 1, 1, none⟩ = false := fun W' h => frozen_of_row _ _ 1 _ _ ((h.block _ (by omega)).trans e2)
    have E2 := Lib.hid e2
    clear e1 e2
    have hd : Below (w.heap.size + 2) W W.drew := (Below.refl _ _).drew
    have C1 : Hid (∀ W', Below (w.heap.size + 2) W W' → Calls Try.prog 90 #[B8 g, .slice p1 n1 c1] W' (RetB1 5 W' (v.map (Gf.gmul g)))) := fun W' h => Scale_any g p1 n1 c1 v W' (H1.out.keep (hB'.trans (h.mono (by omega)))) r1
    have C2 : Hid (∀ W', Below (w.heap.size + 2) W W' → Calls Try.prog 90 #[B8 g, .slice p2 n2 c2] W' (RetB1 5 W' (d.map (Gf.gmul g)))) := fun W' h => Scale_any g p2 n2 c2 d W' (H2.out.keep (hB'.trans (h.mono (by omega)))) r2
    have hB2 := Lib.hid hB'
    clear hB'
    go_region_with (first
      | (go_at_call 90; (with_reducible refine Calls.mono (C1.out _ (by assumption)) ?_); rintro e w1 ⟨q1, m1, c1', hm1, rfl, ho1, hb1⟩; have hw1 := stp (by assumption) hb1 rfl esz)
      | (go_at_call 90; (with_reducible refine Calls.mono (C2.out _ (by assumption)) ?_); rintro e w2 ⟨q2, m2, c2', hm2, rfl, ho2, hb2⟩; have hw2 := stp (by assumption) hb2 rfl esz))
    all_goals go_wp2
    all_goals rw [HNN.out]
    all_goals first
      | (refine bodyPost_ret (results_cell_row rfl _ _ _ 61 #[.slice q1 m1 c1', .slice q2 m2 c2'] (0, 0) _ rfl (hss (hss ((hw2.block _ (by omega)).trans E2.out))) Try.underlying61 rfl hi) rfl ⟨q1, m1, c1', q2, m2, c2', hm1, hm2, rfl, owns_mono (owns_set (owns_set (owns_keep ho1 hb2) (show w.heap.size + 1 < _ by have := hw1.size; simp; omega)) (show w.heap.size + 1 < _ by have := hw1.size; simp; omega)) (by have := hw1.size; simp; omega), owns_mono (owns_set (owns_set ho2 (show w.heap.size + 1 < _ by have := hw1.size; simp; omega)) (show w.heap.size + 1 < _ by have := hw1.size; simp; omega)) (by have := hw1.size; simp; omega), ((hB2.out.trans (hw2.mono (by omega))).setCell (by simp) _).setCell (by simp) _⟩)
      | (refine bodyPost_ret (results_cell_row rfl _ _ _ 61 #[.slice q1 m1 c1', .slice q2 m2 c2'] (0, 0) _ rfl (hss (hss ((hw1.block _ (by omega)).trans E2.out))) Try.underlying61 rfl hi) rfl ⟨q1, m1, c1', q2, m2, c2', hm1, hm2, rfl, owns_mono (owns_set (owns_set ho1 (show w.heap.size + 1 < _ by have := hw2.size; simp; omega)) (show w.heap.size + 1 < _ by have := hw2.size; simp; omega)) (by have := hw2.size; simp; omega), owns_mono (owns_set (owns_set (owns_keep ho2 hb1) (show w.heap.size + 1 < _ by have := hw2.size; simp; omega)) (show w.heap.size + 1 < _ by have := hw2.size; simp; omega)) (by have := hw2.size; simp; omega), ((hB2.out.trans (hw1.mono (by omega))).setCell (by simp) _).setCell (by simp) _⟩)
end Go.Proofs.Ytofhdakggapahaa
