/- The contract of the reference's Insert. The contract of the reference's Turned. The contract of the reference's Rank. Determinants by the first row, over the field of 256 elements: linear in each row, nought where two rows are the same; what row steps do to them. Gauss-Jordan on rows with data: what each step keeps. slices.IndexFunc of rows; the closure of Inverse. The rows of Inverse in memory: one block of n rows. Rows that lead, reduced: what they span tells them; a row more, as a system of equations puts it. A row more into reduced rows (putF); reduced rows out of rows that lead by rising places (backB); both are the same. -/
import Derived.Test.YtbfmdfbnhakolaaGreatDoorZq3
import Derived.Deep.AppendLies
namespace Go.By
open Go.RowKit
theorem fl2_take (vs : List (Value × Value)) : ∀ k, fl2 (vs.take k) = (fl2 vs).take (k * 2) := by
  induction vs with
  | nil => intro k; simp [fl2]
  | cons v vs ih =>
    intro k
    cases k with
    | zero => simp [fl2]
    | succ k =>
      rw [List.take_succ_cons, show (k + 1) * 2 = k * 2 + 2 by omega]
      show v.1 :: v.2 :: fl2 (vs.take k) = (v.1 :: v.2 :: fl2 vs).take (k * 2 + 2)
      rw [List.take_succ_cons, List.take_succ_cons, ih k]
theorem fl2_drop (vs : List (Value × Value)) : ∀ k, fl2 (vs.drop k) = (fl2 vs).drop (k * 2) := by
  induction vs with
  | nil => intro k; simp [fl2]
  | cons v vs ih =>
    intro k
    cases k with
    | zero => simp [fl2]
    | succ k =>
      rw [List.drop_succ_cons, show (k + 1) * 2 = k * 2 + 2 by omega]
      show fl2 (vs.drop k) = (v.1 :: v.2 :: fl2 vs).drop (k * 2 + 2)
      rw [List.drop_succ_cons, List.drop_succ_cons, ih k]
section
variable {w : World} {p : Option Addr} {n c j : Nat} {vs : List (Value × Value)}
theorem RwV.take (h : RwV w p n c vs) (hj : j ≤ n) : RwV w p j c (vs.take j) := by
  refine ⟨by rw [List.length_take, h.len]; omega, by have := h.le; omega, h.max, fun e => by have := h.nil e; omega, fun i u hi => ?_, fun u hu => ?_⟩
  · rw [fl2_take, List.getElem?_take] at hi
    split at hi
    · exact h.cell i u hi
    · cases hi
  · rw [fl2_take] at hu; exact h.one u (List.mem_of_mem_take hu)
theorem RwV.drop {b o : Nat} (h : RwV w (some ⟨b, o, none⟩) n c vs) (hj : j ≤ n) : RwV w (some ⟨b, o + j * 2, none⟩) (n - j) (c - j) (vs.drop j) := by
  refine ⟨by rw [List.length_drop, h.len], by have := h.le; omega, by have := h.max; omega, fun e => (by cases e), fun i u hi => ?_, fun u hu => ?_⟩
  · rw [fl2_drop, List.getElem?_drop] at hi
    obtain ⟨b', o', e, hc⟩ := h.cell (j * 2 + i) u hi
    cases e
    exact ⟨b, o + j * 2, rfl, by rw [show o + j * 2 + i = o + (j * 2 + i) by omega]; exact hc⟩
  · rw [fl2_drop] at hu; exact h.one u (List.mem_of_mem_drop hu)
theorem RwV.none (hp : p = none → c = 0) (hm : c ≤ maxLen) : RwV w p 0 c [] := ⟨rfl, Nat.zero_le _, hm, fun e => ⟨rfl, hp e⟩, fun i u h => by simp [fl2] at h, fun u h => by simp [fl2] at h⟩
/-- bytes lie in no block of slices -/
theorem Sl.away {g T : Nat} {fr : Nat × Nat} {p1 p2 q : Option Addr} {n1 c1 n2 c2 m k : Nat} {xs : List UInt8} (h : Sl B8 w q m k xs) (hg : w.heap[g]? = some (.cells #[.slice p1 n1 c1, .slice p2 n2 c2] T fr)) (h0 : 0 < m) : ∀ a, q = some a → a.block ≠ g := by
  intro a ha e
  obtain ⟨b, o, hp, hc⟩ := h.rs 0 (by rw [h.len]; exact h0)
  rw [hp] at ha; cases ha
  have e' : b = g := e
  subst e'
  rw [cell_of_row _ _ _ _ _ _ hg] at hc
  rcases ho : o + 0 with _ | _ | x
  · rw [ho] at hc; simp at hc
  · rw [ho] at hc; simp at hc
  · rw [ho] at hc; simp at hc
theorem two_cells {W : World} {u v : Value} {T g : Nat} (hg : g = W.heap.size) : ∀ (j : Nat) (y : Value), [u, v][j]? = some y → (W.alloc (.cells #[u, v] T)).cell? ((⟨g, 0, none⟩ : Addr).add j) = some y := by
  intro j y hj
  rw [Addr.add_lit, Nat.zero_add, cell_of_row _ _ j _ _ _ (hnew hg)]
  match j with
  | 0 => simpa using hj
  | 1 => simpa using hj
  | j + 2 => simp at hj
theorem two_ones (q1 q2 : Option Addr) (n1 c1 n2 c2 : Nat) : ∀ u, u ∈ [Value.slice q1 n1 c1, Value.slice q2 n2 c2] → u.oneCell' = true := by
  intro u hu; simp at hu; rcases hu with rfl | rfl <;> rfl
/-- what is owned reads so -/
theorem RwS.of_owns {base T n c : Nat} {q : Option Addr} {vs : List (Value × Value)} {K : List (List UInt8 × List UInt8)} (h : w.ownsRow base T 2 (.slice q n c) n (fl2 vs)) (hl : K.length = n) (hv : ∀ (j : Nat) (k : List UInt8 × List UInt8), K[j]? = some k → ∃ u, vs[j]? = some u ∧ RwP w u k) : RwS w q n c K := by
  rcases h.2 with ⟨h1, h2⟩ | ⟨g, cap, cur, h1, _, _, h3, h4, _⟩
  · cases h1
    have : K = [] := List.length_eq_zero_iff.1 (by omega)
    subst this
    exact ⟨hl, Nat.le_of_eq h2, by simp [maxLen], fun _ => ⟨h2, rfl⟩, fun j k hk => by simp at hk⟩
  · cases h1
    refine ⟨hl, h3, h4, fun e => (by cases e), fun j k hk => ?_⟩
    obtain ⟨u, hu, q1, m1, c1, q2, m2, c2, rfl, s1, s2⟩ := hv j k hk
    have hj := (List.getElem?_eq_some_iff.1 hk).1
    obtain ⟨g1, g2⟩ := fl2_at hu
    refine ⟨g, 0, q1, m1, c1, q2, m2, c2, rfl, ?_, ?_, s1, s2⟩
    · rw [Nat.zero_add, h.cellAt _ (by omega), g1]
    · rw [Nat.zero_add, h.cellAt _ (by omega), g2]
/-- rows in new memory: W the world ahead of it -/
def RwN (W w : World) (T : TypeId) (q : Option Addr) (n c : Nat) (K : List (List UInt8 × List UInt8)) : Prop :=
  Below W.heap.size W w ∧ K.length = n ∧ ∃ vs : List (Value × Value), w.ownsRow W.heap.size T 2 (.slice q n c) n (fl2 vs) ∧ ∀ (j : Nat) (k : List UInt8 × List UInt8), K[j]? = some k → ∃ u, vs[j]? = some u ∧ RwP W u k
theorem RwN.rwS {W : World} {T n c : Nat} {q : Option Addr} {K : List (List UInt8 × List UInt8)} (h : RwN W w T q n c K) : RwS w q n c K := by
  obtain ⟨hb, hl, vs, ho, hv⟩ := h
  exact RwS.of_owns ho hl fun j k hk => by obtain ⟨u, hu, hp⟩ := hv j k hk; exact ⟨u, hu, hp.keep hb⟩
end
end Go.By
namespace Go.Proofs.YtbfmdfbnhakolaaGreatDoor
open Go.RowKit Go.By
/-- rows in memory, as many as they are -/
def RetK (w : World) (K : List Rw) (e : Ending) (w' : World) : Prop := ∃ q n c, n = K.length ∧ e = .returned (.slice q n c) ∧ RwS w' q n c K ∧ Below w.heap.size w w'
/-- .. and where they lie: where they lay before, or in new memory -/
def RetKO (w : World) (v0 : Value) (K : List Rw) (e : Ending) (w' : World) : Prop := ∃ q n c, n = K.length ∧ e = .returned (.slice q n c) ∧ RwS w' q n c K ∧ Below w.heap.size w w' ∧ (Value.slice q n c = v0 ∨ ∃ W, w.heap.size ≤ W.heap.size ∧ RwN W w' 50 q n c K)
theorem info_rrow : (Tryz.prog.info? 50).map (fun i => (i.zero, i.size, i.bytes)) = some (some (.agg #[.slice none 0 0, .slice none 0 0]), 2, 48) := by kernel_rfl
theorem take_while_at {α : Type} {p : α → Bool} : ∀ {l : List α} {j : Nat}, j ≤ l.length → (∀ i a, i < j → l[i]? = some a → p a = true) → (∀ a, l[j]? = some a → p a = false) → l.takeWhile p = l.take j ∧ l.dropWhile p = l.drop j
  | [], 0, _, _, _ => ⟨rfl, rfl⟩
  | b :: l, 0, _, _, h => by
    have := h b rfl
    simp [List.takeWhile_cons, List.dropWhile_cons, this]
  | b :: l, j + 1, hl, h1, h2 => by
    have hb := h1 0 b (by omega) rfl
    obtain ⟨g1, g2⟩ := take_while_at (l := l) (j := j) (by simpa using hl) (fun i a hi ha => h1 (i + 1) a (by omega) (by simpa using ha)) (fun a ha => h2 a (by simpa using ha))
    simp [List.takeWhile_cons, List.dropWhile_cons, hb, g1, g2]
set_option maxRecDepth 100000 in
set_option maxHeartbeats 4000000 in
theorem Insert_own (wd t : Nat) (pk : Option Addr) (nk ck : Nat) (K : List Rw) (p1 p2 : Option Addr) (n1 c1 n2 c2 : Nat) (x : Rw) (w : World) (hK : RwS w pk nk ck K) (s1 : Sl B8 w p1 n1 c1 x.1) (s2 : Sl B8 w p2 n2 c2 x.2)
    (hfit : ∀ k, k ∈ K → Fit wd t k ∧ Led k) (hx : Fit wd t x) (hr1 : Room wd) (hr2 : Room t) (hnk : nk ≤ 65535) :
    Calls Tryz.prog 25 #[.slice pk nk ck, .agg #[.slice p1 n1 c1, .slice p2 n2 c2]] w (RetKO w (.slice pk nk ck) (insF K x)) := by
  obtain ⟨r0, hr0, hrz, hr1', hr2'⟩ := info_parts info_rrow
  have HRS := Lib.hid (fun W a b c => Rest_any wd t pk nk ck K p1 p2 n1 c1 n2 c2 x W a b c hfit hx hr1 hr2 (by omega))
  have fitR := hx.rest (fun k hk => (hfit k hk).1)
  obtain ⟨XR, hXR⟩ : ∃ XR, XR = restF K x := ⟨_, rfl⟩
  rw [← hXR] at HRS fitR
  obtain ⟨Y, hY⟩ : ∃ Y, Y = normS XR := ⟨_, rfl⟩
  have HNM : Hid (∀ W q1 m1 g1 q2 m2 g2, Sl B8 W q1 m1 g1 XR.1 → Sl B8 W q2 m2 g2 XR.2 → Calls Tryz.prog 50 #[.agg #[.slice q1 m1 g1, .slice q2 m2 g2]] W (RetS W Y)) := fun W q1 m1 g1 q2 m2 g2 a b => by
    rw [hY]
    exact RNorm_any q1 q2 m1 g1 m2 g2 XR.1 XR.2 W a b (by rw [← a.len, fitR.1]; exact hr1) (by rw [← b.len, fitR.2]; exact hr2)
  have HINS : Hid (insF K x = if leadS Y.1 < 0 then K else K.takeWhile (fun r => decide (leadS r.1 < leadS Y.1)) ++ Y :: K.dropWhile (fun r => decide (leadS r.1 < leadS Y.1))) := by show _ = _; rw [hY, hXR]; rfl
  have HK := Lib.hid hK; have S1 := Lib.hid s1; have S2 := Lib.hid s2; have HLEN := Lib.hid hK.len
  have HB0 : Hid (∀ o1, Below w.heap.size w (w.alloc o1)) := fun o1 => al (Below.refl _ _) (Nat.le_refl _)
  obtain ⟨LY, hLY⟩ : ∃ LY, LY = leadS Y.1 := ⟨_, rfl⟩
  have HLY := Lib.hid hLY
  rw [← hLY] at HINS
  clear hK s1 s2 hfit hx hr1 hr2 hXR hY fitR hLY
  go_enter Tryz.func25, Tryz.ntmps25
  go_wp2_with fail
  refine Calls.mono (HRS.out _ (HK.out.keep (HB0.out _)) (S1.out.keep (HB0.out _)) (S2.out.keep (HB0.out _))) ?_
  rintro e w1 ⟨q1, m1, g1, q2, m2, g2, rfl, sA, sB, hb1⟩
  have X1 : Hid (w1.heap[w.heap.size]? = some (.cells #[.slice p1 n1 c1, .slice p2 n2 c2] 50 (0, 0))) := (hb1.block _ (by simp)).trans (hnew rfl)
  have B1 : Hid (Below w.heap.size w w1) := bl (HB0.out _) hb1 (by simp)
  have SA := Lib.hid sA; have SB := Lib.hid sB
  clear sA sB hb1 HB0 HRS
  go_wp2_with fail
  refine Calls.mono (HNM.out _ _ _ _ _ _ _ SA.out SB.out) ?_
  rintro e w2 ⟨q5, m5, g5, q6, m6, g6, rfl, s5, s6, hb2⟩
  have X2 : Hid (w2.heap[w.heap.size]? = some (.cells #[.slice p1 n1 c1, .slice p2 n2 c2] 50 (0, 0))) := (hb2.block _ (blk_lt X1.out)).trans X1.out
  have B2 : Hid (Below w.heap.size w w2) := bl B1.out hb2 B1.out.size
  have a5 := fun h => s5.away X2.out h
  have a6 := fun h => s6.away X2.out h
  have N3 : Hid (((w2.setCell ⟨w.heap.size, 0, none⟩ (.slice q5 m5 g5)).setCell ⟨w.heap.size, 1, none⟩ (.slice q6 m6 g6)).heap[w.heap.size]? = some (.cells #[.slice q5 m5 g5, .slice q6 m6 g6] 50 (0, 0)) ∧
      Sl B8 ((w2.setCell ⟨w.heap.size, 0, none⟩ (.slice q5 m5 g5)).setCell ⟨w.heap.size, 1, none⟩ (.slice q6 m6 g6)) q5 m5 g5 Y.1 ∧ Sl B8 ((w2.setCell ⟨w.heap.size, 0, none⟩ (.slice q5 m5 g5)).setCell ⟨w.heap.size, 1, none⟩ (.slice q6 m6 g6)) q6 m6 g6 Y.2 ∧
      Below w.heap.size w ((w2.setCell ⟨w.heap.size, 0, none⟩ (.slice q5 m5 g5)).setCell ⟨w.heap.size, 1, none⟩ (.slice q6 m6 g6))) :=
    ⟨hss (hss X2.out), (s5.set2 a5).set2 a5, (s6.set2 a6).set2 a6, (B2.out.setCell (Nat.le_refl _) _).setCell (Nat.le_refl _) _⟩
  obtain ⟨d0, d1⟩ := cells2 X2.out
  have f0 : w2.frozen? ⟨w.heap.size, 0, none⟩ = false := frozen_of_row _ _ 0 _ _ X2.out
  have f1 : w2.frozen? ⟨w.heap.size, 1, none⟩ = false := frozen_of_row _ _ 1 _ _ X2.out
  clear s5 s6 hb2 a5 a6 X1 B1 SA SB HNM B2
  go_wp2_with fail
  generalize (w2.setCell ⟨w.heap.size, 0, none⟩ (.slice q5 m5 g5)).setCell ⟨w.heap.size, 1, none⟩ (.slice q6 m6 g6) = w3 at N3 ⊢
  have HLD : Hid (∀ W, Sl B8 W q5 m5 g5 Y.1 → Calls Tryz.prog 52 #[.slice q5 m5 g5] W fun e w' => e = .returned (.int .i64 LY) ∧ W = w') := fun W h => by rw [HLY.out]; exact RLead_any _ _ _ _ W h
  refine Calls.mono (HLD.out _ N3.out.2.1) ?_
  rintro e w' ⟨rfl, rfl⟩
  clear d0 d1 f0 f1 X2 w2
  by_cases hneg : LY < 0
  · have HRK : Hid (RetKO w (.slice pk nk ck) (insF K x) (.returned (.slice pk nk ck)) w3) := by
      show RetKO _ _ _ _ _
      rw [HINS.out, if_pos hneg]
      exact ⟨pk, nk, ck, HLEN.out.symm, rfl, HK.out.keep N3.out.2.2.2, N3.out.2.2.2, .inl rfl⟩
    go_wp2
    go_ret
    exact HRK.out
  · have hpos : 0 ≤ LY := by omega
    clear hneg
    go_wp2
    go_loopw [5] (fun i wr => ∃ j : Nat, j ≤ nk ∧ i = .int .i64 j ∧ Hid (Below w3.heap.size w3 wr) ∧ Hid (∀ (i : Nat) (k : Rw), i < j → K[i]? = some k → leadS k.1 < LY)) (fun i _ => nk - (intOf i).toNat)
    case atStart => exact ⟨0, Nat.zero_le _, rfl, Below.refl _ _, fun i k hi => by omega⟩
    case round =>
      obtain ⟨j, hj, rfl, HQ, HP⟩ := hrel
      by_cases hjl : j < nk
      · obtain ⟨kk, hkk⟩ : ∃ kk, K[j]? = some kk := ⟨_, List.getElem?_eq_getElem (by rw [HLEN.out]; exact hjl)⟩
        obtain ⟨bk, ok, a1, b1, d1, a2, b2, d2, rfl, e1, e2, t1, t2⟩ := HK.out.row j kk hkk
        have hwr : Below w.heap.size w wr := bl N3.out.2.2.2 HQ.out N3.out.2.2.2.size
        have E1 := (hwr.cell (p := ⟨bk, ok + j * 2, none⟩) (lt_of_cell e1)).trans e1
        have T1 := Lib.hid (t1.keep hwr)
        have YQ := Lib.hid (N3.out.2.1.keep HQ.out)
        obtain ⟨y0, y1⟩ := cells2 ((HQ.out.block _ (blk_lt N3.out.1)).trans N3.out.1)
        obtain ⟨LK, hLK⟩ : ∃ LK, LK = leadS kk.1 := ⟨_, rfl⟩
        have jn : (j : Int) < (nk : Int) := by omega
        have L1 : Hid (∀ W, Sl B8 W a1 b1 d1 kk.1 → Calls Tryz.prog 52 #[.slice a1 b1 d1] W fun e w' => e = .returned (.int .i64 LK) ∧ W = w') := fun W h => by rw [hLK]; exact RLead_any _ _ _ _ W h
        have size68 := info_rrow
        have HKK := Lib.hid hkk; have HLK := Lib.hid hLK
        clear hkk hLK e1 e2 t1 t2 y1 hwr
        by_cases hcmp : LK < LY
        · have HP2 : Hid (∀ (i : Nat) (k : Rw), i < j + 1 → K[i]? = some k → leadS k.1 < LY) := fun i k hi hk => by
            by_cases h : i < j
            · exact HP.out i k h hk
            · obtain rfl : i = j := by omega
              rw [HKK.out] at hk; cases hk
              rw [← HLK.out]; exact hcmp
          go_wp2_with fail
          refine wp_region_shapes (fun ix => ([.val (.int .i64 (j : Nat)), .val (.slice (some ⟨bk, ok, none⟩) nk ck), .val (.int .i64 (nk : Nat)), .val (.bool true), .val (.bool true), .val (.slice (some ⟨bk, ok, none⟩) nk ck), .val (.int .i64 (j : Nat)), .val (.pointer (some ⟨bk, ok + j * 2, none⟩)), .val (.pointer (some ⟨bk, ok + j * 2, none⟩)), .val (.slice a1 b1 d1), .val (.int .i64 LK), .val (.pointer (some ⟨w.heap.size, 0, none⟩)), .val (.slice q5 m5 g5), .val (.int .i64 LY), .val (.bool true), .val (.bool true)][ix]?).getD (.any)) 48 rfl (by kernel_rfl) (by decide) (by decide) (by decide) ?_ ?_
          · refine ⟨?_, ?_, ?_, ?_, ?_, ?_, ?_, ?_, ?_, ?_, ?_, ?_, ?_, ?_, ?_, ?_, trivial⟩
            · intro a W hb0 hs hp hi; have hb := undrew hb0; clear hb0
              have t5 : sl a 5 = .int .i64 (j : Nat) := hi 5 (by decide)
              exact ite_y rfl (wp_val (sl a 5) rfl ⟨_, rfl, Below.refl _ _, t5⟩)
            · intro a W hb0 hs hp hi; have hb := undrew hb0; clear hb0
              have t0 : sl a 0 = .slice (some ⟨bk, ok, none⟩) nk ck := hi 0 (by decide)
              exact ite_y rfl (wp_val (sl a 0) rfl ⟨_, rfl, Below.refl _ _, t0⟩)
            · intro a W hb0 hs hp hi; have hb := undrew hb0; clear hb0
              have t17 : sl a 17 = .slice (some ⟨bk, ok, none⟩) nk ck := hp 1 (by decide)
              refine ite_y rfl (wp_val (.int .i64 (nk : Nat)) ?_ ?_)
              · simp only [execOp, resolve, List.map_toArray, List.map, eval_tmp, eval_func, eval_const, t17]; simp [go_sem]
              · exact ⟨_, rfl, Below.refl _ _, rfl⟩
            · intro a W hb0 hs hp hi; have hb := undrew hb0; clear hb0
              have t16 : sl a 16 = .int .i64 (j : Nat) := hp 0 (by decide)
              have t18 : sl a 18 = .int .i64 (nk : Nat) := hp 2 (by decide)
              refine ite_y rfl (wp_val (.bool true) ?_ ?_)
              · simp only [execOp, eval_tmp, eval_const, t16, t18]; simp [go_sem, jn, hjl]
              · exact ⟨_, rfl, Below.refl _ _, rfl⟩
            · intro a W hb0 hs hp hi; have hb := undrew hb0; clear hb0
              have t19 : sl a 19 = .bool true := hp 3 (by decide)
              exact ite_y rfl (wp_val (sl a 19) rfl ⟨_, rfl, Below.refl _ _, t19⟩)
            · intro a W hb0 hs hp hi; have hb := undrew hb0; clear hb0
              have tg : sl a 20 = .bool true := hp 4 (by decide)
              have t0 : sl a 0 = .slice (some ⟨bk, ok, none⟩) nk ck := hi 0 (by decide)
              exact ite_y (wanted_yes rfl rfl (by have hz : a.tmps.size = 48 := hs; rw [hz]; decide) tg) (wp_val (sl a 0) rfl ⟨_, rfl, Below.refl _ _, t0⟩)
            · intro a W hb0 hs hp hi; have hb := undrew hb0; clear hb0
              have tg : sl a 20 = .bool true := hp 4 (by decide)
              have t5 : sl a 5 = .int .i64 (j : Nat) := hi 5 (by decide)
              exact ite_y (wanted_yes rfl rfl (by have hz : a.tmps.size = 48 := hs; rw [hz]; decide) tg) (wp_val (sl a 5) rfl ⟨_, rfl, Below.refl _ _, t5⟩)
            · intro a W hb0 hs hp hi; have hb := undrew hb0; clear hb0
              have tg : sl a 20 = .bool true := hp 4 (by decide)
              have ti0 : sl a 21 = .slice (some ⟨bk, ok, none⟩) nk ck := hp 5 (by decide)
              have ti1 : sl a 22 = .int .i64 (j : Nat) := hp 6 (by decide)
              refine ite_y (wanted_yes rfl rfl (by have hz : a.tmps.size = 48 := hs; rw [hz]; decide) tg) (wp_val (.pointer (some ⟨bk, ok + j * 2, none⟩)) ?_ ?_)
              · simp only [execOp, eval_tmp, eval_const, ti0, ti1]; simp [go_sem, jn, hjl, size68]
              · exact ⟨_, rfl, Below.refl _ _, rfl⟩
            · intro a W hb0 hs hp hi; have hb := undrew hb0; clear hb0
              have tg : sl a 20 = .bool true := hp 4 (by decide)
              have t23 : sl a 23 = .pointer (some ⟨bk, ok + j * 2, none⟩) := hp 7 (by decide)
              refine ite_y (wanted_yes rfl rfl (by have hz : a.tmps.size = 48 := hs; rw [hz]; decide) tg) (wp_val (.pointer (some ⟨bk, ok + j * 2, none⟩)) ?_ ?_)
              · simp only [execOp, eval_tmp, eval_const, t23]; simp [go_sem]
              · exact ⟨_, rfl, Below.refl _ _, rfl⟩
            · intro a W hb0 hs hp hi; have hb := undrew hb0; clear hb0
              have tg : sl a 20 = .bool true := hp 4 (by decide)
              have tt : sl a 24 = .pointer (some ⟨bk, ok + j * 2, none⟩) := hp 8 (by decide)
              have dd := (hb.cell (p := ⟨bk, ok + j * 2, none⟩) (lt_of_cell E1)).trans E1
              refine ite_y (wanted_yes rfl rfl (by have hz : a.tmps.size = 48 := hs; rw [hz]; decide) tg) (wp_val (.slice a1 b1 d1) ?_ ?_)
              · simp only [execOp, eval_tmp, tt]; simp [go_sem, dd]
              · exact ⟨_, rfl, Below.refl _ _, rfl⟩
            · intro a W hb0 hs hp hi; have hb := undrew hb0; clear hb0
              have tg : sl a 20 = .bool true := hp 4 (by decide)
              have t25 : sl a 25 = .slice a1 b1 d1 := hp 9 (by decide)
              refine ite_y (wanted_yes rfl rfl (by have hz : a.tmps.size = 48 := hs; rw [hz]; decide) tg) (wp_enter 52 #[.slice a1 b1 d1] ?_ (L1.out _ (T1.out.keep hb)) ?_)
              · simp only [execOp, resolve, List.map_toArray, List.map, eval_tmp, eval_func, eval_const, t25]; simp [go_sem]
              · rintro e W' ⟨rfl, rfl⟩; exact ⟨_, rfl, _, rfl, Below.refl _ _, rfl⟩
            · intro a W hb0 hs hp hi; have hb := undrew hb0; clear hb0
              have tg : sl a 20 = .bool true := hp 4 (by decide)
              have t3 : sl a 3 = .pointer (some ⟨w.heap.size, 0, none⟩) := hi 3 (by decide)
              refine ite_y (wanted_yes rfl rfl (by have hz : a.tmps.size = 48 := hs; rw [hz]; decide) tg) (wp_val (.pointer (some ⟨w.heap.size, 0, none⟩)) ?_ ?_)
              · simp only [execOp, eval_tmp, eval_const, t3]; simp [go_sem]
              · exact ⟨_, rfl, Below.refl _ _, rfl⟩
            · intro a W hb0 hs hp hi; have hb := undrew hb0; clear hb0
              have tg : sl a 20 = .bool true := hp 4 (by decide)
              have tt : sl a 27 = .pointer (some ⟨w.heap.size, 0, none⟩) := hp 11 (by decide)
              have dd := (hb.cell (p := ⟨w.heap.size, 0, none⟩) (lt_of_cell y0)).trans y0
              refine ite_y (wanted_yes rfl rfl (by have hz : a.tmps.size = 48 := hs; rw [hz]; decide) tg) (wp_val (.slice q5 m5 g5) ?_ ?_)
              · simp only [execOp, eval_tmp, tt]; simp [go_sem, dd]
              · exact ⟨_, rfl, Below.refl _ _, rfl⟩
            · intro a W hb0 hs hp hi; have hb := undrew hb0; clear hb0
              have tg : sl a 20 = .bool true := hp 4 (by decide)
              have t28 : sl a 28 = .slice q5 m5 g5 := hp 12 (by decide)
              refine ite_y (wanted_yes rfl rfl (by have hz : a.tmps.size = 48 := hs; rw [hz]; decide) tg) (wp_enter 52 #[.slice q5 m5 g5] ?_ (HLD.out _ (YQ.out.keep hb)) ?_)
              · simp only [execOp, resolve, List.map_toArray, List.map, eval_tmp, eval_func, eval_const, t28]; simp [go_sem]
              · rintro e W' ⟨rfl, rfl⟩; exact ⟨_, rfl, _, rfl, Below.refl _ _, rfl⟩
            · intro a W hb0 hs hp hi; have hb := undrew hb0; clear hb0
              have tg : sl a 20 = .bool true := hp 4 (by decide)
              have t26 : sl a 26 = .int .i64 LK := hp 10 (by decide)
              have t29 : sl a 29 = .int .i64 LY := hp 13 (by decide)
              refine ite_y (wanted_yes rfl rfl (by have hz : a.tmps.size = 48 := hs; rw [hz]; decide) tg) (wp_val (.bool true) ?_ ?_)
              · simp only [execOp, eval_tmp, eval_const, t26, t29]; simp [go_sem, hcmp]
              · exact ⟨_, rfl, Below.refl _ _, rfl⟩
            · intro a W hb0 hs hp hi; have hb := undrew hb0; clear hb0
              have t20 : sl a 20 = .bool true := hp 4 (by decide)
              have t30 : sl a 30 = .bool true := hp 14 (by decide)
              refine ite_y rfl (wp_val (.bool true) ?_ ?_)
              · simp only [execOp, eval_tmp, eval_const, t20, t30]; simp [go_sem]
              · exact ⟨_, rfl, Below.refl _ _, rfl⟩
          · intro a w9 hb hs hd hI ht
            have ha := act_is [16, 17, 18, 19, 20, 21, 22, 23, 24, 25, 26, 27, 28, 29, 30, 31] hs hd ht (by decide)
            have t31 : sl a 31 = .bool true := hI 15 (by decide)
            simp only [List.foldl, t31] at ha
            generalize sl a 16 = u16 at ha
            generalize sl a 17 = u17 at ha
            generalize sl a 18 = u18 at ha
            generalize sl a 19 = u19 at ha
            generalize sl a 20 = u20 at ha
            generalize sl a 21 = u21 at ha
            generalize sl a 22 = u22 at ha
            generalize sl a 23 = u23 at ha
            generalize sl a 24 = u24 at ha
            generalize sl a 25 = u25 at ha
            generalize sl a 26 = u26 at ha
            generalize sl a 27 = u27 at ha
            generalize sl a 28 = u28 at ha
            generalize sl a 29 = u29 at ha
            generalize sl a 30 = u30 at ha
            simp only [Act.put, List.setIfInBounds_toArray, List.set_cons_zero, List.set_cons_succ] at ha
            rw [ha]; clear ha
            have HQ2 : Hid (Below w3.heap.size w3 w9) := bl HQ.out hb HQ.out.size
            clear hb hI E1 y0 T1 L1 YQ jn hcmp HP HQ
            go_wp2
            go_roundw
            case rel => exact ⟨j + 1, by omega, by go_num, HQ2.out, HP2.out⟩
            case measure => simp [intOf]; omega
        · have HSTOP : Hid (∀ a, K[j]? = some a → ¬ leadS a.1 < LY) := fun a ha => by rw [HKK.out] at ha; cases ha; rw [← HLK.out]; omega
          go_wp2_with fail
          refine wp_region_shapes (fun ix => ([.val (.int .i64 (j : Nat)), .val (.slice (some ⟨bk, ok, none⟩) nk ck), .val (.int .i64 (nk : Nat)), .val (.bool true), .val (.bool true), .val (.slice (some ⟨bk, ok, none⟩) nk ck), .val (.int .i64 (j : Nat)), .val (.pointer (some ⟨bk, ok + j * 2, none⟩)), .val (.pointer (some ⟨bk, ok + j * 2, none⟩)), .val (.slice a1 b1 d1), .val (.int .i64 LK), .val (.pointer (some ⟨w.heap.size, 0, none⟩)), .val (.slice q5 m5 g5), .val (.int .i64 LY), .val (.bool false), .val (.bool false)][ix]?).getD (.any)) 48 rfl (by kernel_rfl) (by decide) (by decide) (by decide) ?_ ?_
          · refine ⟨?_, ?_, ?_, ?_, ?_, ?_, ?_, ?_, ?_, ?_, ?_, ?_, ?_, ?_, ?_, ?_, trivial⟩
            · intro a W hb0 hs hp hi; have hb := undrew hb0; clear hb0
              have t5 : sl a 5 = .int .i64 (j : Nat) := hi 5 (by decide)
              exact ite_y rfl (wp_val (sl a 5) rfl ⟨_, rfl, Below.refl _ _, t5⟩)
            · intro a W hb0 hs hp hi; have hb := undrew hb0; clear hb0
              have t0 : sl a 0 = .slice (some ⟨bk, ok, none⟩) nk ck := hi 0 (by decide)
              exact ite_y rfl (wp_val (sl a 0) rfl ⟨_, rfl, Below.refl _ _, t0⟩)
            · intro a W hb0 hs hp hi; have hb := undrew hb0; clear hb0
              have t17 : sl a 17 = .slice (some ⟨bk, ok, none⟩) nk ck := hp 1 (by decide)
              refine ite_y rfl (wp_val (.int .i64 (nk : Nat)) ?_ ?_)
              · simp only [execOp, resolve, List.map_toArray, List.map, eval_tmp, eval_func, eval_const, t17]; simp [go_sem]
              · exact ⟨_, rfl, Below.refl _ _, rfl⟩
            · intro a W hb0 hs hp hi; have hb := undrew hb0; clear hb0
              have t16 : sl a 16 = .int .i64 (j : Nat) := hp 0 (by decide)
              have t18 : sl a 18 = .int .i64 (nk : Nat) := hp 2 (by decide)
              refine ite_y rfl (wp_val (.bool true) ?_ ?_)
              · simp only [execOp, eval_tmp, eval_const, t16, t18]; simp [go_sem, jn, hjl]
              · exact ⟨_, rfl, Below.refl _ _, rfl⟩
            · intro a W hb0 hs hp hi; have hb := undrew hb0; clear hb0
              have t19 : sl a 19 = .bool true := hp 3 (by decide)
              exact ite_y rfl (wp_val (sl a 19) rfl ⟨_, rfl, Below.refl _ _, t19⟩)
            · intro a W hb0 hs hp hi; have hb := undrew hb0; clear hb0
              have tg : sl a 20 = .bool true := hp 4 (by decide)
              have t0 : sl a 0 = .slice (some ⟨bk, ok, none⟩) nk ck := hi 0 (by decide)
              exact ite_y (wanted_yes rfl rfl (by have hz : a.tmps.size = 48 := hs; rw [hz]; decide) tg) (wp_val (sl a 0) rfl ⟨_, rfl, Below.refl _ _, t0⟩)
            · intro a W hb0 hs hp hi; have hb := undrew hb0; clear hb0
              have tg : sl a 20 = .bool true := hp 4 (by decide)
              have t5 : sl a 5 = .int .i64 (j : Nat) := hi 5 (by decide)
              exact ite_y (wanted_yes rfl rfl (by have hz : a.tmps.size = 48 := hs; rw [hz]; decide) tg) (wp_val (sl a 5) rfl ⟨_, rfl, Below.refl _ _, t5⟩)
            · intro a W hb0 hs hp hi; have hb := undrew hb0; clear hb0
              have tg : sl a 20 = .bool true := hp 4 (by decide)
              have ti0 : sl a 21 = .slice (some ⟨bk, ok, none⟩) nk ck := hp 5 (by decide)
              have ti1 : sl a 22 = .int .i64 (j : Nat) := hp 6 (by decide)
              refine ite_y (wanted_yes rfl rfl (by have hz : a.tmps.size = 48 := hs; rw [hz]; decide) tg) (wp_val (.pointer (some ⟨bk, ok + j * 2, none⟩)) ?_ ?_)
              · simp only [execOp, eval_tmp, eval_const, ti0, ti1]; simp [go_sem, jn, hjl, size68]
              · exact ⟨_, rfl, Below.refl _ _, rfl⟩
            · intro a W hb0 hs hp hi; have hb := undrew hb0; clear hb0
              have tg : sl a 20 = .bool true := hp 4 (by decide)
              have t23 : sl a 23 = .pointer (some ⟨bk, ok + j * 2, none⟩) := hp 7 (by decide)
              refine ite_y (wanted_yes rfl rfl (by have hz : a.tmps.size = 48 := hs; rw [hz]; decide) tg) (wp_val (.pointer (some ⟨bk, ok + j * 2, none⟩)) ?_ ?_)
              · simp only [execOp, eval_tmp, eval_const, t23]; simp [go_sem]
              · exact ⟨_, rfl, Below.refl _ _, rfl⟩
            · intro a W hb0 hs hp hi; have hb := undrew hb0; clear hb0
              have tg : sl a 20 = .bool true := hp 4 (by decide)
              have tt : sl a 24 = .pointer (some ⟨bk, ok + j * 2, none⟩) := hp 8 (by decide)
              have dd := (hb.cell (p := ⟨bk, ok + j * 2, none⟩) (lt_of_cell E1)).trans E1
              refine ite_y (wanted_yes rfl rfl (by have hz : a.tmps.size = 48 := hs; rw [hz]; decide) tg) (wp_val (.slice a1 b1 d1) ?_ ?_)
              · simp only [execOp, eval_tmp, tt]; simp [go_sem, dd]
              · exact ⟨_, rfl, Below.refl _ _, rfl⟩
            · intro a W hb0 hs hp hi; have hb := undrew hb0; clear hb0
              have tg : sl a 20 = .bool true := hp 4 (by decide)
              have t25 : sl a 25 = .slice a1 b1 d1 := hp 9 (by decide)
              refine ite_y (wanted_yes rfl rfl (by have hz : a.tmps.size = 48 := hs; rw [hz]; decide) tg) (wp_enter 52 #[.slice a1 b1 d1] ?_ (L1.out _ (T1.out.keep hb)) ?_)
              · simp only [execOp, resolve, List.map_toArray, List.map, eval_tmp, eval_func, eval_const, t25]; simp [go_sem]
              · rintro e W' ⟨rfl, rfl⟩; exact ⟨_, rfl, _, rfl, Below.refl _ _, rfl⟩
            · intro a W hb0 hs hp hi; have hb := undrew hb0; clear hb0
              have tg : sl a 20 = .bool true := hp 4 (by decide)
              have t3 : sl a 3 = .pointer (some ⟨w.heap.size, 0, none⟩) := hi 3 (by decide)
              refine ite_y (wanted_yes rfl rfl (by have hz : a.tmps.size = 48 := hs; rw [hz]; decide) tg) (wp_val (.pointer (some ⟨w.heap.size, 0, none⟩)) ?_ ?_)
              · simp only [execOp, eval_tmp, eval_const, t3]; simp [go_sem]
              · exact ⟨_, rfl, Below.refl _ _, rfl⟩
            · intro a W hb0 hs hp hi; have hb := undrew hb0; clear hb0
              have tg : sl a 20 = .bool true := hp 4 (by decide)
              have tt : sl a 27 = .pointer (some ⟨w.heap.size, 0, none⟩) := hp 11 (by decide)
              have dd := (hb.cell (p := ⟨w.heap.size, 0, none⟩) (lt_of_cell y0)).trans y0
              refine ite_y (wanted_yes rfl rfl (by have hz : a.tmps.size = 48 := hs; rw [hz]; decide) tg) (wp_val (.slice q5 m5 g5) ?_ ?_)
              · simp only [execOp, eval_tmp, tt]; simp [go_sem, dd]
              · exact ⟨_, rfl, Below.refl _ _, rfl⟩
            · intro a W hb0 hs hp hi; have hb := undrew hb0; clear hb0
              have tg : sl a 20 = .bool true := hp 4 (by decide)
              have t28 : sl a 28 = .slice q5 m5 g5 := hp 12 (by decide)
              refine ite_y (wanted_yes rfl rfl (by have hz : a.tmps.size = 48 := hs; rw [hz]; decide) tg) (wp_enter 52 #[.slice q5 m5 g5] ?_ (HLD.out _ (YQ.out.keep hb)) ?_)
              · simp only [execOp, resolve, List.map_toArray, List.map, eval_tmp, eval_func, eval_const, t28]; simp [go_sem]
              · rintro e W' ⟨rfl, rfl⟩; exact ⟨_, rfl, _, rfl, Below.refl _ _, rfl⟩
            · intro a W hb0 hs hp hi; have hb := undrew hb0; clear hb0
              have tg : sl a 20 = .bool true := hp 4 (by decide)
              have t26 : sl a 26 = .int .i64 LK := hp 10 (by decide)
              have t29 : sl a 29 = .int .i64 LY := hp 13 (by decide)
              refine ite_y (wanted_yes rfl rfl (by have hz : a.tmps.size = 48 := hs; rw [hz]; decide) tg) (wp_val (.bool false) ?_ ?_)
              · simp only [execOp, eval_tmp, eval_const, t26, t29]; simp [go_sem, hcmp]
              · exact ⟨_, rfl, Below.refl _ _, rfl⟩
            · intro a W hb0 hs hp hi; have hb := undrew hb0; clear hb0
              have t20 : sl a 20 = .bool true := hp 4 (by decide)
              have t30 : sl a 30 = .bool false := hp 14 (by decide)
              refine ite_y rfl (wp_val (.bool false) ?_ ?_)
              · simp only [execOp, eval_tmp, eval_const, t20, t30]; simp [go_sem]
              · exact ⟨_, rfl, Below.refl _ _, rfl⟩
          · intro a w9 hb hs hd hI ht
            have ha := act_is [16, 17, 18, 19, 20, 21, 22, 23, 24, 25, 26, 27, 28, 29, 30, 31] hs hd ht (by decide)
            have t31 : sl a 31 = .bool false := hI 15 (by decide)
            simp only [List.foldl, t31] at ha
            generalize sl a 16 = u16 at ha
            generalize sl a 17 = u17 at ha
            generalize sl a 18 = u18 at ha
            generalize sl a 19 = u19 at ha
            generalize sl a 20 = u20 at ha
            generalize sl a 21 = u21 at ha
            generalize sl a 22 = u22 at ha
            generalize sl a 23 = u23 at ha
            generalize sl a 24 = u24 at ha
            generalize sl a 25 = u25 at ha
            generalize sl a 26 = u26 at ha
            generalize sl a 27 = u27 at ha
            generalize sl a 28 = u28 at ha
            generalize sl a 29 = u29 at ha
            generalize sl a 30 = u30 at ha
            simp only [Act.put, List.setIfInBounds_toArray, List.set_cons_zero, List.set_cons_succ] at ha
            rw [ha]; clear ha
            obtain ⟨w4, hw4⟩ : ∃ w4, w4 = w9 := ⟨_, rfl⟩
            have h34 : Below w3.heap.size w3 w4 := by rw [hw4]; exact bl HQ.out hb HQ.out.size
            rw [← hw4]
            have X4 : Hid (w4.heap[w.heap.size]? = some (.cells #[.slice q5 m5 g5, .slice q6 m6 g6] 50 (0, 0))) := (h34.block _ (blk_lt N3.out.1)).trans N3.out.1
            have Y5 : Hid (Sl B8 w4 q5 m5 g5 Y.1) := N3.out.2.1.keep h34
            have Y6 : Hid (Sl B8 w4 q6 m6 g6 Y.2) := N3.out.2.2.1.keep h34
            have B4 : Hid (Below w.heap.size w w4) := bl N3.out.2.2.2 h34 N3.out.2.2.2.size
            obtain ⟨vs, hvs, hvk⟩ := (HK.out.keep B4.out).vals
            have VS := Lib.hid hvs; have VK := Lib.hid hvk
            have HRES : Hid (insF K x = K.take j ++ Y :: K.drop j) := by
              show _ = _
              obtain ⟨g1', g2'⟩ := take_while_at (p := fun r => decide (leadS r.1 < LY)) (l := K) (j := j) (by rw [HLEN.out]; exact hj) (fun i a hi ha => decide_eq_true (HP.out i a hi ha)) (fun a ha => decide_eq_false (by have := HSTOP.out a ha; omega))
              rw [HINS.out, if_neg (by omega), g1', g2']
            clear h34 hb hI hvs hvk N3 HP HSTOP HQ
            try clear E1 y0 T1 L1 YQ jn hcmp
            clear hw4
            have HT := Lib.hid (VS.out.take hj)
            have HD := Lib.hid (VS.out.drop hj)
            have hjc : j < ck := by have := HK.out.le; omega
            have hnc : nk ≤ ck := HK.out.le
            have hjj : j * 2 < ck * 2 := by omega
            have HUS : Hid (vs.drop j = vs.drop j) := rfl
            go_wp2_with (at_builtin; refine wpList_append_two w4 rfl (.tmp 34) (.tmp 37) 28 rfl w4.heap.size 50 r0 _ 48 Tryz.underlying28 hr0 hrz hr1' hr2' rfl (.slice none 0 0) 0 [] rfl (World.ownsRow_nil _ _ _ _) (some ⟨bk, ok, none⟩) j ck (vs.take j) rfl HT.out (by unfold maxLen; omega) (by omega) (Nat.le_refl _) ?_)
            intro v5 w5 ho5 hg5
            obtain ⟨qa, ca, rfl⟩ := owns_shape ho5
            try simp only [Nat.zero_add, List.nil_append] at ho5
            have BA : Hid (Below w4.heap.size w4 w5) := (Below.refl _ _).grown hg5 (Nat.le_refl _) (by simp [Value.ownBlock])
            have OA := Lib.hid ho5
            have X5 : Hid (w5.heap[w.heap.size]? = some (.cells #[.slice q5 m5 g5, .slice q6 m6 g6] 50 (0, 0))) := (BA.out.block _ (blk_lt X4.out)).trans X4.out
            obtain ⟨x0, x1⟩ := cells2 X5.out
            have OA2 : Hid (∀ o, (w5.alloc o).ownsRow w4.heap.size 50 2 (.slice qa j ca) j (fl2 (vs.take j))) := fun o => owns_keep OA.out (al (Below.refl _ _) (Nat.le_refl _))
            have sA := BA.out.size
            clear ho5 hg5
            try rw [Nat.zero_add]
            go_wp2_with (at_builtin; refine wpList_append_own _ rfl (.tmp 39) (.tmp 41) 28 rfl w4.heap.size 50 r0 _ 2 48 Tryz.underlying28 hr0 hrz hr1' hr2' rfl (by omega) _ j (fl2 (vs.take j)) rfl (OA2.out _) ⟨w5.heap.size, 0, none⟩ 1 1 [.slice q5 m5 g5, .slice q6 m6 g6] rfl rfl ?_ ?_ ?_ ?_ ?_ ?_)
            · intro j' y hj'
              rw [Addr.add_lit, Nat.zero_add, cell_of_row _ _ j' _ _ _ (hnew rfl)]
              match j' with
              | 0 => simpa using hj'
              | 1 => simpa using hj'
              | j' + 2 => simp at hj'
            · intro y hy; simp at hy; rcases hy with rfl | rfl <;> rfl
            · unfold maxLen; omega
            · omega
            · simp; omega
            intro v6 w6 ho6 hg6 _
            obtain ⟨qb, cb, rfl⟩ := owns_shape ho6
            have BB : Hid (Below w4.heap.size w4 w6) := (al BA.out sA).grown hg6 (by simp; omega) (fun kk hk => (OA.out.lt kk hk).1)
            have OB := Lib.hid ho6
            have HD6 := Lib.hid (HD.out.keep BB.out)
            have sB := BB.out.size
            clear ho6 hg6 x0 x1 OA2
            go_wp2_with (at_builtin; refine wpList_append_two w6 rfl (.tmp 43) (.tmp 46) 28 rfl w4.heap.size 50 r0 _ 48 Tryz.underlying28 hr0 hrz hr1' hr2' rfl (.slice qb (j + 1) cb) (j + 1) _ rfl OB.out (some ⟨bk, ok + j * 2, none⟩) (nk - j) (ck - j) (vs.drop j) rfl HD6.out (by unfold maxLen; omega) (by omega) sB ?_)
            intro v7 w7 ho7 hg7
            obtain ⟨qc, cc, rfl⟩ := owns_shape ho7
            have BC : Hid (Below w4.heap.size w4 w7) := BB.out.grown hg7 sB (fun kk hk => (OB.out.lt kk hk).1)
            have FIN : Hid (RwN w4 w7 50 qc (j + 1 + (nk - j)) cc (K.take j ++ Y :: K.drop j)) := by
              have ho7' : w7.ownsRow w4.heap.size 50 2 (.slice qc (j + 1 + (nk - j)) cc) (j + 1 + (nk - j)) (fl2 (vs.take j ++ (Value.slice q5 m5 g5, Value.slice q6 m6 g6) :: vs.drop j)) := by
                have e : fl2 (vs.take j ++ (Value.slice q5 m5 g5, Value.slice q6 m6 g6) :: vs.drop j) = fl2 (vs.take j) ++ [Value.slice q5 m5 g5, Value.slice q6 m6 g6] ++ fl2 (vs.drop j) := by
                  rw [fl2_append, List.append_assoc]; rfl
                rw [e]
                try rw [← HUS.out]
                first | exact ho7 | simpa [fl2] using ho7
              have hvl := VS.out.len
              refine ⟨BC.out, by rw [List.length_append, List.length_cons, List.length_take, List.length_drop, HLEN.out]; omega, _, ho7', ?_⟩
              intro i k' hi
              have hkl := HLEN.out
              by_cases h1 : i < j
              · rw [List.getElem?_append_left (by rw [List.length_take]; omega), List.getElem?_take, if_pos h1] at hi
                obtain ⟨u, hu⟩ : ∃ u, vs[i]? = some u := ⟨_, List.getElem?_eq_getElem (by omega)⟩
                obtain ⟨k2, hk2, hp⟩ := VK.out i u hu
                rw [hi] at hk2; cases hk2
                exact ⟨u, by rw [List.getElem?_append_left (by rw [List.length_take]; omega), List.getElem?_take, if_pos h1]; exact hu, hp⟩
              · have lt1 : (K.take j).length = j := by rw [List.length_take]; omega
                have lt2 : (vs.take j).length = j := by rw [List.length_take]; omega
                by_cases h2 : i = j
                · subst h2
                  rw [List.getElem?_append_right (by omega), lt1, Nat.sub_self, List.getElem?_cons_zero] at hi
                  cases hi
                  exact ⟨_, by rw [List.getElem?_append_right (by omega), lt2, Nat.sub_self, List.getElem?_cons_zero], q5, m5, g5, q6, m6, g6, rfl, Y5.out, Y6.out⟩
                · obtain ⟨d, hd⟩ : ∃ d, i - j = d + 1 := ⟨i - j - 1, by omega⟩
                  rw [List.getElem?_append_right (by omega), lt1, hd, List.getElem?_cons_succ, List.getElem?_drop] at hi
                  obtain ⟨u, hu⟩ : ∃ u, vs[j + d]? = some u := by
                    have := (List.getElem?_eq_some_iff.1 hi).1
                    exact ⟨_, List.getElem?_eq_getElem (by omega)⟩
                  obtain ⟨k2, hk2, hp⟩ := VK.out (j + d) u hu
                  rw [hi] at hk2; cases hk2
                  exact ⟨u, by rw [List.getElem?_append_right (by omega), lt2, hd, List.getElem?_cons_succ, List.getElem?_drop]; exact hu, hp⟩
            have BF : Hid (Below w.heap.size w w7) := bl B4.out BC.out B4.out.size
            clear ho7 hg7
            go_wp2
            go_ret
            refine ⟨qc, _, cc, ?_, rfl, by rw [HRES.out]; exact FIN.out.rwS, BF.out, .inr ⟨w4, B4.out.size, by rw [HRES.out]; exact FIN.out⟩⟩
            rw [HRES.out, List.length_append, List.length_cons, List.length_take, List.length_drop, HLEN.out]; omega
      · have hjn : j = nk := by omega
        subst hjn
        have HSTOP : Hid (∀ a, K[j]? = some a → ¬ leadS a.1 < LY) := fun a ha => by
          have := (List.getElem?_eq_some_iff.1 ha).1
          rw [HLEN.out] at this; omega
        have jn : (j : Int) ≤ (j : Int) := Int.le_refl _
        by_cases hj0 : j = 0
        · subst hj0
          go_wp2_with fail
          refine wp_region_shapes (fun ix => ([.val (.int .i64 0), .val (.slice pk 0 ck), .val (.int .i64 0), .val (.bool false), .val (.bool false), .val (undef), .val (undef), .val (undef), .val (undef), .val (undef), .val (undef), .val (undef), .val (undef), .val (undef), .val (undef), .val (.bool false)][ix]?).getD (.any)) 48 rfl (by kernel_rfl) (by decide) (by decide) (by decide) ?_ ?_
          · refine ⟨?_, ?_, ?_, ?_, ?_, ?_, ?_, ?_, ?_, ?_, ?_, ?_, ?_, ?_, ?_, ?_, trivial⟩
            · intro a W hb0 hs hp hi; have hb := undrew hb0; clear hb0
              have t5 : sl a 5 = .int .i64 0 := hi 5 (by decide)
              exact ite_y rfl (wp_val (sl a 5) rfl ⟨_, rfl, Below.refl _ _, t5⟩)
            · intro a W hb0 hs hp hi; have hb := undrew hb0; clear hb0
              have t0 : sl a 0 = .slice pk 0 ck := hi 0 (by decide)
              exact ite_y rfl (wp_val (sl a 0) rfl ⟨_, rfl, Below.refl _ _, t0⟩)
            · intro a W hb0 hs hp hi; have hb := undrew hb0; clear hb0
              have t17 : sl a 17 = .slice pk 0 ck := hp 1 (by decide)
              refine ite_y rfl (wp_val (.int .i64 0) ?_ ?_)
              · simp only [execOp, resolve, List.map_toArray, List.map, eval_tmp, eval_func, eval_const, t17]; simp [go_sem]
              · exact ⟨_, rfl, Below.refl _ _, rfl⟩
            · intro a W hb0 hs hp hi; have hb := undrew hb0; clear hb0
              have t16 : sl a 16 = .int .i64 0 := hp 0 (by decide)
              have t18 : sl a 18 = .int .i64 0 := hp 2 (by decide)
              refine ite_y rfl (wp_val (.bool false) ?_ ?_)
              · simp only [execOp, eval_tmp, eval_const, t16, t18]; simp [go_sem]
              · exact ⟨_, rfl, Below.refl _ _, rfl⟩
            · intro a W hb0 hs hp hi; have hb := undrew hb0; clear hb0
              have t19 : sl a 19 = .bool false := hp 3 (by decide)
              exact ite_y rfl (wp_val (sl a 19) rfl ⟨_, rfl, Below.refl _ _, t19⟩)
            · intro a W hb0 hs hp hi; have hb := undrew hb0; clear hb0
              have tg : sl a 20 = .bool false := hp 4 (by decide)
              exact ite_n (wanted_no rfl rfl (by have hz : a.tmps.size = 48 := hs; rw [hz]; decide) tg (by decide)) rfl
            · intro a W hb0 hs hp hi; have hb := undrew hb0; clear hb0
              have tg : sl a 20 = .bool false := hp 4 (by decide)
              exact ite_n (wanted_no rfl rfl (by have hz : a.tmps.size = 48 := hs; rw [hz]; decide) tg (by decide)) rfl
            · intro a W hb0 hs hp hi; have hb := undrew hb0; clear hb0
              have tg : sl a 20 = .bool false := hp 4 (by decide)
              exact ite_n (wanted_no rfl rfl (by have hz : a.tmps.size = 48 := hs; rw [hz]; decide) tg (by decide)) rfl
            · intro a W hb0 hs hp hi; have hb := undrew hb0; clear hb0
              have tg : sl a 20 = .bool false := hp 4 (by decide)
              exact ite_n (wanted_no rfl rfl (by have hz : a.tmps.size = 48 := hs; rw [hz]; decide) tg (by decide)) rfl
            · intro a W hb0 hs hp hi; have hb := undrew hb0; clear hb0
              have tg : sl a 20 = .bool false := hp 4 (by decide)
              exact ite_n (wanted_no rfl rfl (by have hz : a.tmps.size = 48 := hs; rw [hz]; decide) tg (by decide)) rfl
            · intro a W hb0 hs hp hi; have hb := undrew hb0; clear hb0
              have tg : sl a 20 = .bool false := hp 4 (by decide)
              exact ite_n (wanted_no rfl rfl (by have hz : a.tmps.size = 48 := hs; rw [hz]; decide) tg (by decide)) rfl
            · intro a W hb0 hs hp hi; have hb := undrew hb0; clear hb0
              have tg : sl a 20 = .bool false := hp 4 (by decide)
              exact ite_n (wanted_no rfl rfl (by have hz : a.tmps.size = 48 := hs; rw [hz]; decide) tg (by decide)) rfl
            · intro a W hb0 hs hp hi; have hb := undrew hb0; clear hb0
              have tg : sl a 20 = .bool false := hp 4 (by decide)
              exact ite_n (wanted_no rfl rfl (by have hz : a.tmps.size = 48 := hs; rw [hz]; decide) tg (by decide)) rfl
            · intro a W hb0 hs hp hi; have hb := undrew hb0; clear hb0
              have tg : sl a 20 = .bool false := hp 4 (by decide)
              exact ite_n (wanted_no rfl rfl (by have hz : a.tmps.size = 48 := hs; rw [hz]; decide) tg (by decide)) rfl
            · intro a W hb0 hs hp hi; have hb := undrew hb0; clear hb0
              have tg : sl a 20 = .bool false := hp 4 (by decide)
              exact ite_n (wanted_no rfl rfl (by have hz : a.tmps.size = 48 := hs; rw [hz]; decide) tg (by decide)) rfl
            · intro a W hb0 hs hp hi; have hb := undrew hb0; clear hb0
              have t20 : sl a 20 = .bool false := hp 4 (by decide)
              have t30 : sl a 30 = undef := hp 14 (by decide)
              refine ite_y rfl (wp_val (.bool false) ?_ ?_)
              · simp only [execOp, eval_tmp, eval_const, t20, t30]; simp [go_sem]
              · exact ⟨_, rfl, Below.refl _ _, rfl⟩
          · intro a w9 hb hs hd hI ht
            have ha := act_is [16, 17, 18, 19, 20, 21, 22, 23, 24, 25, 26, 27, 28, 29, 30, 31] hs hd ht (by decide)
            have t31 : sl a 31 = .bool false := hI 15 (by decide)
            simp only [List.foldl, t31] at ha
            generalize sl a 16 = u16 at ha
            generalize sl a 17 = u17 at ha
            generalize sl a 18 = u18 at ha
            generalize sl a 19 = u19 at ha
            generalize sl a 20 = u20 at ha
            generalize sl a 21 = u21 at ha
            generalize sl a 22 = u22 at ha
            generalize sl a 23 = u23 at ha
            generalize sl a 24 = u24 at ha
            generalize sl a 25 = u25 at ha
            generalize sl a 26 = u26 at ha
            generalize sl a 27 = u27 at ha
            generalize sl a 28 = u28 at ha
            generalize sl a 29 = u29 at ha
            generalize sl a 30 = u30 at ha
            simp only [Act.put, List.setIfInBounds_toArray, List.set_cons_zero, List.set_cons_succ] at ha
            rw [ha]; clear ha
            obtain ⟨w4, hw4⟩ : ∃ w4, w4 = w9 := ⟨_, rfl⟩
            have h34 : Below w3.heap.size w3 w4 := by rw [hw4]; exact bl HQ.out hb HQ.out.size
            rw [← hw4]
            have X4 : Hid (w4.heap[w.heap.size]? = some (.cells #[.slice q5 m5 g5, .slice q6 m6 g6] 50 (0, 0))) := (h34.block _ (blk_lt N3.out.1)).trans N3.out.1
            have Y5 : Hid (Sl B8 w4 q5 m5 g5 Y.1) := N3.out.2.1.keep h34
            have Y6 : Hid (Sl B8 w4 q6 m6 g6 Y.2) := N3.out.2.2.1.keep h34
            have B4 : Hid (Below w.heap.size w w4) := bl N3.out.2.2.2 h34 N3.out.2.2.2.size
            have hK0 : K = [] := List.length_eq_zero_iff.1 HLEN.out
            have HRES : Hid (insF K x = [Y]) := by show _ = _; rw [HINS.out, if_neg (by omega), hK0]; rfl
            clear h34 hb hI N3 HP HSTOP HQ jn hK0 hw4
            cases pk with
            | none =>
              obtain ⟨_, hc0⟩ := HK.out.nil rfl
              subst hc0
              have HT : Hid (RwV w4 none 0 0 []) := RwV.none (fun _ => rfl) (by simp [maxLen])
              have HD : Hid (RwV w4 none 0 0 []) := RwV.none (fun _ => rfl) (by simp [maxLen])
              go_wp2_with (at_builtin; refine wpList_append_two w4 rfl (.tmp 34) (.tmp 37) 28 rfl w4.heap.size 50 r0 _ 48 Tryz.underlying28 hr0 hrz hr1' hr2' rfl (.slice none 0 0) 0 [] rfl (World.ownsRow_nil _ _ _ _) none 0 0 [] rfl HT.out (by decide) (by decide) (Nat.le_refl _) ?_)
              intro v5 w5 ho5 hg5
              obtain ⟨qa, ca, rfl⟩ := owns_shape ho5
              have BA : Hid (Below w4.heap.size w4 w5) := (Below.refl _ _).grown hg5 (Nat.le_refl _) (by simp [Value.ownBlock])
              have OA : Hid (w5.ownsRow w4.heap.size 50 2 (.slice qa 0 ca) 0 []) := by show World.ownsRow _ _ _ _ _ _ _; simpa [fl2] using ho5
              have X5 : Hid (w5.heap[w.heap.size]? = some (.cells #[.slice q5 m5 g5, .slice q6 m6 g6] 50 (0, 0))) := (BA.out.block _ (blk_lt X4.out)).trans X4.out
              obtain ⟨x0, x1⟩ := cells2 X5.out
              have OA2 : Hid (∀ o, (w5.alloc o).ownsRow w4.heap.size 50 2 (.slice qa 0 ca) 0 []) := fun o => owns_keep OA.out (al (Below.refl _ _) (Nat.le_refl _))
              have sA := BA.out.size
              clear ho5 hg5
              try simp only [Nat.add_zero]
              go_wp2_with (at_builtin; refine wpList_append_own _ rfl (.tmp 39) (.tmp 41) 28 rfl w4.heap.size 50 r0 _ 2 48 Tryz.underlying28 hr0 hrz hr1' hr2' rfl (by omega) _ 0 [] rfl (OA2.out _) ⟨w5.heap.size, 0, none⟩ 1 1 [.slice q5 m5 g5, .slice q6 m6 g6] rfl rfl (two_cells rfl) (two_ones _ _ _ _ _ _) (by decide) (by decide) (by simp; omega) ?_)
              intro v6 w6 ho6 hg6 _
              obtain ⟨qb, cb, rfl⟩ := owns_shape ho6
              have BB : Hid (Below w4.heap.size w4 w6) := (al BA.out sA).grown hg6 (by simp; omega) (fun kk hk => (OA.out.lt kk hk).1)
              have OB : Hid (w6.ownsRow w4.heap.size 50 2 (.slice qb 1 cb) 1 [.slice q5 m5 g5, .slice q6 m6 g6]) := by show World.ownsRow _ _ _ _ _ _ _; simpa using ho6
              have HD6 := Lib.hid (HD.out.keep BB.out)
              have sB := BB.out.size
              clear ho6 hg6 x0 x1 OA2
              try simp only [Nat.zero_add]
              go_wp2_with (at_builtin; refine wpList_append_two w6 rfl (.tmp 43) (.tmp 46) 28 rfl w4.heap.size 50 r0 _ 48 Tryz.underlying28 hr0 hrz hr1' hr2' rfl (.slice qb 1 cb) 1 _ rfl OB.out none 0 0 [] rfl HD6.out (by decide) (by decide) sB ?_)
              intro v7 w7 ho7 hg7
              obtain ⟨qc, cc, rfl⟩ := owns_shape ho7
              have BC : Hid (Below w4.heap.size w4 w7) := BB.out.grown hg7 sB (fun kk hk => (OB.out.lt kk hk).1)
              have FIN : Hid (RwN w4 w7 50 qc 1 cc [Y]) := by
                have h7 : w7.ownsRow w4.heap.size 50 2 (.slice qc 1 cc) 1 (fl2 [(Value.slice q5 m5 g5, Value.slice q6 m6 g6)]) := by simpa [fl2] using ho7
                refine ⟨BC.out, rfl, _, h7, fun i k' hi => ?_⟩
                match i with
                | 0 =>
                  obtain rfl : Y = k' := by simpa using hi
                  exact ⟨_, rfl, q5, m5, g5, q6, m6, g6, rfl, Y5.out, Y6.out⟩
                | i + 1 => simp at hi
              have BF : Hid (Below w.heap.size w w7) := bl B4.out BC.out B4.out.size
              clear ho7 hg7
              try simp only [Nat.add_zero]
              go_wp2
              go_ret
              exact ⟨qc, 1, cc, by rw [HRES.out]; rfl, rfl, by rw [HRES.out]; exact FIN.out.rwS, BF.out, .inr ⟨w4, B4.out.size, by rw [HRES.out]; exact FIN.out⟩⟩
            | some ad =>
              obtain ⟨ab, ao, asp⟩ := ad
              have hmax := HK.out.max
              have HT : Hid (RwV w4 (some ⟨ab, ao, asp⟩) 0 ck []) := RwV.none (fun e => (by cases e)) hmax
              by_cases hc0 : ck = 0
              · subst hc0
                have HD : Hid (RwV w4 (some ⟨ab, ao, asp⟩) 0 0 []) := RwV.none (fun e => (by cases e)) (by simp [maxLen])
                go_wp2_with (at_builtin; refine wpList_append_two w4 rfl (.tmp 34) (.tmp 37) 28 rfl w4.heap.size 50 r0 _ 48 Tryz.underlying28 hr0 hrz hr1' hr2' rfl (.slice none 0 0) 0 [] rfl (World.ownsRow_nil _ _ _ _) (some ⟨ab, ao, asp⟩) 0 0 [] rfl HT.out (by decide) (by decide) (Nat.le_refl _) ?_)
                intro v5 w5 ho5 hg5
                obtain ⟨qa, ca, rfl⟩ := owns_shape ho5
                have BA : Hid (Below w4.heap.size w4 w5) := (Below.refl _ _).grown hg5 (Nat.le_refl _) (by simp [Value.ownBlock])
                have OA : Hid (w5.ownsRow w4.heap.size 50 2 (.slice qa 0 ca) 0 []) := by show World.ownsRow _ _ _ _ _ _ _; simpa [fl2] using ho5
                have X5 : Hid (w5.heap[w.heap.size]? = some (.cells #[.slice q5 m5 g5, .slice q6 m6 g6] 50 (0, 0))) := (BA.out.block _ (blk_lt X4.out)).trans X4.out
                obtain ⟨x0, x1⟩ := cells2 X5.out
                have OA2 : Hid (∀ o, (w5.alloc o).ownsRow w4.heap.size 50 2 (.slice qa 0 ca) 0 []) := fun o => owns_keep OA.out (al (Below.refl _ _) (Nat.le_refl _))
                have sA := BA.out.size
                clear ho5 hg5
                try simp only [Nat.add_zero]
                go_wp2_with (at_builtin; refine wpList_append_own _ rfl (.tmp 39) (.tmp 41) 28 rfl w4.heap.size 50 r0 _ 2 48 Tryz.underlying28 hr0 hrz hr1' hr2' rfl (by omega) _ 0 [] rfl (OA2.out _) ⟨w5.heap.size, 0, none⟩ 1 1 [.slice q5 m5 g5, .slice q6 m6 g6] rfl rfl (two_cells rfl) (two_ones _ _ _ _ _ _) (by decide) (by decide) (by simp; omega) ?_)
                intro v6 w6 ho6 hg6 _
                obtain ⟨qb, cb, rfl⟩ := owns_shape ho6
                have BB : Hid (Below w4.heap.size w4 w6) := (al BA.out sA).grown hg6 (by simp; omega) (fun kk hk => (OA.out.lt kk hk).1)
                have OB : Hid (w6.ownsRow w4.heap.size 50 2 (.slice qb 1 cb) 1 [.slice q5 m5 g5, .slice q6 m6 g6]) := by show World.ownsRow _ _ _ _ _ _ _; simpa using ho6
                have HD6 := Lib.hid (HD.out.keep BB.out)
                have sB := BB.out.size
                clear ho6 hg6 x0 x1 OA2
                try simp only [Nat.zero_add]
                go_wp2_with (at_builtin; refine wpList_append_two w6 rfl (.tmp 43) (.tmp 46) 28 rfl w4.heap.size 50 r0 _ 48 Tryz.underlying28 hr0 hrz hr1' hr2' rfl (.slice qb 1 cb) 1 _ rfl OB.out (some ⟨ab, ao, asp⟩) 0 0 [] rfl HD6.out (by decide) (by decide) sB ?_)
                intro v7 w7 ho7 hg7
                obtain ⟨qc, cc, rfl⟩ := owns_shape ho7
                have BC : Hid (Below w4.heap.size w4 w7) := BB.out.grown hg7 sB (fun kk hk => (OB.out.lt kk hk).1)
                have FIN : Hid (RwN w4 w7 50 qc 1 cc [Y]) := by
                  have h7 : w7.ownsRow w4.heap.size 50 2 (.slice qc 1 cc) 1 (fl2 [(Value.slice q5 m5 g5, Value.slice q6 m6 g6)]) := by simpa [fl2] using ho7
                  refine ⟨BC.out, rfl, _, h7, fun i k' hi => ?_⟩
                  match i with
                  | 0 =>
                    obtain rfl : Y = k' := by simpa using hi
                    exact ⟨_, rfl, q5, m5, g5, q6, m6, g6, rfl, Y5.out, Y6.out⟩
                  | i + 1 => simp at hi
                have BF : Hid (Below w.heap.size w w7) := bl B4.out BC.out B4.out.size
                clear ho7 hg7
                try simp only [Nat.add_zero]
                go_wp2
                go_ret
                exact ⟨qc, 1, cc, by rw [HRES.out]; rfl, rfl, by rw [HRES.out]; exact FIN.out.rwS, BF.out, .inr ⟨w4, B4.out.size, by rw [HRES.out]; exact FIN.out⟩⟩
              · have hcp : 0 < ck := by omega
                have HD : Hid (RwV w4 (some ⟨ab, ao, asp⟩) 0 ck []) := RwV.none (fun e => (by cases e)) hmax
                go_wp2_with (at_builtin; refine wpList_append_two w4 rfl (.tmp 34) (.tmp 37) 28 rfl w4.heap.size 50 r0 _ 48 Tryz.underlying28 hr0 hrz hr1' hr2' rfl (.slice none 0 0) 0 [] rfl (World.ownsRow_nil _ _ _ _) (some ⟨ab, ao, asp⟩) 0 ck [] rfl HT.out (by decide) (by decide) (Nat.le_refl _) ?_)
                intro v5 w5 ho5 hg5
                obtain ⟨qa, ca, rfl⟩ := owns_shape ho5
                have BA : Hid (Below w4.heap.size w4 w5) := (Below.refl _ _).grown hg5 (Nat.le_refl _) (by simp [Value.ownBlock])
                have OA : Hid (w5.ownsRow w4.heap.size 50 2 (.slice qa 0 ca) 0 []) := by show World.ownsRow _ _ _ _ _ _ _; simpa [fl2] using ho5
                have X5 : Hid (w5.heap[w.heap.size]? = some (.cells #[.slice q5 m5 g5, .slice q6 m6 g6] 50 (0, 0))) := (BA.out.block _ (blk_lt X4.out)).trans X4.out
                obtain ⟨x0, x1⟩ := cells2 X5.out
                have OA2 : Hid (∀ o, (w5.alloc o).ownsRow w4.heap.size 50 2 (.slice qa 0 ca) 0 []) := fun o => owns_keep OA.out (al (Below.refl _ _) (Nat.le_refl _))
                have sA := BA.out.size
                clear ho5 hg5
                try simp only [Nat.add_zero]
                go_wp2_with (at_builtin; refine wpList_append_own _ rfl (.tmp 39) (.tmp 41) 28 rfl w4.heap.size 50 r0 _ 2 48 Tryz.underlying28 hr0 hrz hr1' hr2' rfl (by omega) _ 0 [] rfl (OA2.out _) ⟨w5.heap.size, 0, none⟩ 1 1 [.slice q5 m5 g5, .slice q6 m6 g6] rfl rfl (two_cells rfl) (two_ones _ _ _ _ _ _) (by decide) (by decide) (by simp; omega) ?_)
                intro v6 w6 ho6 hg6 _
                obtain ⟨qb, cb, rfl⟩ := owns_shape ho6
                have BB : Hid (Below w4.heap.size w4 w6) := (al BA.out sA).grown hg6 (by simp; omega) (fun kk hk => (OA.out.lt kk hk).1)
                have OB : Hid (w6.ownsRow w4.heap.size 50 2 (.slice qb 1 cb) 1 [.slice q5 m5 g5, .slice q6 m6 g6]) := by show World.ownsRow _ _ _ _ _ _ _; simpa using ho6
                have HD6 := Lib.hid (HD.out.keep BB.out)
                have sB := BB.out.size
                clear ho6 hg6 x0 x1 OA2
                try simp only [Nat.zero_add]
                go_wp2_with (at_builtin; refine wpList_append_two w6 rfl (.tmp 43) (.tmp 46) 28 rfl w4.heap.size 50 r0 _ 48 Tryz.underlying28 hr0 hrz hr1' hr2' rfl (.slice qb 1 cb) 1 _ rfl OB.out (some ⟨ab, ao, asp⟩) 0 ck [] rfl HD6.out (by decide) (by decide) sB ?_)
                intro v7 w7 ho7 hg7
                obtain ⟨qc, cc, rfl⟩ := owns_shape ho7
                have BC : Hid (Below w4.heap.size w4 w7) := BB.out.grown hg7 sB (fun kk hk => (OB.out.lt kk hk).1)
                have FIN : Hid (RwN w4 w7 50 qc 1 cc [Y]) := by
                  have h7 : w7.ownsRow w4.heap.size 50 2 (.slice qc 1 cc) 1 (fl2 [(Value.slice q5 m5 g5, Value.slice q6 m6 g6)]) := by simpa [fl2] using ho7
                  refine ⟨BC.out, rfl, _, h7, fun i k' hi => ?_⟩
                  match i with
                  | 0 =>
                    obtain rfl : Y = k' := by simpa using hi
                    exact ⟨_, rfl, q5, m5, g5, q6, m6, g6, rfl, Y5.out, Y6.out⟩
                  | i + 1 => simp at hi
                have BF : Hid (Below w.heap.size w w7) := bl B4.out BC.out B4.out.size
                clear ho7 hg7
                try simp only [Nat.add_zero]
                go_wp2
                go_ret
                exact ⟨qc, 1, cc, by rw [HRES.out]; rfl, rfl, by rw [HRES.out]; exact FIN.out.rwS, BF.out, .inr ⟨w4, B4.out.size, by rw [HRES.out]; exact FIN.out⟩⟩
        · obtain ⟨bk, ok, rfl⟩ : ∃ b o, pk = some ⟨b, o, none⟩ := by
            obtain ⟨k0, hk0⟩ : ∃ k0, K[0]? = some k0 := ⟨_, List.getElem?_eq_getElem (by rw [HLEN.out]; omega)⟩
            obtain ⟨b, o, _, _, _, _, _, _, e, _⟩ := HK.out.row 0 k0 hk0
            exact ⟨b, o, e⟩
          go_wp2_with fail
          refine wp_region_shapes (fun ix => ([.val (.int .i64 (j : Nat)), .val (.slice (some ⟨bk, ok, none⟩) j ck), .val (.int .i64 (j : Nat)), .val (.bool false), .val (.bool false), .val (undef), .val (undef), .val (undef), .val (undef), .val (undef), .val (undef), .val (undef), .val (undef), .val (undef), .val (undef), .val (.bool false)][ix]?).getD (.any)) 48 rfl (by kernel_rfl) (by decide) (by decide) (by decide) ?_ ?_
          · refine ⟨?_, ?_, ?_, ?_, ?_, ?_, ?_, ?_, ?_, ?_, ?_, ?_, ?_, ?_, ?_, ?_, trivial⟩
            · intro a W hb0 hs hp hi; have hb := undrew hb0; clear hb0
              have t5 : sl a 5 = .int .i64 (j : Nat) := hi 5 (by decide)
              exact ite_y rfl (wp_val (sl a 5) rfl ⟨_, rfl, Below.refl _ _, t5⟩)
            · intro a W hb0 hs hp hi; have hb := undrew hb0; clear hb0
              have t0 : sl a 0 = .slice (some ⟨bk, ok, none⟩) j ck := hi 0 (by decide)
              exact ite_y rfl (wp_val (sl a 0) rfl ⟨_, rfl, Below.refl _ _, t0⟩)
            · intro a W hb0 hs hp hi; have hb := undrew hb0; clear hb0
              have t17 : sl a 17 = .slice (some ⟨bk, ok, none⟩) j ck := hp 1 (by decide)
              refine ite_y rfl (wp_val (.int .i64 (j : Nat)) ?_ ?_)
              · simp only [execOp, resolve, List.map_toArray, List.map, eval_tmp, eval_func, eval_const, t17]; simp [go_sem]
              · exact ⟨_, rfl, Below.refl _ _, rfl⟩
            · intro a W hb0 hs hp hi; have hb := undrew hb0; clear hb0
              have t16 : sl a 16 = .int .i64 (j : Nat) := hp 0 (by decide)
              have t18 : sl a 18 = .int .i64 (j : Nat) := hp 2 (by decide)
              refine ite_y rfl (wp_val (.bool false) ?_ ?_)
              · simp only [execOp, eval_tmp, eval_const, t16, t18]; simp [go_sem]
              · exact ⟨_, rfl, Below.refl _ _, rfl⟩
            · intro a W hb0 hs hp hi; have hb := undrew hb0; clear hb0
              have t19 : sl a 19 = .bool false := hp 3 (by decide)
              exact ite_y rfl (wp_val (sl a 19) rfl ⟨_, rfl, Below.refl _ _, t19⟩)
            · intro a W hb0 hs hp hi; have hb := undrew hb0; clear hb0
              have tg : sl a 20 = .bool false := hp 4 (by decide)
              exact ite_n (wanted_no rfl rfl (by have hz : a.tmps.size = 48 := hs; rw [hz]; decide) tg (by decide)) rfl
            · intro a W hb0 hs hp hi; have hb := undrew hb0; clear hb0
              have tg : sl a 20 = .bool false := hp 4 (by decide)
              exact ite_n (wanted_no rfl rfl (by have hz : a.tmps.size = 48 := hs; rw [hz]; decide) tg (by decide)) rfl
            · intro a W hb0 hs hp hi; have hb := undrew hb0; clear hb0
              have tg : sl a 20 = .bool false := hp 4 (by decide)
              exact ite_n (wanted_no rfl rfl (by have hz : a.tmps.size = 48 := hs; rw [hz]; decide) tg (by decide)) rfl
            · intro a W hb0 hs hp hi; have hb := undrew hb0; clear hb0
              have tg : sl a 20 = .bool false := hp 4 (by decide)
              exact ite_n (wanted_no rfl rfl (by have hz : a.tmps.size = 48 := hs; rw [hz]; decide) tg (by decide)) rfl
            · intro a W hb0 hs hp hi; have hb := undrew hb0; clear hb0
              have tg : sl a 20 = .bool false := hp 4 (by decide)
              exact ite_n (wanted_no rfl rfl (by have hz : a.tmps.size = 48 := hs; rw [hz]; decide) tg (by decide)) rfl
            · intro a W hb0 hs hp hi; have hb := undrew hb0; clear hb0
              have tg : sl a 20 = .bool false := hp 4 (by decide)
              exact ite_n (wanted_no rfl rfl (by have hz : a.tmps.size = 48 := hs; rw [hz]; decide) tg (by decide)) rfl
            · intro a W hb0 hs hp hi; have hb := undrew hb0; clear hb0
              have tg : sl a 20 = .bool false := hp 4 (by decide)
              exact ite_n (wanted_no rfl rfl (by have hz : a.tmps.size = 48 := hs; rw [hz]; decide) tg (by decide)) rfl
            · intro a W hb0 hs hp hi; have hb := undrew hb0; clear hb0
              have tg : sl a 20 = .bool false := hp 4 (by decide)
              exact ite_n (wanted_no rfl rfl (by have hz : a.tmps.size = 48 := hs; rw [hz]; decide) tg (by decide)) rfl
            · intro a W hb0 hs hp hi; have hb := undrew hb0; clear hb0
              have tg : sl a 20 = .bool false := hp 4 (by decide)
              exact ite_n (wanted_no rfl rfl (by have hz : a.tmps.size = 48 := hs; rw [hz]; decide) tg (by decide)) rfl
            · intro a W hb0 hs hp hi; have hb := undrew hb0; clear hb0
              have tg : sl a 20 = .bool false := hp 4 (by decide)
              exact ite_n (wanted_no rfl rfl (by have hz : a.tmps.size = 48 := hs; rw [hz]; decide) tg (by decide)) rfl
            · intro a W hb0 hs hp hi; have hb := undrew hb0; clear hb0
              have t20 : sl a 20 = .bool false := hp 4 (by decide)
              have t30 : sl a 30 = undef := hp 14 (by decide)
              refine ite_y rfl (wp_val (.bool false) ?_ ?_)
              · simp only [execOp, eval_tmp, eval_const, t20, t30]; simp [go_sem]
              · exact ⟨_, rfl, Below.refl _ _, rfl⟩
          · intro a w9 hb hs hd hI ht
            have ha := act_is [16, 17, 18, 19, 20, 21, 22, 23, 24, 25, 26, 27, 28, 29, 30, 31] hs hd ht (by decide)
            have t31 : sl a 31 = .bool false := hI 15 (by decide)
            simp only [List.foldl, t31] at ha
            generalize sl a 16 = u16 at ha
            generalize sl a 17 = u17 at ha
            generalize sl a 18 = u18 at ha
            generalize sl a 19 = u19 at ha
            generalize sl a 20 = u20 at ha
            generalize sl a 21 = u21 at ha
            generalize sl a 22 = u22 at ha
            generalize sl a 23 = u23 at ha
            generalize sl a 24 = u24 at ha
            generalize sl a 25 = u25 at ha
            generalize sl a 26 = u26 at ha
            generalize sl a 27 = u27 at ha
            generalize sl a 28 = u28 at ha
            generalize sl a 29 = u29 at ha
            generalize sl a 30 = u30 at ha
            simp only [Act.put, List.setIfInBounds_toArray, List.set_cons_zero, List.set_cons_succ] at ha
            rw [ha]; clear ha
            obtain ⟨w4, hw4⟩ : ∃ w4, w4 = w9 := ⟨_, rfl⟩
            have h34 : Below w3.heap.size w3 w4 := by rw [hw4]; exact bl HQ.out hb HQ.out.size
            rw [← hw4]
            have X4 : Hid (w4.heap[w.heap.size]? = some (.cells #[.slice q5 m5 g5, .slice q6 m6 g6] 50 (0, 0))) := (h34.block _ (blk_lt N3.out.1)).trans N3.out.1
            have Y5 : Hid (Sl B8 w4 q5 m5 g5 Y.1) := N3.out.2.1.keep h34
            have Y6 : Hid (Sl B8 w4 q6 m6 g6 Y.2) := N3.out.2.2.1.keep h34
            have B4 : Hid (Below w.heap.size w w4) := bl N3.out.2.2.2 h34 N3.out.2.2.2.size
            obtain ⟨vs, hvs, hvk⟩ := (HK.out.keep B4.out).vals
            have VS := Lib.hid hvs; have VK := Lib.hid hvk
            have HRES : Hid (insF K x = K.take j ++ Y :: K.drop j) := by
              show _ = _
              obtain ⟨g1', g2'⟩ := take_while_at (p := fun r => decide (leadS r.1 < LY)) (l := K) (j := j) (by rw [HLEN.out]; exact hj) (fun i a hi ha => decide_eq_true (HP.out i a hi ha)) (fun a ha => decide_eq_false (by have := HSTOP.out a ha; omega))
              rw [HINS.out, if_neg (by omega), g1', g2']
            clear h34 hb hI hvs hvk N3 HP HSTOP HQ
            try clear E1 y0 T1 L1 YQ jn hcmp
            clear hw4
            have HT := Lib.hid (VS.out.take hj)
            have HUS : Hid (([] : List (Value × Value)) = vs.drop j) := (List.drop_eq_nil_of_le (by rw [VS.out.len]; exact Nat.le_refl _)).symm
            have hmax := HK.out.max
            by_cases hcj : j = ck
            · have HD : Hid (RwV w4 (some ⟨bk, ok, none⟩) 0 0 []) := RwV.none (fun e => (by cases e)) (by simp [maxLen])
              subst hcj
              go_wp2_with (at_builtin; refine wpList_append_two w4 rfl (.tmp 34) (.tmp 37) 28 rfl w4.heap.size 50 r0 _ 48 Tryz.underlying28 hr0 hrz hr1' hr2' rfl (.slice none 0 0) 0 [] rfl (World.ownsRow_nil _ _ _ _) (some ⟨bk, ok, none⟩) j j (vs.take j) rfl HT.out (by unfold maxLen; omega) (by omega) (Nat.le_refl _) ?_)
              intro v5 w5 ho5 hg5
              obtain ⟨qa, ca, rfl⟩ := owns_shape ho5
              try simp only [Nat.zero_add, List.nil_append] at ho5
              have BA : Hid (Below w4.heap.size w4 w5) := (Below.refl _ _).grown hg5 (Nat.le_refl _) (by simp [Value.ownBlock])
              have OA := Lib.hid ho5
              have X5 : Hid (w5.heap[w.heap.size]? = some (.cells #[.slice q5 m5 g5, .slice q6 m6 g6] 50 (0, 0))) := (BA.out.block _ (blk_lt X4.out)).trans X4.out
              obtain ⟨x0, x1⟩ := cells2 X5.out
              have OA2 : Hid (∀ o, (w5.alloc o).ownsRow w4.heap.size 50 2 (.slice qa j ca) j (fl2 (vs.take j))) := fun o => owns_keep OA.out (al (Below.refl _ _) (Nat.le_refl _))
              have sA := BA.out.size
              clear ho5 hg5
              try rw [Nat.zero_add]
              go_wp2_with (at_builtin; refine wpList_append_own _ rfl (.tmp 39) (.tmp 41) 28 rfl w4.heap.size 50 r0 _ 2 48 Tryz.underlying28 hr0 hrz hr1' hr2' rfl (by omega) _ j (fl2 (vs.take j)) rfl (OA2.out _) ⟨w5.heap.size, 0, none⟩ 1 1 [.slice q5 m5 g5, .slice q6 m6 g6] rfl rfl ?_ ?_ ?_ ?_ ?_ ?_)
              · intro j' y hj'
                rw [Addr.add_lit, Nat.zero_add, cell_of_row _ _ j' _ _ _ (hnew rfl)]
                match j' with
                | 0 => simpa using hj'
                | 1 => simpa using hj'
                | j' + 2 => simp at hj'
              · intro y hy; simp at hy; rcases hy with rfl | rfl <;> rfl
              · unfold maxLen; omega
              · omega
              · simp; omega
              intro v6 w6 ho6 hg6 _
              obtain ⟨qb, cb, rfl⟩ := owns_shape ho6
              have BB : Hid (Below w4.heap.size w4 w6) := (al BA.out sA).grown hg6 (by simp; omega) (fun kk hk => (OA.out.lt kk hk).1)
              have OB := Lib.hid ho6
              have HD6 := Lib.hid (HD.out.keep BB.out)
              have sB := BB.out.size
              clear ho6 hg6 x0 x1 OA2
              go_wp2_with (at_builtin; refine wpList_append_two w6 rfl (.tmp 43) (.tmp 46) 28 rfl w4.heap.size 50 r0 _ 48 Tryz.underlying28 hr0 hrz hr1' hr2' rfl (.slice qb (j + 1) cb) (j + 1) _ rfl OB.out (some ⟨bk, ok, none⟩) 0 0 [] rfl HD6.out (by unfold maxLen; omega) (by omega) sB ?_)
              intro v7 w7 ho7 hg7
              obtain ⟨qc, cc, rfl⟩ := owns_shape ho7
              have BC : Hid (Below w4.heap.size w4 w7) := BB.out.grown hg7 sB (fun kk hk => (OB.out.lt kk hk).1)
              have FIN : Hid (RwN w4 w7 50 qc (j + 1) cc (K.take j ++ Y :: K.drop j)) := by
                have ho7' : w7.ownsRow w4.heap.size 50 2 (.slice qc (j + 1) cc) (j + 1) (fl2 (vs.take j ++ (Value.slice q5 m5 g5, Value.slice q6 m6 g6) :: vs.drop j)) := by
                  have e : fl2 (vs.take j ++ (Value.slice q5 m5 g5, Value.slice q6 m6 g6) :: vs.drop j) = fl2 (vs.take j) ++ [Value.slice q5 m5 g5, Value.slice q6 m6 g6] ++ fl2 (vs.drop j) := by
                    rw [fl2_append, List.append_assoc]; rfl
                  rw [e]
                  try rw [← HUS.out]
                  first | exact ho7 | simpa [fl2] using ho7
                have hvl := VS.out.len
                refine ⟨BC.out, by rw [List.length_append, List.length_cons, List.length_take, List.length_drop, HLEN.out]; omega, _, ho7', ?_⟩
                intro i k' hi
                have hkl := HLEN.out
                by_cases h1 : i < j
                · rw [List.getElem?_append_left (by rw [List.length_take]; omega), List.getElem?_take, if_pos h1] at hi
                  obtain ⟨u, hu⟩ : ∃ u, vs[i]? = some u := ⟨_, List.getElem?_eq_getElem (by omega)⟩
                  obtain ⟨k2, hk2, hp⟩ := VK.out i u hu
                  rw [hi] at hk2; cases hk2
                  exact ⟨u, by rw [List.getElem?_append_left (by rw [List.length_take]; omega), List.getElem?_take, if_pos h1]; exact hu, hp⟩
                · have lt1 : (K.take j).length = j := by rw [List.length_take]; omega
                  have lt2 : (vs.take j).length = j := by rw [List.length_take]; omega
                  by_cases h2 : i = j
                  · subst h2
                    rw [List.getElem?_append_right (by omega), lt1, Nat.sub_self, List.getElem?_cons_zero] at hi
                    cases hi
                    exact ⟨_, by rw [List.getElem?_append_right (by omega), lt2, Nat.sub_self, List.getElem?_cons_zero], q5, m5, g5, q6, m6, g6, rfl, Y5.out, Y6.out⟩
                  · obtain ⟨d, hd⟩ : ∃ d, i - j = d + 1 := ⟨i - j - 1, by omega⟩
                    rw [List.getElem?_append_right (by omega), lt1, hd, List.getElem?_cons_succ, List.getElem?_drop] at hi
                    obtain ⟨u, hu⟩ : ∃ u, vs[j + d]? = some u := by
                      have := (List.getElem?_eq_some_iff.1 hi).1
                      exact ⟨_, List.getElem?_eq_getElem (by omega)⟩
                    obtain ⟨k2, hk2, hp⟩ := VK.out (j + d) u hu
                    rw [hi] at hk2; cases hk2
                    exact ⟨u, by rw [List.getElem?_append_right (by omega), lt2, hd, List.getElem?_cons_succ, List.getElem?_drop]; exact hu, hp⟩
              have BF : Hid (Below w.heap.size w w7) := bl B4.out BC.out B4.out.size
              clear ho7 hg7
              go_wp2
              go_ret
              refine ⟨qc, _, cc, ?_, rfl, by rw [HRES.out]; exact FIN.out.rwS, BF.out, .inr ⟨w4, B4.out.size, by rw [HRES.out]; exact FIN.out⟩⟩
              rw [HRES.out, List.length_append, List.length_cons, List.length_take, List.length_drop, HLEN.out]; omega
            · have HD : Hid (RwV w4 (some ⟨bk, ok + j * 2, none⟩) 0 (ck - j) []) := RwV.none (fun e => (by cases e)) (by omega)
              have hjc : j < ck := by have := HK.out.le; omega
              go_wp2_with (at_builtin; refine wpList_append_two w4 rfl (.tmp 34) (.tmp 37) 28 rfl w4.heap.size 50 r0 _ 48 Tryz.underlying28 hr0 hrz hr1' hr2' rfl (.slice none 0 0) 0 [] rfl (World.ownsRow_nil _ _ _ _) (some ⟨bk, ok, none⟩) j ck (vs.take j) rfl HT.out (by unfold maxLen; omega) (by omega) (Nat.le_refl _) ?_)
              intro v5 w5 ho5 hg5
              obtain ⟨qa, ca, rfl⟩ := owns_shape ho5
              try simp only [Nat.zero_add, List.nil_append] at ho5
              have BA : Hid (Below w4.heap.size w4 w5) := (Below.refl _ _).grown hg5 (Nat.le_refl _) (by simp [Value.ownBlock])
              have OA := Lib.hid ho5
              have X5 : Hid (w5.heap[w.heap.size]? = some (.cells #[.slice q5 m5 g5, .slice q6 m6 g6] 50 (0, 0))) := (BA.out.block _ (blk_lt X4.out)).trans X4.out
              obtain ⟨x0, x1⟩ := cells2 X5.out
              have OA2 : Hid (∀ o, (w5.alloc o).ownsRow w4.heap.size 50 2 (.slice qa j ca) j (fl2 (vs.take j))) := fun o => owns_keep OA.out (al (Below.refl _ _) (Nat.le_refl _))
              have sA := BA.out.size
              clear ho5 hg5
              try rw [Nat.zero_add]
              go_wp2_with (at_builtin; refine wpList_append_own _ rfl (.tmp 39) (.tmp 41) 28 rfl w4.heap.size 50 r0 _ 2 48 Tryz.underlying28 hr0 hrz hr1' hr2' rfl (by omega) _ j (fl2 (vs.take j)) rfl (OA2.out _) ⟨w5.heap.size, 0, none⟩ 1 1 [.slice q5 m5 g5, .slice q6 m6 g6] rfl rfl ?_ ?_ ?_ ?_ ?_ ?_)
              · intro j' y hj'
                rw [Addr.add_lit, Nat.zero_add, cell_of_row _ _ j' _ _ _ (hnew rfl)]
                match j' with
                | 0 => simpa using hj'
                | 1 => simpa using hj'
                | j' + 2 => simp at hj'
              · intro y hy; simp at hy; rcases hy with rfl | rfl <;> rfl
              · unfold maxLen; omega
              · omega
              · simp; omega
              intro v6 w6 ho6 hg6 _
              obtain ⟨qb, cb, rfl⟩ := owns_shape ho6
              have BB : Hid (Below w4.heap.size w4 w6) := (al BA.out sA).grown hg6 (by simp; omega) (fun kk hk => (OA.out.lt kk hk).1)
              have OB := Lib.hid ho6
              have HD6 := Lib.hid (HD.out.keep BB.out)
              have sB := BB.out.size
              clear ho6 hg6 x0 x1 OA2
              go_wp2_with (at_builtin; refine wpList_append_two w6 rfl (.tmp 43) (.tmp 46) 28 rfl w4.heap.size 50 r0 _ 48 Tryz.underlying28 hr0 hrz hr1' hr2' rfl (.slice qb (j + 1) cb) (j + 1) _ rfl OB.out (some ⟨bk, ok + j * 2, none⟩) 0 (ck - j) [] rfl HD6.out (by unfold maxLen; omega) (by omega) sB ?_)
              intro v7 w7 ho7 hg7
              obtain ⟨qc, cc, rfl⟩ := owns_shape ho7
              have BC : Hid (Below w4.heap.size w4 w7) := BB.out.grown hg7 sB (fun kk hk => (OB.out.lt kk hk).1)
              have FIN : Hid (RwN w4 w7 50 qc (j + 1) cc (K.take j ++ Y :: K.drop j)) := by
                have ho7' : w7.ownsRow w4.heap.size 50 2 (.slice qc (j + 1) cc) (j + 1) (fl2 (vs.take j ++ (Value.slice q5 m5 g5, Value.slice q6 m6 g6) :: vs.drop j)) := by
                  have e : fl2 (vs.take j ++ (Value.slice q5 m5 g5, Value.slice q6 m6 g6) :: vs.drop j) = fl2 (vs.take j) ++ [Value.slice q5 m5 g5, Value.slice q6 m6 g6] ++ fl2 (vs.drop j) := by
                    rw [fl2_append, List.append_assoc]; rfl
                  rw [e]
                  try rw [← HUS.out]
                  first | exact ho7 | simpa [fl2] using ho7
                have hvl := VS.out.len
                refine ⟨BC.out, by rw [List.length_append, List.length_cons, List.length_take, List.length_drop, HLEN.out]; omega, _, ho7', ?_⟩
                intro i k' hi
                have hkl := HLEN.out
                by_cases h1 : i < j
                · rw [List.getElem?_append_left (by rw [List.length_take]; omega), List.getElem?_take, if_pos h1] at hi
                  obtain ⟨u, hu⟩ : ∃ u, vs[i]? = some u := ⟨_, List.getElem?_eq_getElem (by omega)⟩
                  obtain ⟨k2, hk2, hp⟩ := VK.out i u hu
                  rw [hi] at hk2; cases hk2
                  exact ⟨u, by rw [List.getElem?_append_left (by rw [List.length_take]; omega), List.getElem?_take, if_pos h1]; exact hu, hp⟩
                · have lt1 : (K.take j).length = j := by rw [List.length_take]; omega
                  have lt2 : (vs.take j).length = j := by rw [List.length_take]; omega
                  by_cases h2 : i = j
                  · subst h2
                    rw [List.getElem?_append_right (by omega), lt1, Nat.sub_self, List.getElem?_cons_zero] at hi
                    cases hi
                    exact ⟨_, by rw [List.getElem?_append_right (by omega), lt2, Nat.sub_self, List.getElem?_cons_zero], q5, m5, g5, q6, m6, g6, rfl, Y5.out, Y6.out⟩
                  · obtain ⟨d, hd⟩ : ∃ d, i - j = d + 1 := ⟨i - j - 1, by omega⟩
                    rw [List.getElem?_append_right (by omega), lt1, hd, List.getElem?_cons_succ, List.getElem?_drop] at hi
                    obtain ⟨u, hu⟩ : ∃ u, vs[j + d]? = some u := by
                      have := (List.getElem?_eq_some_iff.1 hi).1
                      exact ⟨_, List.getElem?_eq_getElem (by omega)⟩
                    obtain ⟨k2, hk2, hp⟩ := VK.out (j + d) u hu
                    rw [hi] at hk2; cases hk2
                    exact ⟨u, by rw [List.getElem?_append_right (by omega), lt2, hd, List.getElem?_cons_succ, List.getElem?_drop]; exact hu, hp⟩
              have BF : Hid (Below w.heap.size w w7) := bl B4.out BC.out B4.out.size
              clear ho7 hg7
              go_wp2
              go_ret
              refine ⟨qc, _, cc, ?_, rfl, by rw [HRES.out]; exact FIN.out.rwS, BF.out, .inr ⟨w4, B4.out.size, by rw [HRES.out]; exact FIN.out⟩⟩
              rw [HRES.out, List.length_append, List.length_cons, List.length_take, List.length_drop, HLEN.out]; omega
theorem Insert_any (wd t : Nat) (pk : Option Addr) (nk ck : Nat) (K : List Rw) (p1 p2 : Option Addr) (n1 c1 n2 c2 : Nat) (x : Rw) (w : World) (hK : RwS w pk nk ck K) (s1 : Sl B8 w p1 n1 c1 x.1) (s2 : Sl B8 w p2 n2 c2 x.2)
    (hfit : ∀ k, k ∈ K → Fit wd t k ∧ Led k) (hx : Fit wd t x) (hr1 : Room wd) (hr2 : Room t) (hnk : nk ≤ 65535) :
    Calls Tryz.prog 25 #[.slice pk nk ck, .agg #[.slice p1 n1 c1, .slice p2 n2 c2]] w (RetK w (insF K x)) :=
  (Insert_own wd t pk nk ck K p1 p2 n1 c1 n2 c2 x w hK s1 s2 hfit hx hr1 hr2 hnk).mono fun _ _ ⟨q, n, c, h1, h2, h3, h4, _⟩ => ⟨q, n, c, h1, h2, h3, h4⟩
end Go.Proofs.YtbfmdfbnhakolaaGreatDoor
namespace Go.By
open Go.RowKit
theorem one_cell' {w : World} {v : Value} {T g : Nat} (hg : g = w.heap.size) : ∀ (j : Nat) (u : Value), [v][j]? = some u → (w.alloc (.cells #[v] T)).cell? ((⟨g, 0, none⟩ : Addr).add j) = some u := by
  intro j u hj
  rw [Addr.add_lit, Nat.zero_add, cell_of_row _ _ j _ _ _ (hnew hg)]
  match j with
  | 0 => simpa using hj
  | j + 1 => simp at hj
end Go.By
namespace Go.Proofs.YtbfmdfbnhakolaaGreatDoor
open Go.RowKit Go.By
def turnX (wd : Nat) (xss : List (List UInt8)) : List (List UInt8) := (List.range wd).map fun b => xss.map fun row => row.getD b 0
theorem range_map_succ {α : Type} (f : Nat → α) (k : Nat) : (List.range (k + 1)).map f = (List.range k).map f ++ [f k] := by rw [List.range_succ, List.map_append]; rfl
theorem take_map_succ' {α β : Type} (f : α → β) {xs : List α} {k : Nat} {x : α} (hx : xs[k]? = some x) : (xs.take (k + 1)).map f = (xs.take k).map f ++ [f x] := by
  rw [List.take_add_one, hx, List.map_append]; rfl
end Go.Proofs.YtbfmdfbnhakolaaGreatDoor
namespace Go.Proofs.YtbfmdfbnhakolaaGreatDoor
open Go.RowKit Go.By
/-- the reference's rows kept of a list -/
def iK (rows : List (List UInt8)) : List Rw := rows.foldl (fun K r => insF K (r, [])) []
theorem iK_snoc (rows : List (List UInt8)) (r : List UInt8) : iK (rows ++ [r]) = insF (iK rows) (r, []) := by unfold iK; rw [List.foldl_append]; rfl
theorem iK_take {rows : List (List UInt8)} {k : Nat} {r : List UInt8} (h : rows[k]? = some r) : iK (rows.take (k + 1)) = insF (iK (rows.take k)) (r, []) := by
  have e : rows.take (k + 1) = rows.take k ++ [r] := by rw [List.take_add_one, h]; rfl
  rw [e, iK_snoc]
theorem insF_len (K : List Rw) (x : Rw) : (insF K x).length ≤ K.length + 1 := by rw [(ins_perm K x).length_eq]; exact keepF_len K x
theorem iK_len (rows : List (List UInt8)) : ∀ k, (iK (rows.take k)).length ≤ k
  | 0 => by simp [iK]
  | k + 1 => by
    by_cases h : k < rows.length
    · rw [iK_take (List.getElem?_eq_getElem h)]; exact Nat.le_trans (insF_len _ _) (Nat.succ_le_succ (iK_len rows k))
    · have e : rows.take (k + 1) = rows.take k := by rw [List.take_of_length_le (by omega), List.take_of_length_le (by omega)]
      rw [e]; exact Nat.le_succ_of_le (iK_len rows k)
theorem iK_kept {wd : Nat} {rows : List (List UInt8)} (hl : ∀ r, r ∈ rows → r.length = wd) : ∀ k, KeptS wd 0 (iK (rows.take k))
  | 0 => by simpa [iK] using KeptS.nil wd 0
  | k + 1 => by
    by_cases h : k < rows.length
    · rw [iK_take (List.getElem?_eq_getElem h)]; exact (iK_kept hl k).step ⟨hl _ (List.getElem_mem h), rfl⟩
    · have e : rows.take (k + 1) = rows.take k := by rw [List.take_of_length_le (by omega), List.take_of_length_le (by omega)]
      rw [e]; exact iK_kept hl k
set_option maxRecDepth 100000 in
set_option maxHeartbeats 4000000 in
theorem RRank_any (wd : Nat) (p : Option Addr) (m c : Nat) (rows : List (List UInt8)) (w : World) (h : Sl2 w p m c rows) (hall : ∀ x, x ∈ rows → x.length = wd) (hw : Room wd) (hm : m ≤ 65535) :
    Calls Tryz.prog 10 #[.slice p m c] w fun e w' => e = .returned (.int .i64 (iK rows).length) ∧ Below w.heap.size w w' := by
  have HKK : Hid (∀ k, KeptS wd 0 (iK (rows.take k))) := iK_kept hall
  have HALL := Lib.hid hall; have HW := Lib.hid hw; have HLEN := Lib.hid h.len; have H := Lib.hid h
  clear h hall hw
  go_enter Tryz.func10, Tryz.ntmps10
  go_wp2
  go_loopw [3, 8] (fun l i wr => ∃ (k nk : Nat) (qk : Option Addr) (ck : Nat), k ≤ m ∧ nk ≤ k ∧ i = .int .i64 k ∧ l = .slice qk nk ck ∧ Hid (RwS wr qk nk ck (iK (rows.take k))) ∧ Hid (Below w.heap.size w wr)) (fun _ i _ => m - (intOf i).toNat)
  case atStart => exact ⟨0, 0, none, 0, Nat.zero_le _, Nat.zero_le _, rfl, rfl, Lib.hid (by simpa [iK] using RwS.nil0 w), Below.refl _ _⟩
  case round =>
    obtain ⟨k, nk, qk, ck, hk, hnk, rfl, rfl, hK, hB⟩ := hrel
    by_cases hlt : k < m
    · have kn : (k : Int) < (m : Int) := by omega
      obtain ⟨b, o, q, mx, cx, row, rfl, hc, hs, hx⟩ := H.out.at k hlt
      have hcw := (hB.out.cell (p := ⟨b, o + k, none⟩) (lt_of_cell hc)).trans hc
      have HS : Hid (Sl B8 wr q mx cx row) := hs.keep hB.out
      have HX : Hid (iK (rows.take (k + 1)) = insF (iK (rows.take k)) (row, [])) := iK_take hx.out
      have hfit := Lib.hid (HKK.out k)
      have hrow : Hid (row.length = wd) := HALL.out row (List.mem_of_getElem? hx.out)
      have hln := Lib.hid (iK_len rows (k + 1))
      clear hc hs hx
      go_wp2_with fail
      refine Calls.mono (Insert_any wd 0 qk nk ck (iK (rows.take k)) q none mx cx 0 0 (row, []) wr hK.out HS.out (Sl.nil0 _ _) hfit.out.rows ⟨hrow.out, rfl⟩ HW.out (by unfold Room; omega) (by omega)) ?_
      rintro e w2 ⟨q2, n2, c2, hn2, rfl, hK2, hb2⟩
      have P2 : Hid (RwS w2 q2 n2 c2 (iK (rows.take (k + 1))) ∧ Below w.heap.size w w2) := ⟨by rw [HX.out]; exact hK2, bl hB.out hb2 hB.out.size⟩
      have hle : n2 ≤ k + 1 := by rw [hn2, ← HX.out]; exact hln.out
      clear hK2 hb2 hcw hK hB HX hn2
      go_wp2
      go_roundw
      case rel => exact ⟨k + 1, n2, q2, c2, by omega, hle, by go_num, rfl, P2.out.1, P2.out.2⟩
      case measure => simp [intOf]; omega
    · have hkm : k = m := by omega
      have hge : (m : Int) ≤ (k : Int) := by omega
      have hz : rows.take k = rows := List.take_of_length_le (by rw [HLEN.out, hkm]; exact Nat.le_refl _)
      have HL : Hid ((iK rows).length = nk) := by have := hK.out.len; rw [hz] at this; exact this
      have BF := Lib.hid hB.out
      clear hK hB hz hkm
      go_wp2
      go_ret
      exact ⟨by rw [HL.out]; rfl, BF.out⟩
end Go.Proofs.YtbfmdfbnhakolaaGreatDoor
namespace Gf
def sumN : Nat → (Nat → UInt8) → UInt8
  | 0, _ => 0
  | n + 1, f => sumN n f ^^^ f n
theorem sumN_congr {n : Nat} {f g : Nat → UInt8} (h : ∀ i, i < n → f i = g i) : sumN n f = sumN n g := by
  induction n with
  | zero => rfl
  | succ n ih => simp only [sumN]; rw [ih (fun i hi => h i (by omega)), h n (by omega)]
theorem sumN_zero {n : Nat} {f : Nat → UInt8} (h : ∀ i, i < n → f i = 0) : sumN n f = 0 := by
  induction n with
  | zero => rfl
  | succ n ih => simp only [sumN]; rw [ih (fun i hi => h i (by omega)), h n (by omega), xor_self]
theorem sumN_add (n : Nat) (f g : Nat → UInt8) : sumN n (fun i => f i ^^^ g i) = sumN n f ^^^ sumN n g := by
  induction n with
  | zero => simp [sumN, xor_self]
  | succ n ih => simp only [sumN]; rw [ih, xor4]
theorem sumN_scale (n : Nat) (x : UInt8) (f : Nat → UInt8) : sumN n (fun i => gmul x (f i)) = gmul x (sumN n f) := by
  induction n with
  | zero => simp [sumN, gmul_zero]
  | succ n ih => simp only [sumN]; rw [ih, gmul_xor_right]
theorem sumN_one {n p : Nat} {f : Nat → UInt8} (hp : p < n) (h : ∀ i, i < n → i ≠ p → f i = 0) : sumN n f = f p := by
  induction n with
  | zero => omega
  | succ n ih =>
    simp only [sumN]
    by_cases e : p = n
    · subst e; rw [sumN_zero (fun i hi => h i (by omega) (by omega)), zero_xor]
    · rw [ih (by omega) (fun i hi hne => h i (by omega) hne), h n (by omega) (by omega), xor_zero]
theorem dsum (N : Nat) (f : Nat → Nat → UInt8) (h : ∀ i k, k < i → f i k = f k (i - 1)) : sumN (N + 1) (fun i => sumN N (f i)) = 0 := by
  induction N with
  | zero => simp [sumN, xor_self]
  | succ N ih =>
    have e : sumN (N + 2) (fun i => sumN (N + 1) (f i)) = sumN (N + 1) (fun i => sumN N (f i) ^^^ f i N) ^^^ sumN (N + 1) (f (N + 1)) := rfl
    have e2 : sumN (N + 1) (f (N + 1)) = sumN (N + 1) (fun i => f i N) := sumN_congr fun i hi => by rw [h (N + 1) i hi]; rfl
    rw [e, sumN_add, ih, zero_xor, e2, xor_self]
/-- columns but one -/
def skip (i k : Nat) : Nat := if k < i then k else k + 1
def minor (A : Nat → V) (i : Nat) : Nat → V := fun r c => A (r + 1) (skip i c)
def det : Nat → (Nat → V) → UInt8
  | 0, _ => 1
  | n + 1, A => sumN (n + 1) (fun i => gmul (A 0 i) (det n (minor A i)))
theorem det_succ (n : Nat) (A : Nat → V) : det (n + 1) A = sumN (n + 1) (fun i => gmul (A 0 i) (det n (minor A i))) := rfl
theorem skip_lt {i k n : Nat} (hk : k < n) : skip i k < n + 1 := by unfold skip; split <;> omega
theorem det_congr : ∀ {n : Nat} {A B : Nat → V}, (∀ r c, r < n → c < n → A r c = B r c) → det n A = det n B
  | 0, _, _, _ => rfl
  | n + 1, A, B, h => by
    rw [det_succ, det_succ]
    exact sumN_congr fun i hi => by
      rw [h 0 i (by omega) hi, det_congr (A := minor A i) (B := minor B i) (fun r c hr hc => h (r + 1) _ (by omega) (skip_lt hc))]
def setR (A : Nat → V) (r : Nat) (v : V) : Nat → V := fun k => if k = r then v else A k
theorem setR_same (A : Nat → V) (r : Nat) (v : V) : setR A r v r = v := by simp [setR]
theorem setR_ne (A : Nat → V) {r k : Nat} (v : V) (h : k ≠ r) : setR A r v k = A k := by simp [setR, h]
theorem setR_self (A : Nat → V) (r : Nat) : setR A r (A r) = A := by funext k; unfold setR; split <;> simp_all
theorem setR_setR (A : Nat → V) (r : Nat) (u v : V) : setR (setR A r u) r v = setR A r v := by funext k; unfold setR; split <;> simp_all
theorem setR_comm (A : Nat → V) {r s : Nat} (u v : V) (h : r ≠ s) : setR (setR A r u) s v = setR (setR A s v) r u := by
  funext k; unfold setR; split <;> split <;> simp_all
theorem minor_set0 (A : Nat → V) (v : V) (i : Nat) : minor (setR A 0 v) i = minor A i := by
  funext r c; simp [minor, setR]
theorem minor_set (A : Nat → V) (r : Nat) (v : V) (i : Nat) : minor (setR A (r + 1) v) i = setR (minor A i) r (fun c => v (skip i c)) := by
  funext k c; simp only [minor, setR]; by_cases h : k = r <;> simp [h, minor]
/-- linear in each row -/
theorem det_lin : ∀ {n r : Nat} (A : Nat → V) (x : UInt8) (u v : V), r < n → det n (setR A r (fun j => u j ^^^ gmul x (v j))) = det n (setR A r u) ^^^ gmul x (det n (setR A r v))
  | n + 1, 0, A, x, u, v, _ => by
    simp only [det_succ, minor_set0, setR_same]
    rw [← sumN_scale, ← sumN_add]
    exact sumN_congr fun i _ => by rw [gmul_xor_left, gmul_assoc]
  | n + 1, r + 1, A, x, u, v, h => by
    simp only [det_succ, minor_set]
    rw [← sumN_scale, ← sumN_add]
    refine sumN_congr fun i _ => ?_
    have e : ∀ w : V, setR A (r + 1) w 0 = A 0 := fun w => setR_ne _ _ (by omega)
    rw [e, e, e, det_lin (minor A i) x (fun c => u (skip i c)) (fun c => v (skip i c)) (by omega), gmul_xor_right]
    congr 1
    rw [← gmul_assoc, ← gmul_assoc, gmul_comm x]
theorem det_zero_row {n r : Nat} (A : Nat → V) (h : r < n) : det n (setR A r (fun _ => 0)) = 0 := by
  have := det_lin A 1 (fun _ => 0) (fun _ => 0) h
  have e : (fun (_ : Nat) => (0 : UInt8) ^^^ gmul 1 0) = fun _ => 0 := by funext j; rw [gmul_zero, xor_self]
  rw [e, one_gmul, xor_self] at this
  exact this
theorem det_scale {n r : Nat} (A : Nat → V) (x : UInt8) (v : V) (h : r < n) : det n (setR A r (fun j => gmul x (v j))) = gmul x (det n (setR A r v)) := by
  have := det_lin A x (fun _ => 0) v h
  have e : (fun (j : Nat) => (0 : UInt8) ^^^ gmul x (v j)) = fun j => gmul x (v j) := by funext j; rw [zero_xor]
  rw [e, det_zero_row A h, zero_xor] at this
  exact this
def sw (A : Nat → V) (r s : Nat) : Nat → V := setR (setR A r (A s)) s (A r)
theorem det_sw_of {n r s : Nat} (hr : r < n) (hs : s < n) (hne : r ≠ s) (alt : ∀ A : Nat → V, A r = A s → det n A = 0) (A : Nat → V) : det n (sw A r s) = det n A := by
  have key : ∀ x y : V, det n (setR (setR A r x) s y) = det n (setR (setR A r y) s x) := by
    intro x y
    have z : ∀ w : V, det n (setR (setR A r w) s w) = 0 := fun w => alt _ (by rw [setR_ne _ _ hne, setR_same, setR_same])
    have h1 := z (fun j => x j ^^^ gmul 1 (y j))
    rw [det_lin (setR A r _) 1 x y hs, setR_comm _ _ _ hne, det_lin (setR A s x) 1 x y hr, setR_comm A (s := s) (r := r) _ _ hne, det_lin (setR A s y) 1 x y hr] at h1
    rw [one_gmul, one_gmul, one_gmul] at h1
    rw [← setR_comm A x x hne, ← setR_comm A y y hne, z, z, zero_xor, xor_zero, ← setR_comm A y x hne, ← setR_comm A x y hne] at h1
    exact (xor_eq_zero h1).symm
  unfold sw
  rw [key, setR_self, setR_self]
theorem skip_skip {i k c : Nat} (h : k < i) : skip i (skip k c) = skip k (skip (i - 1) c) := by
  by_cases h1 : c < k
  · have a : skip k c = c := if_pos h1
    have b : skip (i - 1) c = c := if_pos (by omega)
    rw [a, b, a]; exact if_pos (by omega)
  · have a : skip k c = c + 1 := if_neg h1
    by_cases h2 : c + 1 < i
    · have b : skip (i - 1) c = c := if_pos (by omega)
      rw [a, b, a]; exact if_pos h2
    · have b : skip (i - 1) c = c + 1 := if_neg (by omega)
      have d : skip i (c + 1) = c + 1 + 1 := if_neg h2
      have f : skip k (c + 1) = c + 1 + 1 := if_neg (by omega)
      rw [a, b, d, f]
theorem minor_minor (A : Nat → V) {i k : Nat} (h : k < i) : minor (minor A i) k = minor (minor A k) (i - 1) := by
  funext r c
  simp only [minor]
  rw [skip_skip h]
/-- nought where two rows are the same -/
theorem det_alt : ∀ {n r s : Nat} (A : Nat → V), r < s → s < n → A r = A s → det n A = 0
  | n + 1, r + 1, s + 1, A, h1, h2, he => by
    rw [det_succ]
    exact sumN_zero fun i _ => by
      rw [det_alt (n := n) (r := r) (s := s) (minor A i) (by omega) (by omega) (by funext c; simp only [minor]; rw [he]), gmul_zero]
  | n + 2, 0, 1, A, _, _, he => by
    rw [det_succ]
    have e : ∀ i, i < n + 2 → gmul (A 0 i) (det (n + 1) (minor A i)) = sumN (n + 1) (fun k => gmul (A 0 i) (gmul (A 0 (skip i k)) (det n (minor (minor A i) k)))) := by
      intro i _
      rw [sumN_scale, det_succ]
      congr 1
      exact sumN_congr fun k _ => by simp only [minor]; rw [he]
    rw [sumN_congr e]
    refine dsum (n + 1) (fun i k => gmul (A 0 i) (gmul (A 0 (skip i k)) (det n (minor (minor A i) k)))) (fun i k hk => ?_)
    have s1 : skip i k = k := by unfold skip; rw [if_pos hk]
    have s2 : skip k (i - 1) = i := by unfold skip; rw [if_neg (by omega)]; omega
    rw [s1, s2, minor_minor A hk, ← gmul_assoc, ← gmul_assoc, gmul_comm (A 0 i)]
  | n + 2, 0, s + 2, A, _, h2, he => by
    have alt : ∀ B : Nat → V, B 1 = B (s + 2) → det (n + 2) B = 0 := by
      intro B hB
      rw [det_succ]
      exact sumN_zero fun i _ => by
        rw [det_alt (n := n + 1) (r := 0) (s := s + 1) (minor B i) (by omega) (by omega) (by funext c; simp only [minor]; rw [hB]), gmul_zero]
    rw [← det_sw_of (r := 1) (s := s + 2) (by omega) h2 (by omega) alt A, det_succ]
    have hz : (sw A 1 (s + 2)) 0 = (sw A 1 (s + 2)) 1 := by
      unfold sw
      rw [setR_ne _ _ (by omega), setR_ne _ _ (by omega), setR_ne _ _ (by omega), setR_same, he]
    obtain ⟨B, hB⟩ : ∃ B, B = sw A 1 (s + 2) := ⟨_, rfl⟩
    rw [← hB] at hz ⊢
    have e : ∀ i, i < n + 2 → gmul (B 0 i) (det (n + 1) (minor B i)) = sumN (n + 1) (fun k => gmul (B 0 i) (gmul (B 0 (skip i k)) (det n (minor (minor B i) k)))) := by
      intro i _
      rw [sumN_scale, det_succ]
      congr 1
      exact sumN_congr fun k _ => by simp only [minor]; rw [hz]
    rw [sumN_congr e]
    refine dsum (n + 1) (fun i k => gmul (B 0 i) (gmul (B 0 (skip i k)) (det n (minor (minor B i) k)))) (fun i k hk => ?_)
    have s1 : skip i k = k := by unfold skip; rw [if_pos hk]
    have s2 : skip k (i - 1) = i := by unfold skip; rw [if_neg (by omega)]; omega
    rw [s1, s2, minor_minor B hk, ← gmul_assoc, ← gmul_assoc, gmul_comm (B 0 i)]
  | 0, r, s, A, h1, h2, he => by omega
  | 1, 0, s, A, h1, h2, he => by omega
theorem det_same {n r s : Nat} (A : Nat → V) (hr : r < n) (hs : s < n) (hne : r ≠ s) (he : A r = A s) : det n A = 0 := by
  rcases Nat.lt_or_gt_of_ne hne with h | h
  · exact det_alt A h hs he
  · exact det_alt A h hr he.symm
theorem det_sw {n r s : Nat} (A : Nat → V) (hr : r < n) (hs : s < n) (hne : r ≠ s) : det n (sw A r s) = det n A := det_sw_of hr hs hne (fun B hB => det_same B hr hs hne hB) A
/-- a row more of another one -/
theorem det_less {n r s : Nat} (A : Nat → V) (x : UInt8) (hr : r < n) (hs : s < n) (hne : r ≠ s) : det n (setR A r (fun j => A r j ^^^ gmul x (A s j))) = det n A := by
  rw [det_lin A x (A r) (A s) hr, setR_self, det_same (setR A r (A s)) hr hs hne (by rw [setR_same, setR_ne _ _ (Ne.symm hne)]), gmul_zero, xor_zero]
theorem det_row {n r : Nat} (A : Nat → V) (x : UInt8) (hr : r < n) : det n (setR A r (fun j => gmul x (A r j))) = gmul x (det n A) := by
  rw [det_scale A x (A r) hr, setR_self]
theorem det_unit : ∀ n, det n unit = 1
  | 0 => rfl
  | n + 1 => by
    rw [det_succ, sumN_one (p := 0) (by omega) (fun i _ hi => by
      have : unit 0 i = 0 := by simp only [unit]; rw [if_neg (fun h => hi h.symm)]
      rw [this, zero_gmul])]
    have e : minor unit 0 = unit := by funext r c; simp [minor, unit, skip]
    rw [e, det_unit n]; simp [unit, one_gmul]
theorem det_sum {n p : Nat} (A : Nat → V) (hp : p < n) (d : Nat → UInt8) (B : Nat → V) : ∀ m, det n (setR A p (fun j => sumN m (fun i => gmul (d i) (B i j)))) = sumN m (fun i => gmul (d i) (det n (setR A p (B i))))
  | 0 => by simp only [sumN]; exact det_zero_row A hp
  | m + 1 => by
    simp only [sumN]
    rw [det_lin A (d m) _ (B m) hp, det_sum A hp d B m]
/-- rows that depend: nought -/
theorem det_dep {n p : Nat} (A : Nat → V) (c : Nat → UInt8) (hp : p < n) (hc : c p ≠ 0) (hz : ∀ j, sumN n (fun i => gmul (c i) (A i j)) = 0) : det n A = 0 := by
  have h1 := det_sum A hp c A n
  have e : (fun j => sumN n (fun i => gmul (c i) (A i j))) = fun _ => 0 := by funext j; exact hz j
  rw [e, det_zero_row A hp, sumN_one hp (fun i hi hne => by
    rw [det_same (setR A p (A i)) hp hi (Ne.symm hne) (by rw [setR_same, setR_ne _ _ hne]), gmul_zero]), setR_self] at h1
  rcases gmul_eq_zero h1.symm with h | h
  · exact absurd h hc
  · exact h
theorem comb_sumN (j : Nat) : ∀ (c : List UInt8) (A : List V), c.length = A.length → comb c A j = sumN A.length (fun i => gmul (c.getD i 0) ((A.getD i fun _ => 0) j))
  | [], [], _ => rfl
  | x :: c, a :: A, h => by
    have sh : ∀ (f : Nat → UInt8) (n : Nat), sumN (n + 1) f = f 0 ^^^ sumN n (fun i => f (i + 1)) := by
      intro f n
      induction n with
      | zero => simp [sumN, xor_comm]
      | succ n ih =>
        have e : sumN (n + 2) f = sumN (n + 1) f ^^^ f (n + 1) := rfl
        rw [e, ih, xor_assoc]; rfl
    rw [List.length_cons, sh, comb_cons, comb_sumN j c A (by simpa using h)]
    rfl
theorem det_not_ind {n : Nat} {A : List V} (hn : A.length = n) (h : ¬ Ind A) : det n (fun i => A.getD i fun _ => 0) = 0 := by
  have hex : ∃ c : List UInt8, c.length = A.length ∧ (∀ j, comb c A j = 0) ∧ ∃ x, x ∈ c ∧ x ≠ 0 := by
    apply Classical.byContradiction
    intro hne
    apply h
    intro c hc hz x hx
    apply Classical.byContradiction
    intro hx0
    exact hne ⟨c, hc, hz, x, hx, hx0⟩
  obtain ⟨c, hc, hz, x, hx, hx0⟩ := hex
  obtain ⟨p, hp, rfl⟩ := List.getElem_of_mem hx
  refine det_dep (p := p) _ (fun i => c.getD i 0) (by omega) (by simpa [List.getD_eq_getElem?_getD, List.getElem?_eq_getElem hp] using hx0) (fun j => ?_)
  have := hz j
  rw [comb_sumN j c A hc, hn] at this
  exact this
end Gf
namespace Go.Proofs.YtbfmdfbnhakolaaGreatDoor
open Go.By Gf
def rowsV (n : Nat) (A : Nat → V) : List V := (List.range n).map A
theorem rowsV_mem {n i : Nat} {A : Nat → V} (h : i < n) : Sp (rowsV n A) (A i) := Sp.mem (List.mem_map.2 ⟨i, List.mem_range.2 h, rfl⟩)
/-- what the steps keep of the rows of a square -/
structure Kin (n : Nat) (G : List V) (A : Nat → V) : Prop where
  det : det n (fun i => G.getD i fun _ => 0) = 0 → Gf.det n A = 0
  span : ∀ g, g ∈ G → Sp (rowsV n A) g
theorem Kin.of {n : Nat} {G : List V} {A B : Nat → V} (h : Kin n G A) (hd : Gf.det n A = 0 → Gf.det n B = 0) (hs : ∀ i, i < n → Sp (rowsV n B) (A i)) : Kin n G B :=
  ⟨fun e => hd (h.det e), fun g hg => Sp.trans (fun a ha => by
    obtain ⟨i, hi, rfl⟩ := List.mem_map.1 ha
    exact hs i (List.mem_range.1 hi)) (h.span g hg)⟩
theorem Kin.row {n r : Nat} {G : List V} {A : Nat → V} {x y : UInt8} (h : Kin n G A) (hr : r < n) (hxy : gmul y x = 1) : Kin n G (setR A r (fun j => gmul x (A r j))) := by
  refine h.of (fun e => by rw [det_row A x hr, e, gmul_zero]) (fun i hi => ?_)
  by_cases hir : i = r
  · have h1 := Sp.scale y (rowsV_mem (A := setR A r (fun j => gmul x (A r j))) hr)
    rw [setR_same] at h1
    have e : (fun j => gmul y (gmul x (A r j))) = A r := by funext j; rw [← gmul_assoc, hxy, one_gmul]
    rw [e] at h1; rw [hir]; exact h1
  · have h1 := rowsV_mem (A := setR A r (fun j => gmul x (A r j))) hi
    rwa [setR_ne _ _ hir] at h1
theorem Kin.less {n r s : Nat} {G : List V} {A : Nat → V} (x : UInt8) (h : Kin n G A) (hr : r < n) (hs : s < n) (hne : r ≠ s) : Kin n G (setR A r (fun j => A r j ^^^ gmul x (A s j))) := by
  refine h.of (fun e => by rw [det_less A x hr hs hne, e]) (fun i hi => ?_)
  by_cases hir : i = r
  · have h1 := rowsV_mem (A := setR A r (fun j => A r j ^^^ gmul x (A s j))) hr
    have h2 := Sp.scale x (rowsV_mem (A := setR A r (fun j => A r j ^^^ gmul x (A s j))) hs)
    rw [setR_same] at h1
    rw [setR_ne _ _ (Ne.symm hne)] at h2
    have h3 := Sp.add h1 h2
    have e : (fun j => (A r j ^^^ gmul x (A s j)) ^^^ gmul x (A s j)) = A r := by funext j; rw [xor_assoc, xor_self, xor_zero]
    rw [e] at h3; rw [hir]; exact h3
  · have h1 := rowsV_mem (A := setR A r (fun j => A r j ^^^ gmul x (A s j))) hi
    rwa [setR_ne _ _ hir] at h1
theorem Kin.sw {n r s : Nat} {G : List V} {A : Nat → V} (h : Kin n G A) (hr : r < n) (hs : s < n) : Kin n G (Gf.sw A r s) := by
  by_cases hne : r = s
  · subst hne
    have e : Gf.sw A r r = A := by unfold Gf.sw; rw [setR_setR, setR_self]
    rw [e]; exact h
  · refine h.of (fun e => by rw [det_sw A hr hs hne, e]) (fun i hi => ?_)
    by_cases h1 : i = r
    · have := rowsV_mem (A := Gf.sw A r s) hs
      unfold Gf.sw at this; rw [setR_same] at this; rw [h1]; exact this
    · by_cases h2 : i = s
      · have := rowsV_mem (A := Gf.sw A r s) hr
        unfold Gf.sw at this; rw [setR_ne _ _ hne, setR_same] at this; rw [h2]; exact this
      · have := rowsV_mem (A := Gf.sw A r s) hi
        unfold Gf.sw at this; rw [setR_ne _ _ h2, setR_ne _ _ h1] at this; exact this
def updF (F : Nat → Rw) (i : Nat) (r : Rw) : Nat → Rw := fun k => if k = i then r else F k
theorem updF_same (F : Nat → Rw) (i : Nat) (r : Rw) : updF F i r i = r := by simp [updF]
theorem updF_ne (F : Nat → Rw) {i k : Nat} (r : Rw) (h : k ≠ i) : updF F i r k = F k := by simp [updF, h]
def vrow (F : Nat → Rw) : Nat → V := fun i => vf (F i).1
theorem vrow_upd (F : Nat → Rw) (i : Nat) (r : Rw) : vrow (updF F i r) = setR (vrow F) i (vf r.1) := by
  funext k; unfold vrow updF setR; split <;> rfl
/-- a row and its data fit the square -/
def Goodr (n : Nat) (G : List V) (r : Rw) : Prop := Fit n n r ∧ vf r.1 = mulV n G (vf r.2)
theorem Goodr.less {n : Nat} {G : List V} {x o : Rw} (c : UInt8) (hx : Goodr n G x) (ho : Goodr n G o) : Goodr n G (lessF x c o) := by
  refine ⟨hx.1.less ho.1, ?_⟩
  show vf (axpy c o.1 x.1) = mulV n G (vf (axpy c o.2 x.2))
  rw [vf_axpy (by rw [ho.1.1, hx.1.1]), vf_axpy (by rw [ho.1.2, hx.1.2]), mulV_add, hx.2, ho.2, mulV_scale]
theorem norm_split {n t : Nat} {y : Rw} (hy : Fit n t y) (h : ¬ leadS y.1 < 0) : ∃ (l : Nat) (c : UInt8), c ≠ 0 ∧ leadS y.1 = (l : Int) ∧ LeadAt (normS y) l ∧ Fit n t (normS y) ∧ vf (normS y).1 = (fun j => gmul c (vf y.1 j)) ∧ vf (normS y).2 = fun j => gmul c (vf y.2 j) := by
  obtain ⟨l, c, h1, h2, h3, h4, h5⟩ := norm_row hy h
  have cut : ∀ (r : Rw), Fit n t r → (∀ j, j < n → vf (cat r) j = vf r.1 j) ∧ ∀ j, vf (cat r) (n + j) = vf r.2 j := by
    intro r hr
    refine ⟨fun j hj => vf_app_left (by rw [hr.1]; exact hj), fun j => ?_⟩
    unfold vf cat
    rw [List.getD_eq_getElem?_getD, List.getElem?_append_right (by rw [hr.1]; omega), hr.1, Nat.add_sub_cancel_left, List.getD_eq_getElem?_getD]
  refine ⟨l, c, h1, h2, h3, h4, ?_, ?_⟩
  · funext j
    by_cases hj : j < n
    · rw [← (cut _ h4).1 j hj, h5, ← (cut _ hy).1 j hj]
    · rw [(vf_wide (normS y).1) j (by rw [h4.1]; omega), (vf_wide y.1) j (by rw [hy.1]; omega), gmul_zero]
  · funext j
    rw [← (cut _ h4).2 j, h5, ← (cut _ hy).2 j]
theorem Goodr.norm {n : Nat} {G : List V} {y : Rw} (hy : Goodr n G y) (h : ¬ leadS y.1 < 0) : Goodr n G (normS y) := by
  obtain ⟨l, c, _, _, _, h4, h5, h6⟩ := norm_split hy.1 h
  refine ⟨h4, ?_⟩
  rw [h5, h6, mulV_scale, hy.2]
/-- c columns are done -/
structure GJ (n : Nat) (G : List V) (F : Nat → Rw) (c : Nat) : Prop where
  good : ∀ i, i < n → Goodr n G (F i)
  col : ∀ i, i < n → ∀ j, j < c → vf (F i).1 j = if i = j then 1 else 0
  kin : Kin n G (vrow F)
/-- .. and of column c the first k rows -/
structure GJm (n : Nat) (G : List V) (F : Nat → Rw) (c k : Nat) : Prop where
  good : ∀ i, i < n → Goodr n G (F i)
  col : ∀ i, i < n → ∀ j, j < c → vf (F i).1 j = if i = j then 1 else 0
  kin : Kin n G (vrow F)
  lead : vf (F c).1 c = 1
  clr : ∀ i, i < k → i < n → i ≠ c → vf (F i).1 c = 0
theorem at_vf (v : List UInt8) (c : Nat) : atS v (c : Int) = vf v c := by simp [vf, atS]
theorem GJm.done {n : Nat} {G : List V} {F : Nat → Rw} {c : Nat} (h : GJm n G F c n) : GJ n G F (c + 1) :=
  ⟨h.good, fun i hi j hj => by
    by_cases hjc : j < c
    · exact h.col i hi j hjc
    · have e : j = c := by omega
      subst e
      by_cases hij : i = j
      · subst hij; rw [if_pos rfl]; exact h.lead
      · rw [if_neg hij]; exact h.clr i hi hi hij, h.kin⟩
theorem GJm.skip {n : Nat} {G : List V} {F : Nat → Rw} {c : Nat} (h : GJm n G F c c) : GJm n G F c (c + 1) :=
  ⟨h.good, h.col, h.kin, h.lead, fun i hi hn hne => h.clr i (by omega) hn hne⟩
theorem GJm.step {n : Nat} {G : List V} {F : Nat → Rw} {c k : Nat} (h : GJm n G F c k) (hc : c < n) (hk : k < n) (hne : k ≠ c) :
    GJm n G (updF F k (lessF (F k) (atS (F k).1 (c : Int)) (F c))) c (k + 1) := by
  have gk := h.good k hk
  have gc := h.good c hc
  have e1 : vf (lessF (F k) (atS (F k).1 (c : Int)) (F c)).1 = fun j => vf (F k).1 j ^^^ gmul (vf (F k).1 c) (vf (F c).1 j) := by
    show vf (axpy _ (F c).1 (F k).1) = _
    rw [vf_axpy (by rw [gc.1.1, gk.1.1]), at_vf]
  refine ⟨fun i hi => ?_, fun i hi j hj => ?_, ?_, ?_, fun i hi hn hic => ?_⟩
  · by_cases hik : i = k
    · rw [hik, updF_same]; exact gk.less _ gc
    · rw [updF_ne _ _ hik]; exact h.good i hi
  · by_cases hik : i = k
    · subst hik
      rw [updF_same, e1]
      show vf (F i).1 j ^^^ gmul _ (vf (F c).1 j) = _
      rw [h.col i hi j hj, h.col c hc j hj, if_neg (by omega : ¬ c = j), gmul_zero, xor_zero]
    · rw [updF_ne _ _ hik]; exact h.col i hi j hj
  · rw [vrow_upd, e1]; exact h.kin.less _ hk hc hne
  · rw [updF_ne _ _ (Ne.symm hne)]; exact h.lead
  · by_cases hik : i = k
    · subst hik
      rw [updF_same, e1]
      show vf (F i).1 c ^^^ gmul (vf (F i).1 c) (vf (F c).1 c) = 0
      rw [h.lead, gmul_one, xor_self]
    · rw [updF_ne _ _ hik]; exact h.clr i (by omega) hn hic
def swF (F : Nat → Rw) (c p : Nat) : Nat → Rw := updF (updF F c (F p)) p (F c)
theorem swF_at (F : Nat → Rw) (c p : Nat) : swF F c p c = F p := by
  unfold swF updF; by_cases h : c = p
  · rw [if_pos h, h]
  · rw [if_neg h, if_pos rfl]
theorem GJ.swap {n : Nat} {G : List V} {F : Nat → Rw} {c p : Nat} (h : GJ n G F c) (hc : c < n) (hp : p < n) (hcp : c ≤ p) : GJ n G (swF F c p) c := by
  refine ⟨fun i hi => ?_, fun i hi j hj => ?_, ?_⟩
  · unfold swF updF
    split
    · exact h.good c hc
    · split
      · exact h.good p hp
      · exact h.good i hi
  · unfold swF updF
    split
    · rename_i e; rw [h.col c hc j hj, if_neg (by omega), if_neg (by omega)]
    · split
      · rename_i e; rw [h.col p hp j hj, if_neg (by omega), if_neg (by omega)]
      · exact h.col i hi j hj
  · have e : vrow (swF F c p) = Gf.sw (vrow F) c p := by unfold swF; rw [vrow_upd, vrow_upd]; rfl
    rw [e]; exact h.kin.sw hc hp
theorem GJ.norm {n : Nat} {G : List V} {F : Nat → Rw} {c : Nat} (h : GJ n G F c) (hc : c < n) (hx : vf (F c).1 c ≠ 0) : GJm n G (updF F c (normS (F c))) c 0 := by
  have gc := h.good c hc
  have hnn : ¬ leadS (F c).1 < 0 := fun hneg => hx (vf_zero (leadS_neg hneg) c)
  obtain ⟨l, x, hx0, hl, hL, hF, e1, e2⟩ := norm_split gc.1 hnn
  have hN : vf (normS (F c)).1 l = 1 := by
    have := at_of hL.2.1
    rwa [at_vf] at this
  have hlc : l = c := by
    rcases Nat.lt_trichotomy l c with g | g | g
    · rw [e1] at hN
      have hN' : gmul x (vf (F c).1 l) = 1 := hN
      rw [h.col c hc l g, if_neg (by omega), gmul_zero] at hN'
      exact absurd hN' (by decide)
    · exact g
    · have hz : vf (normS (F c)).1 c = 0 := by
        unfold vf; rw [List.getD_eq_getElem?_getD]
        cases e : (normS (F c)).1[c]? with
        | none => rfl
        | some y => exact hL.2.2 c y g e
      rw [e1] at hz
      rcases gmul_eq_zero hz with h1 | h1
      · exact absurd h1 hx0
      · exact absurd h1 hx
  refine ⟨fun i hi => ?_, fun i hi j hj => ?_, ?_, ?_, fun i hi => by omega⟩
  · by_cases hic : i = c
    · rw [hic, updF_same]; exact gc.norm hnn
    · rw [updF_ne _ _ hic]; exact h.good i hi
  · by_cases hic : i = c
    · subst hic
      rw [updF_same, e1]
      show gmul x (vf (F i).1 j) = _
      rw [h.col i hi j hj, if_neg (by omega), gmul_zero]
    · rw [updF_ne _ _ hic]; exact h.col i hi j hj
  · rw [vrow_upd, e1]; exact h.kin.row hc (ginv_gmul x hx0)
  · rw [updF_same]; rw [hlc] at hN; exact hN
theorem GJ.init {n : Nat} {G : List V} {F : Nat → Rw} (hn : G.length = n) (hF : ∀ i, i < n → Fit n n (F i)) (h1 : ∀ i, i < n → G[i]? = some (vf (F i).1)) (h2 : ∀ i, i < n → vf (F i).2 = unit i) : GJ n G F 0 := by
  refine ⟨fun i hi => ⟨hF i hi, ?_⟩, fun i hi j hj => by omega, ⟨fun e => ?_, fun g hg => ?_⟩⟩
  · rw [h2 i hi, mulV_unit hn (h1 i hi)]
  · rw [← e]; exact det_congr fun r c hr hc => by
      rw [List.getD_eq_getElem?_getD, h1 r hr]; rfl
  · obtain ⟨i, hi, rfl⟩ := List.getElem_of_mem hg
    have h3 := h1 i (by omega)
    rw [List.getElem?_eq_getElem hi] at h3
    injection h3 with h3
    rw [h3]; exact rowsV_mem (A := vrow F) (by omega)
/-- no row leads there: the rank isn't full -/
theorem GJ.fail {n c r : Nat} {G : List V} {F : Nat → Rw} (h : GJ n G F c) (hc : c < n) (hz : ∀ i, c ≤ i → i < n → vf (F i).1 c = 0) (hr : Rk G r) : r < n := by
  have hW : ∀ g, g ∈ G → Sp ((List.range c).map (vrow F) ++ (List.range (n - 1 - c)).map (fun m => unit (c + 1 + m))) g := by
    intro g hg
    refine Sp.trans ?_ (h.kin.span g hg)
    intro a ha
    obtain ⟨i, hi, rfl⟩ := List.mem_map.1 ha
    have hin := List.mem_range.1 hi
    by_cases hic : i < c
    · exact Sp.mem (List.mem_append_left _ (List.mem_map.2 ⟨i, List.mem_range.2 hic, rfl⟩))
    · have hw : Wide n (vrow F i) := by have := vf_wide (F i).1; rw [(h.good i hin).1.1] at this; exact this
      rw [← coords hw]
      refine Sp.trans (A := (List.range (n - 1 - c)).map (fun m => unit (c + 1 + m))) (fun a ha => Sp.mem (List.mem_append_right _ ha)) ?_
      obtain ⟨m, hm⟩ : ∃ m, m = n - 1 - c := ⟨_, rfl⟩
      rw [← hm]
      have hs : n = (c + 1) + m := by omega
      refine ⟨(List.range m).map (fun m => vrow F i (c + 1 + m)), by simp, ?_⟩
      unfold units
      rw [hs, List.range_add, List.map_append, List.map_append]
      funext j
      rw [comb_append _ _ _ _ _ (by simp)]
      have e1 : comb ((List.range (c + 1)).map (vrow F i)) ((List.range (c + 1)).map unit) j = 0 := by
        have e2 : (List.range (c + 1)).map (vrow F i) = List.replicate (c + 1) 0 := by
          apply List.ext_getElem (by simp)
          intro k h1 h2
          simp at h1
          simp only [List.getElem_map, List.getElem_range, List.getElem_replicate]
          by_cases hk : k < c
          · show vf (F i).1 k = 0
            rw [h.col i hin k hk, if_neg (by omega)]
          · have : k = c := by omega
            rw [this]; exact hz i (by omega) hin
        rw [e2, comb_zeros]
      rw [e1, zero_xor, List.map_map, List.map_map]
      rfl
  have := hr.le_length hW
  simp at this
  omega
/-- all columns are done -/
theorem GJ.whole {n : Nat} {G : List V} {F : Nat → Rw} (h : GJ n G F n) : ((List.range n).map fun i => vf (F i).2).map (mulV n G) = units n := by
  rw [List.map_map]
  apply List.map_congr_left
  intro i hi
  have hin := List.mem_range.1 hi
  show mulV n G (vf (F i).2) = unit i
  rw [← (h.good i hin).2]
  funext j
  by_cases hj : j < n
  · rw [h.col i hin j hj]; rfl
  · rw [(vf_wide (F i).1) j (by rw [(h.good i hin).1.1]; omega), unit_wide hin j (by omega)]
theorem GJ.full {n r : Nat} {G : List V} {F : Nat → Rw} (h : GJ n G F n) (hn : G.length = n) (hr : Rk G r) : r = n := by
  have hu : Rk (units n) n := ⟨units n, units_ind n, units_length n, fun b hb => Sp.mem hb, fun b hb => Sp.mem hb⟩
  refine Nat.le_antisymm (by have := hr.le_length (W := G) (fun a ha => Sp.mem ha); omega) (hu.le hr ?_)
  intro u huu
  rw [← h.whole] at huu
  obtain ⟨d, -, rfl⟩ := List.mem_map.1 huu
  exact mulV_sp hn d
theorem GJ.det {n : Nat} {G : List V} {F : Nat → Rw} (h : GJ n G F n) : Gf.det n (fun i => G.getD i fun _ => 0) ≠ 0 := by
  intro e
  have h1 := h.kin.det e
  have h2 : Gf.det n (vrow F) = Gf.det n unit := det_congr fun i j hi hj => by
    show vf (F i).1 j = unit i j
    rw [h.col i hi j hj]; rfl
  rw [h2, det_unit] at h1
  exact absurd h1 (by decide)
end Go.Proofs.YtbfmdfbnhakolaaGreatDoor
namespace Go.Proofs.YtbfmdfbnhakolaaGreatDoor
open Go.RowKit Go.By
set_option maxHeartbeats 400000 in
theorem IndexRow_any (f : Rw → Bool) (g : Nat) (lb : Array Value) (eg : Enters Tryz.prog g) (p : Option Addr) (n c : Nat) (K : List Rw) (w : World) (h : RwS w p n c K)
    (hf : ∀ (W : World) (q1 q2 : Option Addr) (m1 c1 m2 c2 : Nat) (x : Rw), Below w.heap.size w W → Sl B8 W q1 m1 c1 x.1 → Calls Tryz.prog g (#[.agg #[.slice q1 m1 c1, .slice q2 m2 c2]] ++ lb) W fun e w' => e = .returned (.bool (f x)) ∧ Below W.heap.size W w') :
    Calls Tryz.prog 39 #[.slice p n c, .func (.func g) #[] lb] w fun e w' => e = .returned (.int .i64 (idxf f K)) ∧ Below w.heap.size w w' := by
  have hn := Nat.le_trans h.le h.max
  unfold maxLen at hn
  have H := Lib.hid h; clear h
  have HF := Lib.hid hf; clear hf
  have eg' : ∀ args w, (callFunc g args).run Tryz.prog w = .ok (.enter g args) w := eg
  clear eg
  go_enter Tryz.func39, Tryz.ntmps39
  go_wp2
  go_loopw [8] (fun i wr => ∃ k : Nat, k ≤ n ∧ i = .int .i64 k ∧ Hid (∀ j y, j < k → K[j]? = some y → f y = false) ∧ Hid (Below w.heap.size w wr)) (fun i _ => n - (intOf i).toNat)
  case atStart => exact ⟨0, Nat.zero_le _, rfl, fun j y hj => by omega, Below.refl _ _⟩
  case round =>
    obtain ⟨k, hk, rfl, hr, hB⟩ := hrel
    by_cases hlt : k < n
    · obtain ⟨x, hx⟩ : ∃ x, K[k]? = some x := ⟨_, List.getElem?_eq_getElem (by rw [H.out.len]; exact hlt)⟩
      obtain ⟨b, o, q1, m1, c1, q2, m2, c2, rfl, h1, h2, h3, -⟩ := H.out.row k x hx
      have d1 := (hB.out.cell (p := ⟨b, o + k * 2, none⟩) (lt_of_cell h1)).trans h1
      have d2 := (hB.out.cell (p := ⟨b, o + k * 2 + 1, none⟩) (lt_of_cell h2)).trans h2
      have HX := Lib.hid hx
      have HS : Hid (Sl B8 wr q1 m1 c1 x.1) := h3.keep hB.out
      have kn : (k : Int) < (n : Int) := by omega
      clear h1 h2 h3 hx
      cases hfx : f x with
      | false =>
        have HQ := Lib.hid hfx; clear hfx
        go_wp2_with fail
        refine (HF.out wr q1 q2 m1 c1 m2 c2 x hB.out HS.out).mono ?_; rintro e w2 ⟨rfl, hb2⟩
        have B2 : Hid (Below w.heap.size w w2) := bl hB.out hb2 hB.out.size
        rw [HQ.out]
        clear hb2 d1 d2 hB HS
        go_wp2
        go_roundw
        case rel =>
          refine ⟨k + 1, by omega, by go_num, fun j y hj hy => ?_, B2.out⟩
          by_cases e : j = k
          · subst e; have := HX.out.symm.trans hy; cases this; exact HQ.out
          · exact hr.out j y (by omega) hy
        case measure => simp [intOf]; omega
      | true =>
        have HQ := Lib.hid hfx; clear hfx
        go_wp2_with fail
        refine (HF.out wr q1 q2 m1 c1 m2 c2 x hB.out HS.out).mono ?_; rintro e w2 ⟨rfl, hb2⟩
        have B2 : Hid (Below w.heap.size w w2) := bl hB.out hb2 hB.out.size
        rw [HQ.out]
        clear hb2 d1 d2 hB HS
        go_wp2
        go_ret
        exact ⟨by rw [idxf_found HX.out HQ.out hr.out]; rfl, B2.out⟩
    · go_wp2
      go_ret
      exact ⟨by rw [idxf_none (k := k) (by have := H.out.len; omega) hr.out]; rfl, hB.out⟩
end Go.Proofs.YtbfmdfbnhakolaaGreatDoor
namespace Go.Proofs.YtbfmdfbnhakolaaGreatDoor
open Go.RowKit Go.By
/-- a row's two slices, not of block g -/
def RowOff (w : World) (g : Nat) (u v : Value) (r : Rw) : Prop := ∃ q1 m1 c1 q2 m2 c2, u = .slice q1 m1 c1 ∧ v = .slice q2 m2 c2 ∧ Sl B8 w q1 m1 c1 r.1 ∧ Sl B8 w q2 m2 c2 r.2 ∧ (∀ a, q1 = some a → a.block ≠ g) ∧ ∀ a, q2 = some a → a.block ≠ g
theorem RowOff.keep {w w' : World} {g : Nat} {u v : Value} {r : Rw} (h : RowOff w g u v r) (hb : Below w.heap.size w w') : RowOff w' g u v r := by
  obtain ⟨q1, m1, c1, q2, m2, c2, h1, h2, h3, h4, h5, h6⟩ := h
  exact ⟨q1, m1, c1, q2, m2, c2, h1, h2, h3.keep hb, h4.keep hb, h5, h6⟩
theorem RowOff.set {w : World} {g o : Nat} {u v x : Value} {r : Rw} (h : RowOff w g u v r) : RowOff (w.setCell ⟨g, o, none⟩ x) g u v r := by
  obtain ⟨q1, m1, c1, q2, m2, c2, h1, h2, h3, h4, h5, h6⟩ := h
  exact ⟨q1, m1, c1, q2, m2, c2, h1, h2, h3.set h5, h4.set h6, h5, h6⟩
def RMem (w : World) (g T n : Nat) (F : Nat → Rw) : Prop := ∃ cs : Array Value, w.heap[g]? = some (.cells cs T (0, 0)) ∧ cs.size = n * 2 ∧ ∀ i, i < n → ∃ u v, cs[i * 2]? = some u ∧ cs[i * 2 + 1]? = some v ∧ RowOff w g u v (F i)
theorem RMem.keep {w w' : World} {g T n : Nat} {F : Nat → Rw} (h : RMem w g T n F) (hb : Below w.heap.size w w') : RMem w' g T n F := by
  obtain ⟨cs, h1, h2, h3⟩ := h
  refine ⟨cs, (hb.block _ (blk_lt h1)).trans h1, h2, fun i hi => ?_⟩
  obtain ⟨u, v, a, b, c⟩ := h3 i hi
  exact ⟨u, v, a, b, c.keep hb⟩
theorem RMem.set {w : World} {g T n i : Nat} {F : Nat → Rw} {u v : Value} {r : Rw} (h : RMem w g T n F) (hi : i < n) (hr : RowOff w g u v r) : RMem ((w.setCell ⟨g, i * 2, none⟩ u).setCell ⟨g, i * 2 + 1, none⟩ v) g T n (updF F i r) := by
  obtain ⟨cs, h1, h2, h3⟩ := h
  refine ⟨_, hss (hss h1), by simp [h2], fun k hk => ?_⟩
  by_cases hki : k = i
  · subst hki
    refine ⟨u, v, ?_, ?_, by rw [updF_same]; exact hr.set.set⟩
    · simp [Array.getElem?_setIfInBounds]; omega
    · simp [Array.getElem?_setIfInBounds]; omega
  · obtain ⟨a, b, e1, e2, e3⟩ := h3 k hk
    refine ⟨a, b, ?_, ?_, by rw [updF_ne _ _ hki]; exact e3.set.set⟩
    · rw [Array.getElem?_setIfInBounds, if_neg (by omega), Array.getElem?_setIfInBounds, if_neg (by omega)]; exact e1
    · rw [Array.getElem?_setIfInBounds, if_neg (by omega), Array.getElem?_setIfInBounds, if_neg (by omega)]; exact e2
end Go.Proofs.YtbfmdfbnhakolaaGreatDoor
namespace Go.Proofs.YtbfmdfbnhakolaaGreatDoor
open Go.By Gf
def vR (r : Rw) : V := vf (cat r)
structure Red (n t : Nat) (K : List Rw) : Prop where
  kept : KeptS n t K
  red : K.Pairwise (fun a b => vR a (leadN b) = 0)
theorem Red.nil (n t : Nat) : Red n t [] := ⟨KeptS.nil n t, List.Pairwise.nil⟩
theorem KeptS.tail {n t : Nat} {k : Rw} {K : List Rw} (h : KeptS n t (k :: K)) : KeptS n t K := ⟨fun a ha => h.rows a (by simp [ha]), (List.pairwise_cons.1 h.sorted).2⟩
theorem Red.tail {n t : Nat} {k : Rw} {K : List Rw} (h : Red n t (k :: K)) : Red n t K := ⟨h.kept.tail, (List.pairwise_cons.1 h.red).2⟩
theorem vR_lead {n t : Nat} {r : Rw} (hf : Fit n t r) (hl : Led r) : vR r (leadN r) = 1 := vf_lead hl.at hf
/-- what is in the span, by its bytes where the rows lead -/
theorem coords_red {n t : Nat} : ∀ {K : List Rw} {v : V}, Red n t K → Sp (K.map vR) v → v = comb (K.map fun k => v (leadN k)) (K.map vR)
  | [], v, _, ⟨c, hc, e⟩ => by rw [e]; funext j; rw [List.map_nil, comb_nil, List.map_nil, comb_nil]
  | k :: K, v, h, ⟨c, hc, e⟩ => by
    cases c with
    | nil => simp at hc
    | cons x c =>
      obtain ⟨hf, hl⟩ := h.kept.rows k (by simp)
      have hs := (List.pairwise_cons.1 h.kept.sorted).1
      have hr := (List.pairwise_cons.1 h.red).1
      have hu : Sp (K.map vR) (comb c (K.map vR)) := ⟨c, by simpa using hc, rfl⟩
      have hv : ∀ j, v j = gmul x (vR k j) ^^^ comb c (K.map vR) j := fun j => by rw [e, List.map_cons, comb_cons]
      have h0 : comb c (K.map vR) (leadN k) = 0 := hu.at_zero fun a ha => by
        obtain ⟨b, hb, rfl⟩ := List.mem_map.1 ha
        exact vf_before (h.kept.rows b (by simp [hb])).1 (h.kept.rows b (by simp [hb])).2 (hs b hb)
      have hx : v (leadN k) = x := by rw [hv, vR_lead hf hl, gmul_one, h0, xor_zero]
      have hc2 : (K.map fun b => v (leadN b)) = K.map fun b => comb c (K.map vR) (leadN b) := List.map_congr_left fun b hb => by
        rw [hv, hr b hb, gmul_zero, zero_xor]
      have ih := coords_red h.tail hu
      funext j
      rw [List.map_cons, List.map_cons, comb_cons, hx, hc2, ← ih, hv]
theorem comb_map_zero {α : Type} (f : α → UInt8) (g : α → V) (j : Nat) : ∀ (K : List α), (∀ k, k ∈ K → gmul (f k) (g k j) = 0) → comb (K.map f) (K.map g) j = 0
  | [], _ => by rw [List.map_nil, comb_nil']
  | k :: K, h => by rw [List.map_cons, List.map_cons, comb_cons, h k (by simp), comb_map_zero f g j K (fun a ha => h a (by simp [ha])), xor_self]
/-- what is in the span leads where a row does -/
theorem lead_red {n t l : Nat} {K : List Rw} {v : V} (h : Red n t K) (hv : Sp (K.map vR) v) (h0 : ∀ j, j < l → v j = 0) (h1 : v l ≠ 0) : ∃ k, k ∈ K ∧ leadN k = l := by
  apply Classical.byContradiction
  intro hn
  refine h1 ?_
  rw [coords_red h hv]
  refine comb_map_zero _ _ _ K fun k hk => ?_
  rcases Nat.lt_trichotomy (leadN k) l with g | g | g
  · rw [h0 _ g, zero_gmul]
  · exact absurd ⟨k, hk, g⟩ hn
  · rw [show vR k l = 0 from vf_before (h.kept.rows k hk).1 (h.kept.rows k hk).2 g, gmul_zero]
theorem sorted_ext : ∀ {l m : List Nat}, l.Pairwise (· < ·) → m.Pairwise (· < ·) → (∀ x, x ∈ l ↔ x ∈ m) → l = m
  | [], m, _, _, h => by
    cases m with
    | nil => rfl
    | cons b m => exact absurd ((h b).2 (by simp)) (by simp)
  | a :: l, [], _, _, h => absurd ((h a).1 (by simp)) (by simp)
  | a :: l, b :: m, h1, h2, h => by
    obtain ⟨g1, g2⟩ := List.pairwise_cons.1 h1
    obtain ⟨k1, k2⟩ := List.pairwise_cons.1 h2
    have e : a = b := by
      rcases List.mem_cons.1 ((h a).1 (by simp)) with e | e
      · exact e
      · rcases List.mem_cons.1 ((h b).2 (by simp)) with e' | e'
        · exact e'.symm
        · exact absurd (g1 b e') (by have := k1 a e; omega)
    subst e
    rw [sorted_ext g2 k2 fun x => ⟨fun hx => by
      rcases List.mem_cons.1 ((h x).1 (by simp [hx])) with e | e
      · subst e; exact absurd (g1 x hx) (Nat.lt_irrefl x)
      · exact e, fun hx => by
      rcases List.mem_cons.1 ((h x).2 (by simp [hx])) with e | e
      · subst e; exact absurd (k1 x hx) (Nat.lt_irrefl x)
      · exact e⟩]
theorem Red.leads {n t : Nat} {K : List Rw} (h : Red n t K) : (K.map leadN).Pairwise (· < ·) := List.pairwise_map.2 h.kept.sorted
theorem Red.delta {n t i j : Nat} {K : List Rw} {a b : Rw} (h : Red n t K) (ha : K[i]? = some a) (hb : K[j]? = some b) : vR a (leadN b) = if i = j then 1 else 0 := by
  have ma := h.kept.rows a (List.mem_of_getElem? ha)
  obtain ⟨hi, ea⟩ := List.getElem?_eq_some_iff.1 ha
  obtain ⟨hj, eb⟩ := List.getElem?_eq_some_iff.1 hb
  rcases Nat.lt_trichotomy i j with g | g | g
  · rw [if_neg (by omega)]
    have := List.pairwise_iff_getElem.1 h.red i j hi hj g
    rwa [ea, eb] at this
  · subst g; rw [ha] at hb; cases hb
    rw [if_pos rfl]; exact vR_lead ma.1 ma.2
  · rw [if_neg (by omega)]
    have := List.pairwise_iff_getElem.1 h.kept.sorted j i hj hi g
    rw [ea, eb] at this
    exact vf_before ma.1 ma.2 this
/-- reduced rows of one span are the same -/
theorem Red.unique {n t : Nat} {K M : List Rw} (h : Red n t K) (g : Red n t M) (h1 : ∀ k, k ∈ K → Sp (M.map vR) (vR k)) (h2 : ∀ k, k ∈ M → Sp (K.map vR) (vR k)) : K = M := by
  have key : ∀ {A B : List Rw}, Red n t A → Red n t B → (∀ k, k ∈ A → Sp (B.map vR) (vR k)) → ∀ x, x ∈ A.map leadN → x ∈ B.map leadN := by
    intro A B hA hB hs x hx
    obtain ⟨a, ha, rfl⟩ := List.mem_map.1 hx
    obtain ⟨hf, hl⟩ := hA.kept.rows a ha
    obtain ⟨b, hb, e⟩ := lead_red hB (hs a ha) (l := leadN a) (fun j hj => vf_before hf hl hj) (by rw [vR_lead hf hl]; decide)
    exact List.mem_map.2 ⟨b, hb, e⟩
  have hl : K.map leadN = M.map leadN := sorted_ext h.leads g.leads fun x => ⟨key h g h1 x, key g h h2 x⟩
  have hlen : K.length = M.length := by have := congrArg List.length hl; simpa using this
  have lead_at : ∀ {i : Nat} {a b : Rw}, K[i]? = some a → M[i]? = some b → leadN a = leadN b := by
    intro i a b ha hb
    have := congrArg (fun l => l[i]?) hl
    simp only [List.getElem?_map, ha, hb, Option.map_some] at this
    injection this
  apply List.ext_getElem?
  intro i
  by_cases hi : i < K.length
  · have ha : K[i]? = some K[i] := List.getElem?_eq_getElem hi
    have hb : M[i]? = some (M[i]'(by omega)) := List.getElem?_eq_getElem (by omega)
    rw [ha, hb]
    congr 1
    obtain ⟨f1, -⟩ := h.kept.rows _ (List.mem_of_getElem? ha)
    obtain ⟨f2, -⟩ := g.kept.rows _ (List.mem_of_getElem? hb)
    have e1 := coords_red h (v := vR K[i]) (Sp.mem (List.mem_map.2 ⟨_, List.mem_of_getElem? ha, rfl⟩))
    have e2 := coords_red h (h2 _ (List.mem_of_getElem? hb))
    have e3 : (K.map fun k => vR K[i] (leadN k)) = K.map fun k => vR (M[i]'(by omega)) (leadN k) := by
      apply List.map_congr_left
      intro k hk
      obtain ⟨j, hj, rfl⟩ := List.getElem_of_mem hk
      have hkj : K[j]? = some K[j] := List.getElem?_eq_getElem hj
      have hmj : M[j]? = some (M[j]'(by omega)) := List.getElem?_eq_getElem (by omega)
      rw [h.delta ha hkj, lead_at hkj hmj, g.delta hb hmj]
    have ev : vR K[i] = vR (M[i]'(by omega)) := by rw [e1, e2, e3]
    have hc : cat K[i] = cat (M[i]'(by omega)) := vf_inj (by rw [f1.cat, f2.cat]) fun j _ => by
      have := congrFun ev j; exact this
    have l1 : (K[i]).1.length = ((M[i]'(by omega)) : Rw).1.length := by rw [f1.1, f2.1]
    unfold cat at hc
    obtain ⟨p1, p2⟩ := List.append_inj hc l1
    exact Prod.ext p1 p2
  · rw [List.getElem?_eq_none (by omega), List.getElem?_eq_none (by omega)]
end Go.Proofs.YtbfmdfbnhakolaaGreatDoor
namespace Go.Proofs.YtbfmdfbnhakolaaGreatDoor
open Go.By Gf
theorem leadAt_of {n t l : Nat} {r : Rw} (hf : Fit n t r) (hl : l < n) (h1 : vR r l = 1) (h0 : ∀ j, j < l → vR r j = 0) : LeadAt r l := by
  have hv : ∀ j, j < n → ∀ y, r.1[j]? = some y → vR r j = y := fun j hj y hy => by
    show vf (cat r) j = y
    rw [vf_at hf hj, at_of hy]
  have hx : r.1[l]? = some (r.1[l]'(by rw [hf.1]; exact hl)) := List.getElem?_eq_getElem (by rw [hf.1]; exact hl)
  have e1 : r.1[l]'(by rw [hf.1]; exact hl) = 1 := by rw [← hv l hl _ hx]; exact h1
  rw [e1] at hx
  have hz : ∀ (j : Nat) (y : UInt8), j < l → r.1[j]? = some y → y = 0 := fun j y hj hy => by rw [← hv j (by omega) y hy]; exact h0 j hj
  exact ⟨idxf_found hx (by decide) fun j y hj hy => by rw [hz j y hj hy]; rfl, hx, hz⟩
theorem vR_less {n t : Nat} {x o : Rw} (c : UInt8) (hx : Fit n t x) (ho : Fit n t o) : vR (lessF x c o) = fun j => vR x j ^^^ gmul c (vR o j) := by
  unfold vR; rw [cat_less c hx ho, vf_axpy (by rw [ho.cat, hx.cat])]
theorem vR_at {n t l : Nat} {x : Rw} (hx : Fit n t x) (hl : l < n) : atS x.1 (l : Int) = vR x l := (vf_at hx hl).symm
/-- what is left of a row leads with a 1, once normed, where no row leads -/
theorem rest_norm {n t : Nat} {K : List Rw} {x : Rw} (h : KeptS n t K) (hx : Fit n t x) (hn : ¬ leadS (restF K x).1 < 0) :
    ∃ l, LeadAt (normS (restF K x)) l ∧ Fit n t (normS (restF K x)) ∧ (∀ k, k ∈ K → vR (normS (restF K x)) (leadN k) = 0) ∧ Sp (vR x :: K.map vR) (vR (normS (restF K x))) ∧ ∃ d, Sp (K.map vR) (fun j => vR x j ^^^ gmul d (vR (normS (restF K x)) j)) := by
  have hr := hx.rest (fun k hk => (h.rows k hk).1)
  have hred := rest_red h.rows hx
  have hspan := red_span (tri K) (vf (cat x))
  rw [tri_fst] at hspan
  obtain ⟨l, c, hc, hl, hL, hF, hv⟩ := norm_row hr hn
  refine ⟨l, hL, hF, fun k hk => ?_, ?_, ginv c, ?_⟩
  · show vf (cat _) _ = 0
    rw [hv]
    show gmul c (vf (cat (restF K x)) (leadN k)) = 0
    rw [hred, red_at h.kept.tri (vf (cat k), leadN k) (List.mem_map.2 ⟨k, hk, rfl⟩), gmul_zero]
  · show Sp _ (vf (cat _))
    rw [hv, hred]
    refine Sp.scale c ?_
    have e : red (tri K) (vf (cat x)) = fun j => vf (cat x) j ^^^ (vf (cat x) j ^^^ red (tri K) (vf (cat x)) j) := by funext j; rw [← xor_assoc, xor_self, zero_xor]
    rw [e]
    exact Sp.add (Sp.mem (by simp [vR])) (hspan.cons _)
  · have e : (fun j => vR x j ^^^ gmul (ginv c) (vR (normS (restF K x)) j)) = fun j => vf (cat x) j ^^^ red (tri K) (vf (cat x)) j := by
      funext j
      show _ ^^^ gmul (ginv c) (vf (cat (normS (restF K x))) j) = _
      rw [hv, hred]
      show _ ^^^ gmul (ginv c) (gmul c _) = _
      rw [← gmul_assoc, ginv_gmul c hc, one_gmul]; rfl
    rw [e]; exact hspan
theorem ne_lead {n t l : Nat} {K : List Rw} {y : Rw} (hL : LeadAt y l) (hF : Fit n t y) (h0 : ∀ k, k ∈ K → vR y (leadN k) = 0) : ∀ k, k ∈ K → leadN k ≠ l := fun k hk e => by
  have h1 : vR y l = 1 := vf_lead hL hF
  rw [← e, h0 k hk] at h1
  exact absurd h1 (by decide)
/-- a row put in among rows by rising places -/
def putAt (M : List Rw) (y : Rw) : List Rw := M.takeWhile (fun r => decide (leadS r.1 ≤ leadS y.1)) ++ y :: M.dropWhile (fun r => decide (leadS r.1 ≤ leadS y.1))
theorem putAt_mem {M : List Rw} {y k : Rw} : k ∈ putAt M y ↔ k = y ∨ k ∈ M := by
  unfold putAt
  rw [List.mem_append, List.mem_cons]
  conv => rhs; rw [← List.takeWhile_append_dropWhile (p := fun r : Rw => decide (leadS r.1 ≤ leadS y.1)) (l := M), List.mem_append]
  constructor
  · rintro (h | h | h)
    · exact .inr (.inl h)
    · exact .inl h
    · exact .inr (.inr h)
  · rintro (h | h | h)
    · exact .inr (.inl h)
    · exact .inl h
    · exact .inr (.inr h)
theorem putAt_kept {n t l : Nat} {M : List Rw} {y : Rw} (h : KeptS n t M) (hL : LeadAt y l) (hF : Fit n t y) (hne : ∀ k, k ∈ M → leadN k ≠ l) : KeptS n t (putAt M y) := by
  refine ⟨fun k hk => ?_, ?_⟩
  · rcases putAt_mem.1 hk with rfl | hk
    · exact ⟨hF, l, hL⟩
    · exact h.rows k hk
  unfold putAt
  have hln := leadN_of hL
  rw [hL.1]
  have hlead : ∀ k, k ∈ M → leadS k.1 = (leadN k : Int) := fun k hk => (h.rows k hk).2.at.1
  have hs : (M.takeWhile (fun r => decide (leadS r.1 ≤ (l : Int))) ++ M.dropWhile (fun r => decide (leadS r.1 ≤ (l : Int)))).Pairwise (fun a b => leadN a < leadN b) := by
    rw [List.takeWhile_append_dropWhile]; exact h.sorted
  have mT : ∀ k, k ∈ M.takeWhile (fun r => decide (leadS r.1 ≤ (l : Int))) → leadN k < l := by
    intro k hk
    have h1 := (List.takeWhile_sublist _).mem hk
    have := mem_take hk
    rw [decide_eq_true_eq, hlead k h1] at this
    have := hne k h1
    omega
  obtain ⟨h1, h2, h3⟩ := List.pairwise_append.1 hs
  have mD : ∀ k, k ∈ M.dropWhile (fun r => decide (leadS r.1 ≤ (l : Int))) → l < leadN k := by
    cases e : M.dropWhile (fun r => decide (leadS r.1 ≤ (l : Int))) with
    | nil => intro k hk; simp at hk
    | cons a r =>
      have ha : a ∈ M := (List.dropWhile_sublist _).mem (by rw [e]; simp)
      have hd := drop_head e
      rw [decide_eq_false_iff_not, hlead a ha] at hd
      have hla : l < leadN a := by omega
      rw [e] at h2
      intro k hk
      rcases List.mem_cons.1 hk with rfl | hk
      · exact hla
      · exact Nat.lt_trans hla ((List.pairwise_cons.1 h2).1 k hk)
  refine List.pairwise_append.2 ⟨h1, List.pairwise_cons.2 ⟨fun k hk => by rw [hln]; exact mD k hk, h2⟩, ?_⟩
  intro a ha b hb
  rcases List.mem_cons.1 hb with rfl | hb
  · rw [hln]; exact mT a ha
  · exact h3 a ha b hb
/-- the rows behind another equation, as a system puts it -/
def clrF (y r : Rw) : Rw := lessF r (atS r.1 (leadS y.1)) y
def putF (K : List Rw) (x : Rw) : List Rw := putAt (K.map (clrF (normS (restF K x)))) (normS (restF K x))
theorem clr_row {n t l : Nat} {y r : Rw} (hL : LeadAt y l) (hF : Fit n t y) (hr : Fit n t r) (hl : Led r) (h0 : vR y (leadN r) = 0) : Fit n t (clrF y r) ∧ LeadAt (clrF y r) (leadN r) ∧ vR (clrF y r) = (fun j => vR r j ^^^ gmul (vR r l) (vR y j)) ∧ vR (clrF y r) l = 0 := by
  have hln := hL.lt hF
  have e : clrF y r = lessF r (vR r l) y := by unfold clrF; rw [hL.1, vR_at hr hln]
  have hv : vR (clrF y r) = fun j => vR r j ^^^ gmul (vR r l) (vR y j) := by rw [e, vR_less _ hr hF]
  have hf : Fit n t (clrF y r) := by rw [e]; exact hr.less hF
  have y1 : vR y l = 1 := vf_lead hL hF
  refine ⟨hf, leadAt_of hf (hl.at.lt hr) ?_ fun j hj => ?_, hv, ?_⟩
  · rw [hv]; show _ ^^^ gmul _ (vR y (leadN r)) = 1
    rw [h0, gmul_zero, xor_zero]; exact vR_lead hr hl
  · rw [hv]; show vR r j ^^^ gmul (vR r l) (vR y j) = 0
    rw [show vR r j = 0 from vf_before hr hl hj, zero_xor]
    rcases Nat.lt_or_ge l (leadN r) with g | g
    · rw [show vR r l = 0 from vf_before hr hl g, zero_gmul]
    · have hyL : Led y := ⟨l, hL⟩
      have : vR y j = 0 := vf_before hF hyL (by rw [leadN_of hL]; omega)
      rw [this, gmul_zero]
  · rw [hv]; show vR r l ^^^ gmul (vR r l) (vR y l) = 0
    rw [y1, gmul_one, xor_self]
theorem putF_red {n t : Nat} {K : List Rw} {x : Rw} (h : Red n t K) (hx : Fit n t x) (hn : ¬ leadS (restF K x).1 < 0) :
    Red n t (putF K x) ∧ (∀ k, k ∈ putF K x → Sp (vR x :: K.map vR) (vR k)) ∧ (∀ k, k ∈ K → Sp ((putF K x).map vR) (vR k)) ∧ Sp ((putF K x).map vR) (vR x) ∧ (putF K x).length = K.length + 1 := by
  obtain ⟨l, hL, hF, h0, hsp, d, hd⟩ := rest_norm h.kept hx hn
  have hne := ne_lead hL hF h0
  have hclr := fun r (hr : r ∈ K) => clr_row hL hF (h.kept.rows r hr).1 (h.kept.rows r hr).2 (h0 r hr)
  obtain ⟨y, hy⟩ : ∃ y, y = normS (restF K x) := ⟨_, rfl⟩
  unfold putF
  rw [← hy] at hL hF h0 hsp hd hclr ⊢
  have hlead : ∀ r, r ∈ K → leadN (clrF y r) = leadN r := fun r hr => leadN_of (hclr r hr).2.1
  have hM : KeptS n t (K.map (clrF y)) := by
    refine ⟨fun k hk => ?_, List.pairwise_map.2 (h.kept.sorted.imp_of_mem fun {a b} ha hb hab => by rw [hlead a ha, hlead b hb]; exact hab)⟩
    obtain ⟨r, hr, rfl⟩ := List.mem_map.1 hk
    exact ⟨(hclr r hr).1, _, (hclr r hr).2.1⟩
  have hneM : ∀ k, k ∈ K.map (clrF y) → leadN k ≠ l := fun k hk => by
    obtain ⟨r, hr, rfl⟩ := List.mem_map.1 hk
    rw [hlead r hr]; exact hne r hr
  have hyM : ∀ k, k ∈ K.map (clrF y) → vR y (leadN k) = 0 ∧ vR k l = 0 := fun k hk => by
    obtain ⟨r, hr, rfl⟩ := List.mem_map.1 hk
    rw [hlead r hr]; exact ⟨h0 r hr, (hclr r hr).2.2.2⟩
  have hrM : (K.map (clrF y)).Pairwise (fun a b => vR a (leadN b) = 0) := List.pairwise_map.2 (h.red.imp_of_mem fun {a b} ha hb hab => by
    rw [hlead b hb, (hclr a ha).2.2.1]
    show vR a (leadN b) ^^^ gmul _ (vR y (leadN b)) = 0
    rw [hab, h0 b hb, gmul_zero, xor_self])
  have inP : ∀ {k : Rw}, k = y ∨ k ∈ K.map (clrF y) → Sp ((putAt (K.map (clrF y)) y).map vR) (vR k) := fun hk => Sp.mem (List.mem_map.2 ⟨_, putAt_mem.2 hk, rfl⟩)
  have back : ∀ k, k ∈ K → Sp ((putAt (K.map (clrF y)) y).map vR) (vR k) := fun k hk => by
    have e : vR k = fun j => vR (clrF y k) j ^^^ gmul (vR k l) (vR y j) := by
      funext j
      rw [(hclr k hk).2.2.1]
      show _ = (vR k j ^^^ gmul (vR k l) (vR y j)) ^^^ gmul (vR k l) (vR y j)
      rw [xor_cancel]
    rw [e]
    exact Sp.add (inP (.inr (List.mem_map.2 ⟨k, hk, rfl⟩))) (Sp.scale _ (inP (.inl rfl)))
  refine ⟨⟨putAt_kept hM hL hF hneM, ?_⟩, fun k hk => ?_, back, ?_, ?_⟩
  · unfold putAt
    have hs := hrM
    rw [← List.takeWhile_append_dropWhile (p := fun r : Rw => decide (leadS r.1 ≤ leadS y.1)) (l := K.map (clrF y))] at hs
    obtain ⟨g1, g2, g3⟩ := List.pairwise_append.1 hs
    refine List.pairwise_append.2 ⟨g1, List.pairwise_cons.2 ⟨fun b hb => (hyM b ((List.dropWhile_sublist _).mem hb)).1, g2⟩, fun a ha b hb => ?_⟩
    rcases List.mem_cons.1 hb with rfl | hb
    · rw [leadN_of hL]; exact (hyM a ((List.takeWhile_sublist _).mem ha)).2
    · exact g3 a ha b hb
  · rcases putAt_mem.1 hk with rfl | hk
    · exact hsp
    · obtain ⟨r, hr, rfl⟩ := List.mem_map.1 hk
      rw [(hclr r hr).2.2.1]
      exact Sp.add (Sp.mem (List.mem_cons_of_mem _ (List.mem_map.2 ⟨r, hr, rfl⟩))) (Sp.scale _ hsp)
  · have e : vR x = fun j => (vR x j ^^^ gmul d (vR y j)) ^^^ gmul d (vR y j) := by funext j; rw [xor_cancel]
    rw [e]
    refine Sp.add (Sp.trans (fun a ha => ?_) hd) (Sp.scale _ (inP (.inl rfl)))
    obtain ⟨k, hk, rfl⟩ := List.mem_map.1 ha
    exact back k hk
  · unfold putAt
    rw [List.length_append, List.length_cons]
    have := congrArg List.length (List.takeWhile_append_dropWhile (p := fun r : Rw => decide (leadS r.1 ≤ leadS y.1)) (l := K.map (clrF y)))
    rw [List.length_append, List.length_map] at this
    omega
/-- the same of the document's rows -/
theorem insF_span {n t : Nat} {K : List Rw} {x : Rw} (h : KeptS n t K) (hx : Fit n t x) (hn : ¬ leadS (restF K x).1 < 0) :
    (∀ k, k ∈ insF K x → Sp (vR x :: K.map vR) (vR k)) ∧ (∀ k, k ∈ K → Sp ((insF K x).map vR) (vR k)) ∧ Sp ((insF K x).map vR) (vR x) := by
  obtain ⟨l, hL, hF, h0, hsp, d, hd⟩ := rest_norm h hx hn
  have hm : ∀ k, k ∈ insF K x ↔ k ∈ K ∨ k = normS (restF K x) := fun k => by
    rw [(ins_perm K x).mem_iff]; unfold keepF; rw [if_neg hn, List.mem_append, List.mem_singleton]
  have inP : ∀ {k : Rw}, k ∈ K ∨ k = normS (restF K x) → Sp ((insF K x).map vR) (vR k) := fun hk => Sp.mem (List.mem_map.2 ⟨_, (hm _).2 hk, rfl⟩)
  refine ⟨fun k hk => ?_, fun k hk => inP (.inl hk), ?_⟩
  · rcases (hm k).1 hk with hk | rfl
    · exact Sp.mem (List.mem_cons_of_mem _ (List.mem_map.2 ⟨k, hk, rfl⟩))
    · exact hsp
  · have e : vR x = fun j => (vR x j ^^^ gmul d (vR (normS (restF K x)) j)) ^^^ gmul d (vR (normS (restF K x)) j) := by funext j; rw [xor_cancel]
    rw [e]
    refine Sp.add (Sp.trans (fun a ha => ?_) hd) (Sp.scale _ (inP (.inr rfl)))
    obtain ⟨k, hk, rfl⟩ := List.mem_map.1 ha
    exact inP (.inl hk)
end Go.Proofs.YtbfmdfbnhakolaaGreatDoor
