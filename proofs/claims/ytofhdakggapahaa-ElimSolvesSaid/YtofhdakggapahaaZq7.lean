/- The contract of a system's Put: a row more. The contract of vec.Unit. The contract of a system's Known. The contract of the reference's Same of layer 7. The example of chapter 7. The law's example of chapter 8; what is told of no system. A system's Rest and Put, where the sizes don't fit, or nothing is left. The contract of the reference's Put of chapter 8. The contract of the reference's Known of chapter 8. The law's Same and Fit of chapter 8. -/
import Derived.Test.YtofhdakggapahaaZq6
namespace Go.By
open Go.RowKit
/-- what Put may turn: the system's block, and its rows' -/
structure Chg (w w' : World) (be : Nat) (v : Value) : Prop where
  os : w'.os = w.os
  tape : w'.tape = w.tape
  output : w'.output = w.output
  size : w.heap.size ≤ w'.heap.size
  block : ∀ b, b < w.heap.size → b ≠ be → v.ownBlock ≠ some b → w'.heap[b]? = w.heap[b]?
theorem Chg.of {w w' : World} (be : Nat) (v : Value) (h : Below w.heap.size w w') : Chg w w' be v := ⟨h.os, h.tape, h.output, h.size, fun b hb _ _ => h.block b hb⟩
theorem Chg.below {w a b : World} {be : Nat} {v : Value} (h : Chg w a be v) (g : Below a.heap.size a b) : Chg w b be v := ⟨g.os.trans h.os, g.tape.trans h.tape, g.output.trans h.output, Nat.le_trans h.size g.size, fun k hk h1 h2 => (g.block k (Nat.lt_of_lt_of_le hk h.size)).trans (h.block k hk h1 h2)⟩
theorem Chg.grown {w a b : World} {be : Nat} {v : Value} (h : Chg w a be v) (g : a.grownBy b v.ownBlock) : Chg w b be v := ⟨g.os.trans h.os, g.tape.trans h.tape, g.output.trans h.output, Nat.le_trans h.size g.size, fun k hk h1 h2 => (g.block k (Nat.lt_of_lt_of_le hk h.size) (fun e => h2 e.symm)).trans (h.block k hk h1 h2)⟩
theorem Chg.box {w a : World} {be : Nat} {v : Value} (h : Chg w a be v) (o : Nat) (u : Value) : Chg w (a.setCell ⟨be, o, none⟩ u) be v := ⟨h.os, h.tape, h.output, by simpa using h.size, fun k hk h1 h2 => (Below.heap_setCell _ _ _ _ h1).trans (h.block k hk h1 h2)⟩
theorem take_while {α : Type} (p : α → Bool) : ∀ (M : List α) (r : Nat), r ≤ M.length → (∀ j x, j < r → M[j]? = some x → p x = true) → (∀ x, M[r]? = some x → p x = false) → M.takeWhile p = M.take r ∧ M.dropWhile p = M.drop r
  | [], r, h, _, _ => by simp at h; subst h; exact ⟨rfl, rfl⟩
  | a :: M, 0, _, _, h2 => by
    have := h2 a rfl
    rw [List.takeWhile_cons, List.dropWhile_cons, this]; exact ⟨rfl, rfl⟩
  | a :: M, r + 1, h, h1, h2 => by
    have := h1 0 a (by omega) rfl
    obtain ⟨e1, e2⟩ := take_while p M r (by simpa using h) (fun j x hj hx => h1 (j + 1) x (by omega) (by simpa using hx)) (fun x hx => h2 x (by simpa using hx))
    rw [List.takeWhile_cons, List.dropWhile_cons, this, if_pos rfl, if_pos rfl, e1, e2]; exact ⟨rfl, rfl⟩
theorem RwL.ne_box {T2 T1 TX g n base : Nat} {w : World} {v : Value} {K : List (List UInt8 × List UInt8)} {cs : Array Value} {fr : Nat × Nat} (h : RwL T2 T1 w base v n K) (hX : w.heap[g]? = some (.cells cs TX fr)) (hT : T2 ≠ TX) : v.ownBlock ≠ some g := by
  obtain ⟨vs, a, b, o, r⟩ := h
  intro e
  rcases o.2 with ⟨hv, _⟩ | ⟨g', cap, cur, hv, _, hh, _⟩
  · rw [hv] at e; simp [Value.ownBlock] at e
  · rw [hv] at e; simp [Value.ownBlock] at e
    rw [e, hX] at hh
    injection hh with hh; injection hh with _ hh _; exact hT hh.symm
/-- a slice of one row, new -/
def shpOne (T B : Nat) (u1 u2 : Value) : Shp := ⟨fun v W => ∃ vb, v = .slice (some ⟨vb, 0, none⟩) 1 1 ∧ W.heap[vb]? = some (.cells #[u1, u2] T (0, 0)) ∧ B ≤ vb, fun _ _ _ ⟨vb, e, h, g⟩ hb => ⟨vb, e, (hb.block _ (blk_lt h)).trans h, g⟩⟩
def shpRowO (T B : Nat) (r : List UInt8 × List UInt8) : Shp := ⟨fun v W => ∃ u1 u2, v = .agg #[u1, u2] ∧ Bw T W B u1 r.1 ∧ Bw T W B u2 r.2, fun _ _ _ ⟨u1, u2, e, h1, h2⟩ hb => ⟨u1, u2, e, h1.keep hb, h2.keep hb⟩⟩
def shpRowTO (T B : Nat) (r : List UInt8 × List UInt8) (code : Int) : Shp := ⟨fun v W => ∃ u, v = .tuple #[u, .int .i64 code] ∧ (shpRowO T B r).ok u W, fun _ _ _ ⟨u, e, h⟩ hb => ⟨u, e, (shpRowO T B r).keep _ _ _ h hb⟩⟩
theorem RwL.blk {T2 T1 base n c g : Nat} {w : World} {K : List (List UInt8 × List UInt8)} (h : RwL T2 T1 w base (.slice (some ⟨g, 0, none⟩) n c) n K) : ∃ cur : Array Value, w.heap[g]? = some (.cells cur T2 (0, 0)) := by
  obtain ⟨vs, a, b, o, r⟩ := h
  rcases o.2 with ⟨hv, _⟩ | ⟨g', cap, cur, hv, _, hh, _⟩
  · simp at hv
  · obtain ⟨rfl, rfl⟩ : g = g' ∧ c = cap := by simpa using hv
    exact ⟨cur, hh⟩
theorem Bw.sl' {T1 base m c : Nat} {w : World} {q : Option Addr} {xs : List UInt8} (h : Bw T1 w base (.slice q m c) xs) : Sl B8 w q m c xs := by
  obtain ⟨q', m', c', e, l, o⟩ := h; cases e; exact Sl.of_owns o
theorem Bw.mk {T1 base m c : Nat} {w : World} {q : Option Addr} {xs : List UInt8} (o : w.ownsRow base T1 1 (.slice q m c) m (xs.map B8)) (l : xs.length = m) : Bw T1 w base (.slice q m c) xs := ⟨q, m, c, rfl, l, o⟩
theorem Bw.mono {T1 base b2 : Nat} {w : World} {v : Value} {xs : List UInt8} (h : Bw T1 w base v xs) (hb : b2 ≤ base) : Bw T1 w b2 v xs := by
  obtain ⟨q', m', c', e, l, o⟩ := h; exact ⟨q', m', c', e, l, owns_mono o hb⟩
end Go.By
namespace Go.Proofs.Ytofhdakggapahaa
open Go.RowKit Go.By
theorem zero_lead {v : List UInt8} (h : ¬ leadS v < 0) : zeroS v = false := by
  unfold zeroS
  cases e : v.all (fun x => decide (x = 0)) with
  | false => rfl
  | true =>
    refine absurd ?_ h
    have hz : ∀ x, x ∈ v → x = 0 := fun x hx => by simpa using List.all_eq_true.1 e x hx
    have : leadS v = -1 := idxf_none (k := v.length) rfl fun j y _ hy => by rw [hz y (List.mem_of_getElem? hy)]; rfl
    rw [this]; decide
set_option maxRecDepth 100000 in
set_option maxHeartbeats 8000000 in
theorem EPut_grown (base be k t n : Nat) (v : Value) (K : List Rw) (p1 p2 : Option Addr) (c1 c2 : Nat) (x : Rw) (w : World) (hE : Elm w base be k t v n K) (s1 : Sl B8 w p1 k c1 x.1) (s2 : Sl B8 w p2 t c2 x.2) (hR : Red k t K) (hk : k ≤ 4096) (ht : t ≤ 65535) (hn : ¬ leadS (restF K x).1 < 0) (hnn : n ≤ 4096) :
    Calls Try.prog 35 #[.pointer (some ⟨be, 0, none⟩), .agg #[.slice p1 k c1, .slice p2 t c2]] w fun e w' => e = .returned (.tuple #[.int .i64 0, .int .i64 0]) ∧
      ∃ v', Elm w' base be k t v' (n + 1) (putF K x) ∧ Chg w w' be v ∧ (v'.ownBlock = v.ownBlock ∨ ∀ b, v'.ownBlock = some b → w.heap.size ≤ b) := by
  have hx : Fit k t x := ⟨s1.len, s2.len⟩
  obtain ⟨q, c, rfl⟩ := hE.rows.shape
  obtain ⟨l, hL, hF, h0, -, -⟩ := rest_norm hR.kept hx hn
  obtain ⟨Y, hY⟩ : ∃ Y, Y = normS (restF K x) := ⟨_, rfl⟩
  have hput : Hid (putF K x = putAt (K.map (clrF Y)) Y) := by rw [hY]; rfl
  rw [← hY] at hL hF h0
  have hKn := hE.rows.len
  have hclr : Hid (∀ r, r ∈ K → Fit k t (clrF Y r) ∧ LeadAt (clrF Y r) (leadN r)) := fun r hr => by
    have h := clr_row hL hF (hR.kept.rows r hr).1 (hR.kept.rows r hr).2 (h0 r hr)
    exact ⟨h.1, h.2.1⟩
  obtain ⟨f, hf⟩ : ∃ f : Nat → Bool, f = fun i => decide ((l : Int) < leadS ((K.map (clrF Y)).getD i ([], [])).1) := ⟨_, rfl⟩
  have hfat : Hid (∀ i a, K[i]? = some a → f i = decide ((l : Int) < (leadN a : Int))) := fun i a ha => by
    rw [hf]
    show decide ((l : Int) < leadS ((K.map (clrF Y)).getD i ([], [])).1) = _
    rw [List.getD_eq_getElem?_getD, List.getElem?_map, ha]
    show decide ((l : Int) < leadS (clrF Y a).1) = _
    rw [(hclr.out a (List.mem_of_getElem? ha)).2.1]
  have hmono : Hid (∀ i j, i ≤ j → j < n → f i = true → f j = true) := fun i j hij hj hfi => by
    obtain ⟨a, ha⟩ : ∃ a, K[i]? = some a := ⟨_, List.getElem?_eq_getElem (by omega)⟩
    obtain ⟨b, hb⟩ : ∃ b, K[j]? = some b := ⟨_, List.getElem?_eq_getElem (by omega)⟩
    rw [hfat.out i a ha] at hfi
    rw [hfat.out j b hb]
    rcases Nat.lt_or_ge i j with g | g
    · have h1 := List.pairwise_iff_getElem.1 hR.kept.sorted i j (by omega) (by omega) g
      have ea : K[i]'(by omega) = a := by rw [List.getElem?_eq_getElem (by omega)] at ha; injection ha
      have eb : K[j]'(by omega) = b := by rw [List.getElem?_eq_getElem (by omega)] at hb; injection hb
      rw [ea, eb] at h1
      have h2 := of_decide_eq_true hfi
      exact decide_eq_true (by omega)
    · have e : i = j := by omega
      subst e; rw [ha] at hb; cases hb; exact hfi
  have hfin : Hid (∀ r, r ≤ n → (∀ i, i < r → f i = false) → (∀ i, r ≤ i → i < n → f i = true) → (K.map (clrF Y)).take r ++ Y :: (K.map (clrF Y)).drop r = putF K x) := fun r hr h1 h2 => by
    rw [hput.out]
    unfold putAt
    rw [hL.1]
    obtain ⟨e1, e2⟩ := take_while (fun r : Rw => decide (leadS r.1 ≤ (l : Int))) (K.map (clrF Y)) r (by rw [List.length_map]; omega) (fun j z hj hz => by
      have h3 := h1 j hj
      rw [hf] at h3
      have h4 : (K.map (clrF Y)).getD j ([], []) = z := by rw [List.getD_eq_getElem?_getD, hz]; rfl
      simp only [h4] at h3
      have h5 := of_decide_eq_false h3
      exact decide_eq_true (by omega)) (fun z hz => by
      have hrn : r < n := by have := (List.getElem?_eq_some_iff.1 hz).1; rw [List.length_map] at this; omega
      have h3 := h2 r (Nat.le_refl _) hrn
      rw [hf] at h3
      have h4 : (K.map (clrF Y)).getD r ([], []) = z := by rw [List.getD_eq_getElem?_getD, hz]; rfl
      simp only [h4] at h3
      have h5 := of_decide_eq_true h3
      exact decide_eq_false (by omega))
    rw [e1, e2]
  have hbe := hE.old
  have HE := Lib.hid hE; have S1 := Lib.hid s1; have S2 := Lib.hid s2; have HLY := Lib.hid hL.1; have HFY := Lib.hid hF; have HKL := Lib.hid hR.kept.rows; have HKN := Lib.hid hKn; have HYE := Lib.hid hY
  have HZ : Hid (zeroS (restF K x).1 = false) := zero_lead hn
  have HBE : Hid (be < w.heap.size) := blk_lt hE.box
  have hlk : l < k := hL.lt hF
  have HFF := Lib.hid hf
  have HRF : Hid (Fit k t (restF K x)) := hx.rest (fun a ha => (hR.kept.rows a ha).1)
  have hbw : base ≤ w.heap.size := by have h1 := blk_lt hE.box; omega
  clear hE s1 s2 hR hn hx hL hF h0 hY hKn hf
  go_enter Try.func35, Try.ntmps35
  go_wp2_with fail
  refine use_w1 (fun W => Below w.heap.size w W ∧ W.heap[w.heap.size]? = some (.cells #[.pointer (some ⟨be, 0, none⟩)] 50 (0, 0)) ∧ w.heap.size + 2 ≤ W.heap.size) ⟨al (al (Below.refl _ _) (Nat.le_refl _)) (by simp), hal (hnew rfl), by simp⟩ ?_
  rintro w2 ⟨b0, x0, z0⟩
  refine Calls.mono (ERest_any base be k t n _ K p1 p2 c1 c2 x w2 (HE.out.keep b0) (S1.out.keep b0) (S2.out.keep b0) HKL.out hk ht) ?_
  rintro e w3 ⟨q1, m1, g1, q2, m2, g2, l1, l2, rfl, o1, o2, hb⟩
  have B3 := Lib.hid (bl b0 hb b0.size)
  have X3 := Lib.hid ((hb.block _ (blk_lt x0)).trans x0)
  have L1 := Lib.hid (Sl.of_owns o1); have L2 := Lib.hid (Sl.of_owns o2)
  clear b0 x0 z0 o1 o2 hb l1 l2 S1 S2
  go_wp2_with fail
  refine use_w1 (fun W => Below w3.heap.size w3 W ∧ W.heap[w3.heap.size]? = some (.cells #[.slice q1 m1 g1, .slice q2 m2 g2] 61 (0, 0))) ⟨al (Below.refl _ _) (Nat.le_refl _), hnew rfl⟩ ?_
  rintro w4 ⟨b4, x4⟩
  obtain ⟨b6, h6⟩ : ∃ b6, b6 = w3.heap.size := ⟨_, rfl⟩
  rw [← h6] at x4 ⊢
  have hb6 : w.heap.size < b6 := by rw [h6]; exact blk_lt X3.out
  have hb64 : b6 < w4.heap.size := blk_lt x4
  refine Calls.mono (VZero_any q1 m1 g1 (restF K x).1 w4 (L1.out.keep b4)) ?_
  rintro e w' ⟨rfl, rfl⟩
  rw [HZ.out]
  have B4 := Lib.hid (bl B3.out b4 B3.out.size)
  have X24 := Lib.hid ((b4.block _ (blk_lt X3.out)).trans X3.out)
  have X64 := Lib.hid x4
  have L14 := Lib.hid (L1.out.keep b4); have L24 := Lib.hid (L2.out.keep b4)
  have hr1 : m1 ≤ 4096 := by have h1 := L1.out.len; have h2 := HRF.out.1; omega
  have hr2 : m2 ≤ 65535 := by have h1 := L2.out.len; have h2 := HRF.out.2; omega
  clear b4 x4 B3 X3 L1 L2 h6
  obtain ⟨y0, y1⟩ := cells2 X64.out
  go_wp2_with fail
  refine Calls.mono (Norm_any q1 q2 m1 g1 m2 g2 (restF K x).1 (restF K x).2 w4 L14.out L24.out (by unfold Room; omega) (by unfold Room; omega)) ?_
  rintro e w5 ⟨q5, m5, g5, q6, m6, g6, l5, l6, rfl, o5, o6, hb⟩
  rw [← show Y = normS ((restF K x).1, (restF K x).2) from HYE.out] at l5 l6 o5 o6
  have B5 := Lib.hid (bl B4.out hb B4.out.size)
  have X25 := Lib.hid ((hb.block _ (blk_lt X24.out)).trans X24.out)
  have X65 := Lib.hid ((hb.block _ (blk_lt X64.out)).trans X64.out)
  have ne1 : w.heap.size ≠ b6 := by omega
  have N6 : Hid (Below w.heap.size w ((w5.setCell ⟨b6, 0, none⟩ (.slice q5 m5 g5)).setCell ⟨b6, 1, none⟩ (.slice q6 m6 g6)) ∧ ((w5.setCell ⟨b6, 0, none⟩ (.slice q5 m5 g5)).setCell ⟨b6, 1, none⟩ (.slice q6 m6 g6)).heap[w.heap.size]? = some (.cells #[.pointer (some ⟨be, 0, none⟩)] 50 (0, 0)) ∧
      ((w5.setCell ⟨b6, 0, none⟩ (.slice q5 m5 g5)).setCell ⟨b6, 1, none⟩ (.slice q6 m6 g6)).heap[b6]? = some (.cells #[.slice q5 m5 g5, .slice q6 m6 g6] 61 (0, 0)) ∧
      Bw 5 ((w5.setCell ⟨b6, 0, none⟩ (.slice q5 m5 g5)).setCell ⟨b6, 1, none⟩ (.slice q6 m6 g6)) w.heap.size (.slice q5 m5 g5) Y.1 ∧ Bw 5 ((w5.setCell ⟨b6, 0, none⟩ (.slice q5 m5 g5)).setCell ⟨b6, 1, none⟩ (.slice q6 m6 g6)) w.heap.size (.slice q6 m6 g6) Y.2) :=
    ⟨(B5.out.setCell (by show w.heap.size ≤ b6; omega) _).setCell (by show w.heap.size ≤ b6; omega) _, hsc (hsc X25.out ne1) ne1, hss (hss X65.out), Bw.mk (owns_mono (owns_set (owns_set o5 hb64) hb64) (by omega)) l5.out, Bw.mk (owns_mono (owns_set (owns_set o6 hb64) hb64) (by omega)) l6.out⟩
  obtain ⟨y0', y1'⟩ := cells2 X65.out
  have z0 := frozen_of_row _ _ 0 _ _ X65.out
  have z1 := frozen_of_row _ _ 1 _ _ X65.out
  clear y0 y1 o5 o6 hb B4 X24 X64 L14 L24 B5 X25 X65 l5 l6
  go_wp2_with fail
  clear y0' y1' z0 z1
  refine use_w1 (fun W => Below w.heap.size w W ∧ W.heap[w.heap.size]? = some (.cells #[.pointer (some ⟨be, 0, none⟩)] 50 (0, 0)) ∧ W.heap[b6]? = some (.cells #[.slice q5 m5 g5, .slice q6 m6 g6] 61 (0, 0)) ∧ Bw 5 W w.heap.size (.slice q5 m5 g5) Y.1 ∧ Bw 5 W w.heap.size (.slice q6 m6 g6) Y.2) N6.out ?_
  rintro w6 ⟨b6', x26, x66, yb1, yb2⟩
  clear N6
  refine Calls.mono (Lead_any q5 m5 g5 Y.1 w6 yb1.sl') ?_
  rintro e w' ⟨rfl, rfl⟩
  rw [HLY.out]
  have B6 := Lib.hid b6'; have X26 := Lib.hid x26; have X66 := Lib.hid x66; have Y1 := Lib.hid yb1; have Y2 := Lib.hid yb2
  have E6 := Lib.hid (HE.out.keep b6')
  clear b6' x26 x66 yb1 yb2
  obtain ⟨f0, f1, f2⟩ := cells3 (hal (o := .cells #[.int .i64 l] 3) E6.out.box)
  have p0 : (w6.alloc (.cells #[.int .i64 l] 3)).cell? ⟨w.heap.size, 0, none⟩ = some (.pointer (some ⟨be, 0, none⟩)) := cell_of_row _ _ 0 _ _ _ (hal X26.out)
  obtain ⟨b8, h8⟩ : ∃ b8, b8 = w6.heap.size := ⟨_, rfl⟩
  have hb8 : b6 < b8 := by rw [h8]; exact blk_lt X66.out
  have NA : Hid (∀ o, Below w6.heap.size w6 (w6.alloc o)) := fun o => al (Below.refl _ _) (Nat.le_refl _)
  obtain ⟨b2, hb2⟩ : ∃ b2, b2 = w.heap.size := ⟨_, rfl⟩
  go_wp2
  clear f0 f1 f2 p0
  rw [← h8]
  have H8 := Lib.hid h8
  clear h8
  go_loopw [39] (fun i wr => ∃ j : Nat, j ≤ n ∧ i = .int .i64 j ∧ Hid (RwL 61 5 wr base (.slice q n c) n ((K.take j).map (clrF Y) ++ K.drop j)) ∧ Hid (wr.heap[be]? = some (.cells #[.int .i64 k, .int .i64 t, .slice q n c] 104 (0, 0))) ∧
    Hid (wr.heap[w.heap.size]? = some (.cells #[.pointer (some ⟨be, 0, none⟩)] 50 (0, 0))) ∧ Hid (wr.heap[b6]? = some (.cells #[.slice q5 m5 g5, .slice q6 m6 g6] 61 (0, 0))) ∧ Hid (wr.heap[b8]? = some (.cells #[.int .i64 l] 3 (0, 0))) ∧
    Hid (Bw 5 wr w.heap.size (.slice q5 m5 g5) Y.1) ∧ Hid (Bw 5 wr w.heap.size (.slice q6 m6 g6) Y.2) ∧ Hid (Chg w wr be (.slice q n c))) (fun i _ => n - (intOf i).toNat)
  case atStart => exact ⟨0, Nat.zero_le _, rfl, by show RwL _ _ _ _ _ _ _; simpa using (E6.out.keep (NA.out _)).rows, (E6.out.keep (NA.out _)).box, hal X26.out, hal X66.out, hnew H8.out, Y1.out.keep (NA.out _), Y2.out.keep (NA.out _), (Chg.of be _ B6.out).below (NA.out _)⟩
  case round =>
    clear B6 X26 X66 Y1 Y2 E6 NA
    obtain ⟨j, hj, rfl, hR, hX, h2, hX6, hX8, hY1, hY2, hC⟩ := hrel
    have HKJ : Hid (∀ a, K[j]? = some a → ((K.take j).map (clrF Y) ++ K.drop j)[j]? = some a) := fun a ha => by
      have lj : ((K.take j).map (clrF Y)).length = j := by rw [List.length_map, List.length_take, HKN.out]; omega
      rw [List.getElem?_append_right (by omega), lj, Nat.sub_self, List.getElem?_drop]; simpa using ha
    by_cases hjl : j < n
    · have jn : (j : Int) < (n : Int) := by omega
      obtain ⟨A, hA⟩ : ∃ A, K[j]? = some A := ⟨_, List.getElem?_eq_getElem (by rw [HKN.out]; exact hjl)⟩
      obtain ⟨g, kk, a1, b1, d1, a2, b2', d2, rfl, e1, e2, hkk, t1, t2⟩ := hR.out.at hjl
      have hkA : kk = A := by have h := hkk.out; rw [HKJ.out A hA] at h; cases h; rfl
      subst hkA
      have fA := (HKL.out kk (List.mem_of_getElem? hA))
      have HA := Lib.hid hA; have T1 := Lib.hid t1; have T2 := Lib.hid t2
      have HE1 := Lib.hid e1; have HE2 := Lib.hid e2
      obtain ⟨CJ, hCJ⟩ : ∃ CJ, CJ = atS kk.1 (l : Int) := ⟨_, rfl⟩
      have HYJ : Hid (clrF Y kk = lessF kk CJ Y) := by show _ = _; unfold clrF; rw [HLY.out, hCJ]
      have HFA := Lib.hid fA
      have HAT : Hid (∀ W, Sl B8 W a1 b1 d1 kk.1 → Calls Try.prog 61 #[.slice a1 b1 d1, .int .i64 l] W fun e w' => e = .returned (B8 CJ) ∧ W = w') := fun W h => by rw [hCJ]; exact At_any _ _ _ _ l W h
      have c8 : (wr.alloc (.cells #[.slice a1 b1 d1, .slice a2 b2' d2] 61)).cell? ⟨b8, 0, none⟩ = some (.int .i64 l) := cell_of_row _ _ 0 _ _ _ (hal hX8.out)
      clear t1 t2 hkk hA fA hCJ
      go_wp2_with fail
      clear e1 e2 c8
      refine use_w1 (fun W => Below wr.heap.size wr W ∧ W.heap[wr.heap.size]? = some (.cells #[.slice a1 b1 d1, .slice a2 b2' d2] 61 (0, 0))) ⟨al (Below.refl _ _) (Nat.le_refl _), hnew rfl⟩ ?_
      rintro w7 ⟨b7, x7⟩
      refine Calls.mono (HAT.out w7 (T1.out.keep b7)) ?_
      rintro e w' ⟨rfl, rfl⟩
      have B7 := Lib.hid b7; have X7 := Lib.hid x7
      have R7 := Lib.hid (hR.out.keep b7); have E7 := Lib.hid ((b7.block _ (blk_lt hX.out)).trans hX.out); have P7 := Lib.hid ((b7.block _ (blk_lt h2.out)).trans h2.out)
      have X67 := Lib.hid ((b7.block _ (blk_lt hX6.out)).trans hX6.out); have X87 := Lib.hid ((b7.block _ (blk_lt hX8.out)).trans hX8.out)
      have Y17 := Lib.hid (hY1.out.keep b7); have Y27 := Lib.hid (hY2.out.keep b7); have C7 := Lib.hid (hC.out.below b7)
      have T17 := Lib.hid (T1.out.keep b7); have T27 := Lib.hid (T2.out.keep b7)
      clear b7 x7 HAT hR hX h2 hX6 hX8 hY1 hY2 hC T1 T2 HE1 HE2 HKJ
      have HKS : Hid ((K.take (j + 1)).map (clrF Y) ++ K.drop (j + 1) = ((K.take j).map (clrF Y) ++ K.drop j).set j (clrF Y kk)) := by
        show _ = _
        have lj : ((K.take j).map (clrF Y)).length = j := by rw [List.length_map, List.length_take, HKN.out]; omega
        rw [List.set_append_right _ _ (by omega), lj, Nat.sub_self, List.take_add_one, HA.out, List.map_append]
        have : K.drop j = kk :: K.drop (j + 1) := by
          obtain ⟨hl, e⟩ := List.getElem?_eq_some_iff.1 HA.out
          rw [List.drop_eq_getElem_cons hl, e]
        rw [this]; simp
      by_cases hc : CJ = 0
      · have hz : ((CJ.toNat : Int) != 0) = false := by rw [hc]; rfl
        have HKZ : Hid ((K.take (j + 1)).map (clrF Y) ++ K.drop (j + 1) = (K.take j).map (clrF Y) ++ K.drop j) := by
          show _ = _
          rw [HKS.out, HYJ.out, hc, less_zero HFA.out.1 HFY.out]
          refine List.ext_getElem? fun i => ?_
          rw [List.getElem?_set]
          by_cases e : j = i
          · subst e
            have lj : ((K.take j).map (clrF Y)).length = j := by rw [List.length_map, List.length_take, HKN.out]; omega
            rw [if_pos rfl, if_pos (by rw [List.length_append, lj, List.length_drop, HKN.out]; omega), List.getElem?_append_right (by omega), lj, Nat.sub_self, List.getElem?_drop]
            have := HA.out; simpa using this.symm
          · rw [if_neg e]
        have R8 := Lib.hid R7.out
        rw [← HKZ.out] at R8
        clear hc HKZ HKS HYJ R7 HA T17 T27 HFA B7 X7
        go_wp2
        go_roundw
        case rel => exact ⟨j + 1, by omega, by go_num, R8.out, E7.out, P7.out, X67.out, X87.out, Y17.out, Y27.out, C7.out⟩
        case measure => simp [intOf]; omega
      · have hz : ((CJ.toNat : Int) != 0) = true := by simp; exact fun h => hc (UInt8.toNat_inj.1 (by simpa using h))
        obtain ⟨YJ, hYJ⟩ : ∃ YJ, YJ = lessF kk CJ Y := ⟨_, rfl⟩
        have HLS : Hid (∀ W, Sl B8 W a1 b1 d1 kk.1 → Sl B8 W a2 b2' d2 kk.2 → Sl B8 W q5 m5 g5 Y.1 → Sl B8 W q6 m6 g6 Y.2 → Calls Try.prog 60 #[.agg #[.slice a1 b1 d1, .slice a2 b2' d2], B8 CJ, .agg #[.slice q5 m5 g5, .slice q6 m6 g6]] W (RetR2 5 W YJ 0)) := fun W g1 g2 g3 g4 => by
          have := Less_any a1 a2 q5 q6 b1 d1 b2' d2 m5 g5 m6 g6 kk.1 kk.2 Y.1 Y.2 CJ W g1 g2 g3 g4 (by have h1 := g1.len; have h2 := HFA.out.1.1; unfold Room; omega) (by have h1 := g2.len; have h2 := HFA.out.1.2; unfold Room; omega)
          rw [lessS_fit (n := k) (t := t) (x := kk) (k := Y) HFA.out.1 HFY.out, ← hYJ] at this
          exact this
        rw [HYJ.out, ← hYJ] at HKS
        have hgw : g < w.heap.size := (HE.out.rows.lt g (by simp [Value.ownBlock])).2
        have hgbe : g ≠ be := fun e => HE.out.rows.ne_box HE.out.box (by decide) (by simp [Value.ownBlock, e])
        have hbw7 : base ≤ w7.heap.size := by have := C7.out.size; omega
        obtain ⟨u0, u1⟩ := cells2 X7.out
        obtain ⟨y0, y1⟩ := cells2 X67.out
        obtain ⟨f0, f1, f2⟩ := cells3 E7.out
        have p2 : w7.cell? ⟨w.heap.size, 0, none⟩ = some (.pointer (some ⟨be, 0, none⟩)) := cell_of_row _ _ 0 _ _ _ P7.out
        clear hc hYJ HYJ HA HFA
        go_wp2
        refine wp_region_late (fun ix => ([.val (.pointer (some ⟨be, 0, none⟩)), .val (.pointer (some ⟨be, 0, none⟩)), .val (.pointer (some ⟨be, 2, none⟩)), .val (.slice (some ⟨g, 0, none⟩) n c), .val (.int .i64 j), .val (.agg #[.slice a1 b1 d1, .slice a2 b2' d2]), .val (B8 CJ), .val (.agg #[.slice q5 m5 g5, .slice q6 m6 g6]), (shpRowTO 5 base YJ 0), (shpRowTO 5 base YJ 0), (shpRowO 5 base YJ), .val (.int .i64 0), .val (.pointer (some ⟨g, j * 2, none⟩)), .any][ix]?).getD (.any)) 83 13 11 50 61 rfl (by kernel_rfl) (by decide) (by decide) (by decide) _ rfl rfl rfl (by decide) (fun a u x w h => run_extract1 _ rfl h) (by decide) ?_ ?_
        · refine ⟨?_, ?_, ?_, ?_, ?_, ?_, ?_, ?_, ?_, ?_, ?_, ?_, ?_, trivial⟩
          · intro a W hb0 hs hp hi; have hb := undrew hb0; clear hb0
            have tt : sl a 2 = .pointer (some ⟨w.heap.size, 0, none⟩) := hi 2 (by decide)
            have dd0 := (hb.cell (p := ⟨w.heap.size, 0, none⟩) (lt_of_cell p2)).trans p2
            refine ite_y rfl (wp_val (.pointer (some ⟨be, 0, none⟩)) ?_ ?_)
            · simp only [execOp, eval_tmp, tt]; simp [go_sem, dd0]
            · exact ⟨_, rfl, Below.refl _ _, rfl⟩
          · intro a W hb0 hs hp hi; have hb := undrew hb0; clear hb0
            have tt : sl a 51 = .pointer (some ⟨be, 0, none⟩) := hp 0 (by decide)
            refine ite_y rfl (wp_val (.pointer (some ⟨be, 0, none⟩)) ?_ ?_)
            · simp only [execOp, eval_tmp, tt]; simp [go_sem]
            · exact ⟨_, rfl, Below.refl _ _, rfl⟩
          · intro a W hb0 hs hp hi; have hb := undrew hb0; clear hb0
            have t52 : sl a 52 = .pointer (some ⟨be, 0, none⟩) := hp 1 (by decide)
            refine ite_y rfl (wp_val (.pointer (some ⟨be, 2, none⟩)) ?_ ?_)
            · simp only [execOp, eval_tmp, eval_const, t52]; simp [go_sem]
            · exact ⟨_, rfl, Below.refl _ _, rfl⟩
          · intro a W hb0 hs hp hi; have hb := undrew hb0; clear hb0
            have tt : sl a 53 = .pointer (some ⟨be, 2, none⟩) := hp 2 (by decide)
            have dd0 := (hb.cell (p := ⟨be, 2, none⟩) (lt_of_cell f2)).trans f2
            refine ite_y rfl (wp_val (.slice (some ⟨g, 0, none⟩) n c) ?_ ?_)
            · simp only [execOp, eval_tmp, tt]; simp [go_sem, dd0]
            · exact ⟨_, rfl, Below.refl _ _, rfl⟩
          · intro a W hb0 hs hp hi; have hb := undrew hb0; clear hb0
            have t9 : sl a 9 = .int .i64 j := hi 9 (by decide)
            exact ite_y rfl (wp_val (sl a 9) rfl ⟨_, rfl, Below.refl _ _, t9⟩)
          · intro a W hb0 hs hp hi; have hb := undrew hb0; clear hb0
            have tt : sl a 10 = .pointer (some ⟨wr.heap.size, 0, none⟩) := hi 10 (by decide)
            have dd0 := (hb.cell (p := ⟨wr.heap.size, 0, none⟩) (lt_of_cell u0)).trans u0
            have dd1 := (hb.cell (p := ⟨wr.heap.size, 1, none⟩) (lt_of_cell u1)).trans u1
            refine ite_y rfl (wp_val (.agg #[.slice a1 b1 d1, .slice a2 b2' d2]) ?_ ?_)
            · simp only [execOp, eval_tmp, tt]; simp [go_sem, dd0, dd1]
            · exact ⟨_, rfl, Below.refl _ _, rfl⟩
          · intro a W hb0 hs hp hi; have hb := undrew hb0; clear hb0
            have t11 : sl a 11 = B8 CJ := hi 11 (by decide)
            exact ite_y rfl (wp_val (sl a 11) rfl ⟨_, rfl, Below.refl _ _, t11⟩)
          · intro a W hb0 hs hp hi; have hb := undrew hb0; clear hb0
            have tt : sl a 6 = .pointer (some ⟨b6, 0, none⟩) := hi 6 (by decide)
            have dd0 := (hb.cell (p := ⟨b6, 0, none⟩) (lt_of_cell y0)).trans y0
            have dd1 := (hb.cell (p := ⟨b6, 1, none⟩) (lt_of_cell y1)).trans y1
            refine ite_y rfl (wp_val (.agg #[.slice q5 m5 g5, .slice q6 m6 g6]) ?_ ?_)
            · simp only [execOp, eval_tmp, tt]; simp [go_sem, dd0, dd1]
            · exact ⟨_, rfl, Below.refl _ _, rfl⟩
          · intro a W hb0 hs hp hi; have hb := undrew hb0; clear hb0
            have t56 : sl a 56 = .agg #[.slice a1 b1 d1, .slice a2 b2' d2] := hp 5 (by decide)
            have t57 : sl a 57 = B8 CJ := hp 6 (by decide)
            have t58 : sl a 58 = .agg #[.slice q5 m5 g5, .slice q6 m6 g6] := hp 7 (by decide)
            refine ite_y rfl (wp_enter 60 #[.agg #[.slice a1 b1 d1, .slice a2 b2' d2], B8 CJ, .agg #[.slice q5 m5 g5, .slice q6 m6 g6]] ?_ (HLS.out W (T17.out.keep hb) (T27.out.keep hb) (Y17.out.keep hb).sl' (Y27.out.keep hb).sl') ?_)
            · simp only [execOp, resolve, List.map_toArray, List.map, eval_tmp, eval_func, eval_const, t56, t57, t58]; simp [go_sem]
            · rintro e W' ⟨q7, m7, k7, q8, m8, k8, e7, e8, rfl, o7, o8, hw⟩; have hbs := hb.size; exact ⟨_, rfl, _, rfl, hw, _, rfl, _, _, rfl, (Bw.mk o7 e7.out).mono (by omega), (Bw.mk o8 e8.out).mono (by omega)⟩
          · intro a W hb0 hs hp hi; have hb := undrew hb0; clear hb0
            have tt : (shpRowTO 5 base YJ 0).ok (sl a 59) W := hp 8 (by decide)
            exact ite_y rfl (wp_val (sl a 59) rfl ⟨_, rfl, Below.refl _ _, tt⟩)
          · intro a W hb0 hs hp hi; have hb := undrew hb0; clear hb0
            have tt : (shpRowTO 5 base YJ 0).ok (sl a 50) W := hp 9 (by decide)
            obtain ⟨u, tt, hr⟩ := tt
            exact ite_y rfl (wp_val u (by simp only [execOp, eval_tmp, tt]; rfl) ⟨_, rfl, Below.refl _ _, hr⟩)
          · intro a W hb0 hs hp hi; have hb := undrew hb0; clear hb0
            have tt : (shpRowTO 5 base YJ 0).ok (sl a 50) W := hp 9 (by decide)
            obtain ⟨u, tt, hr⟩ := tt
            exact ite_y rfl (wp_val (.int .i64 0) (by simp only [execOp, eval_tmp, tt]; rfl) ⟨_, rfl, Below.refl _ _, rfl⟩)
          · intro a W hb0 hs hp hi; have hb := undrew hb0; clear hb0
            have t54 : sl a 54 = .slice (some ⟨g, 0, none⟩) n c := hp 3 (by decide)
            have t55 : sl a 55 = .int .i64 j := hp 4 (by decide)
            refine ite_y rfl (wp_val (.pointer (some ⟨g, j * 2, none⟩)) ?_ ?_)
            · simp only [execOp, eval_tmp, eval_const, t54, t55]; simp [go_sem, jn, hjl]
            · exact ⟨_, rfl, Below.refl _ _, rfl⟩
        · intro a w9 o ho hb hs hd hI ht
          simp at ho; subst ho
          have t62 : sl a 62 = .pointer (some ⟨g, j * 2, none⟩) := hI 12 (by decide) (by decide)
          have t50 : (shpRowTO 5 base YJ 0).ok (sl a 50) w9 := hI 9 (by decide) (by decide)
          have t60 : (shpRowO 5 base YJ).ok (sl a 60) w9 := hI 10 (by decide) (by decide)
          obtain ⟨uu, t50, -⟩ := t50
          obtain ⟨v1, v2, t60, hv1, hv2⟩ := t60
          have R9 := R7.out.keep hb
          obtain ⟨cur9, hcur⟩ := R9.blk
          obtain ⟨g', kx, x1, y1', z1', x2, y2', z2', eg, d0, d1, -⟩ := R9.at hjl
          cases eg
          have z0 : w9.frozen? ⟨g, j * 2, none⟩ = false := frozen_of_row _ _ _ _ _ hcur
          have z1 : w9.frozen? ⟨g, j * 2 + 1, none⟩ = false := frozen_of_row _ _ _ _ _ hcur
          have o1 := hv1.one
          have o2 := hv2.one
          obtain ⟨xq1, xm1, xc1, rfl, -⟩ := id hv1
          obtain ⟨xq2, xm2, xc2, rfl, -⟩ := id hv2
          refine ⟨⟨_, _, t50⟩, wp_skipX (w' := ((w9.setCell ⟨g, j * 2, none⟩ (.slice xq1 xm1 xc1)).setCell ⟨g, j * 2 + 1, none⟩ (.slice xq2 xm2 xc2))) ?_ ⟨rfl, fun b hbs hbd hbt => ?_⟩⟩
          · simp only [execOp, eval_tmp, t60, t62]; simp [go_sem, d0, d1, z0, z1]
          have ha := act_is [51, 52, 53, 54, 55, 56, 57, 58, 59, 50, 60, 61, 62] hbs hbd (fun t h => (hbt t (fun e => by subst e; revert h; decide)).trans (ht t h)) (by decide)
          simp only [List.foldl] at ha
          generalize sl b 51 = u51 at ha
          generalize sl b 52 = u52 at ha
          generalize sl b 53 = u53 at ha
          generalize sl b 54 = u54 at ha
          generalize sl b 55 = u55 at ha
          generalize sl b 56 = u56 at ha
          generalize sl b 57 = u57 at ha
          generalize sl b 58 = u58 at ha
          generalize sl b 59 = u59 at ha
          generalize sl b 50 = u50 at ha
          generalize sl b 60 = u60 at ha
          generalize sl b 61 = u61 at ha
          generalize sl b 62 = u62 at ha
          simp only [Act.put, List.setIfInBounds_toArray, List.set_cons_zero, List.set_cons_succ] at ha
          rw [ha]; clear ha
          have RN := R9.put (k := YJ) (by decide) hjl hv1 hv2
          rw [← HKS.out] at RN
          have gb := grown_trans (grownBy_setCell w9 g (j * 2) (.slice xq1 xm1 xc1)) (grownBy_setCell (w9.setCell ⟨g, j * 2, none⟩ (.slice xq1 xm1 xc1)) g (j * 2 + 1) (.slice xq2 xm2 xc2))
          have ne0 : be ≠ g := fun e => hgbe e.symm
          have ne2 : w.heap.size ≠ g := by omega
          have ne6 : b6 ≠ g := by omega
          have ne8 : b8 ≠ g := by omega
          have yo : ∀ (u : Value) (xs : List UInt8), Bw 5 w9 w.heap.size u xs → Bw 5 ((w9.setCell ⟨g, j * 2, none⟩ (.slice xq1 xm1 xc1)).setCell ⟨g, j * 2 + 1, none⟩ (.slice xq2 xm2 xc2)) w.heap.size u xs := fun u xs h => h.set (g := g) (o := 0) (u := u) (fun kx hkx => by
            obtain ⟨q', m', c', e', l', o'⟩ := h
            rw [e'] at hkx
            have := (o'.lt kx hkx).1
            omega) gb
          have NX : ((w9.setCell ⟨g, j * 2, none⟩ (.slice xq1 xm1 xc1)).setCell ⟨g, j * 2 + 1, none⟩ (.slice xq2 xm2 xc2)).heap[be]? = some (.cells #[.int .i64 k, .int .i64 t, .slice (some ⟨g, 0, none⟩) n c] 104 (0, 0)) ∧ ((w9.setCell ⟨g, j * 2, none⟩ (.slice xq1 xm1 xc1)).setCell ⟨g, j * 2 + 1, none⟩ (.slice xq2 xm2 xc2)).heap[w.heap.size]? = some (.cells #[.pointer (some ⟨be, 0, none⟩)] 50 (0, 0)) ∧ ((w9.setCell ⟨g, j * 2, none⟩ (.slice xq1 xm1 xc1)).setCell ⟨g, j * 2 + 1, none⟩ (.slice xq2 xm2 xc2)).heap[b6]? = some (.cells #[.slice q5 m5 g5, .slice q6 m6 g6] 61 (0, 0)) ∧ ((w9.setCell ⟨g, j * 2, none⟩ (.slice xq1 xm1 xc1)).setCell ⟨g, j * 2 + 1, none⟩ (.slice xq2 xm2 xc2)).heap[b8]? = some (.cells #[.int .i64 l] 3 (0, 0)) ∧
              Bw 5 ((w9.setCell ⟨g, j * 2, none⟩ (.slice xq1 xm1 xc1)).setCell ⟨g, j * 2 + 1, none⟩ (.slice xq2 xm2 xc2)) w.heap.size (.slice q5 m5 g5) Y.1 ∧ Bw 5 ((w9.setCell ⟨g, j * 2, none⟩ (.slice xq1 xm1 xc1)).setCell ⟨g, j * 2 + 1, none⟩ (.slice xq2 xm2 xc2)) w.heap.size (.slice q6 m6 g6) Y.2 ∧ Chg w ((w9.setCell ⟨g, j * 2, none⟩ (.slice xq1 xm1 xc1)).setCell ⟨g, j * 2 + 1, none⟩ (.slice xq2 xm2 xc2)) be (.slice (some ⟨g, 0, none⟩) n c) :=
            ⟨hsc (hsc ((hb.block _ (blk_lt E7.out)).trans E7.out) ne0) ne0, hsc (hsc ((hb.block _ (blk_lt P7.out)).trans P7.out) ne2) ne2, hsc (hsc ((hb.block _ (blk_lt X67.out)).trans X67.out) ne6) ne6, hsc (hsc ((hb.block _ (blk_lt X87.out)).trans X87.out) ne8) ne8,
              yo _ _ (Y17.out.keep hb), yo _ _ (Y27.out.keep hb), (C7.out.below hb).grown (by simpa [Value.ownBlock] using gb)⟩
          generalize ((w9.setCell ⟨g, j * 2, none⟩ (.slice xq1 xm1 xc1)).setCell ⟨g, j * 2 + 1, none⟩ (.slice xq2 xm2 xc2)) = wn at NX RN ⊢
          have NXH := Lib.hid NX; have RNH := Lib.hid RN
          clear NX RN R9 hcur d0 d1 z0 z1 hv1 hv2 hI ht hb hbt gb yo u0 u1 y0 y1 f0 f1 f2 p2 R7 E7 P7 X67 X87 Y17 Y27 C7 B7 X7 T17 T27 HLS
          go_wp2
          go_roundw
          case rel => exact ⟨j + 1, by omega, by go_num, RNH.out, NXH.out.1, NXH.out.2.1, NXH.out.2.2.1, NXH.out.2.2.2.1, NXH.out.2.2.2.2.1, NXH.out.2.2.2.2.2.1, NXH.out.2.2.2.2.2.2⟩
          case measure => simp [intOf]; omega
    · have hjn : j = n := by omega
      have hge : (n : Int) ≤ (j : Int) := by omega
      have RM : Hid (RwL 61 5 wr base (.slice q n c) n (K.map (clrF Y))) := by
        have h := hR.out
        rw [hjn, List.take_of_length_le (by rw [HKN.out]; exact Nat.le_refl _), List.drop_eq_nil_of_le (by rw [HKN.out]; exact Nat.le_refl _), List.append_nil] at h; exact h
      have EM : Hid (Elm wr base be k t (.slice q n c) n (K.map (clrF Y))) := ⟨hX.out, RM.out, hbe⟩
      obtain ⟨f0, f1, f2⟩ := cells3 hX.out
      have p2 : wr.cell? ⟨w.heap.size, 0, none⟩ = some (.pointer (some ⟨be, 0, none⟩)) := cell_of_row _ _ 0 _ _ _ h2.out
      clear hjn hR HKJ
      go_wp2_with fail
      refine Calls.mono (Search_any f 71 #[.pointer (some ⟨w.heap.size, 0, none⟩), .pointer (some ⟨b8, 0, none⟩)] enters_behind n wr (by omega) (fun W i hW hi => ?_) hmono.out) ?_
      · obtain ⟨z, hz⟩ : ∃ z, (K.map (clrF Y))[i]? = some z := ⟨_, List.getElem?_eq_getElem (by rw [List.length_map, HKN.out]; exact hi)⟩
        have h := Behind_any base be k t n (.slice q n c) (K.map (clrF Y)) w.heap.size b8 i (l : Int) z W (EM.out.keep hW) (cell_of_row _ _ 0 _ _ _ ((hW.block _ (blk_lt h2.out)).trans h2.out)) (cell_of_row _ _ 0 _ _ _ ((hW.block _ (blk_lt hX8.out)).trans hX8.out)) hi hz
        have e : decide ((l : Int) < leadS z.1) = f i := by
          rw [HFF.out]
          show _ = decide ((l : Int) < leadS ((K.map (clrF Y)).getD i ([], [])).1)
          rw [List.getD_eq_getElem?_getD, hz]; rfl
        rw [e] at h; exact h
      rintro e w10 ⟨r, hr, rfl, hlo, hhi, hb⟩
      have HFIN := Lib.hid (hfin.out r hr hlo hhi)
      have E10 := Lib.hid (EM.out.keep hb); have P10 := Lib.hid ((hb.block _ (blk_lt h2.out)).trans h2.out); have X610 := Lib.hid ((hb.block _ (blk_lt hX6.out)).trans hX6.out)
      have Y110 := Lib.hid (hY1.out.keep hb); have Y210 := Lib.hid (hY2.out.keep hb); have C10 := Lib.hid (hC.out.below hb)
      have hb10 : base ≤ w10.heap.size := by have := C10.out.size; omega
      clear hlo hhi hb EM RM hX h2 hX6 hX8 hY1 hY2 hC f0 f1 f2 p2
      obtain ⟨f0, f1, f2⟩ := cells3 E10.out.box
      obtain ⟨y0, y1⟩ := cells2 X610.out
      have p2 : w10.cell? ⟨w.heap.size, 0, none⟩ = some (.pointer (some ⟨be, 0, none⟩)) := cell_of_row _ _ 0 _ _ _ P10.out
      go_wp2
      refine wp_region_mid (fun ix => ([.val (.pointer (some ⟨be, 0, none⟩)), .val (.pointer (some ⟨be, 0, none⟩)), .val (.pointer (some ⟨be, 0, none⟩)), .val (.pointer (some ⟨be, 2, none⟩)), .val (.slice q n c), .val (.int .i64 r), .val (.agg #[.slice q5 m5 g5, .slice q6 m6 g6]), (shpOne 61 w10.heap.size (.slice q5 m5 g5) (.slice q6 m6 g6)), .any, .val (.pointer (some ⟨be, 0, none⟩)), .val (.pointer (some ⟨be, 2, none⟩)), .any][ix]?).getD (.any)) (fun ix => (([some (.pointer (some ⟨be, 0, none⟩)), some (.pointer (some ⟨be, 0, none⟩)), some (.pointer (some ⟨be, 0, none⟩)), some (.pointer (some ⟨be, 2, none⟩)), none, none, some (.agg #[.slice q5 m5 g5, .slice q6 m6 g6]), none, none, some (.pointer (some ⟨be, 0, none⟩)), some (.pointer (some ⟨be, 2, none⟩))] : List (Option Value))[ix]?).getD none) 83 11 8 80 (fun u W => RwL 61 5 W base u (n + 1) (putF K x) ∧ W.heap[be]? = some (.cells #[.int .i64 k, .int .i64 t, .slice q n c] 104 (0, 0)) ∧ W.heap[w.heap.size]? = some (.cells #[.pointer (some ⟨be, 0, none⟩)] 50 (0, 0)) ∧ W.heap[b6]? = some (.cells #[.slice q5 m5 g5, .slice q6 m6 g6] 61 (0, 0)) ∧ Chg w W be (.slice q n c) ∧ (u.ownBlock = (Value.slice q n c).ownBlock ∨ ∀ b, u.ownBlock = some b → w.heap.size ≤ b)) rfl (by kernel_rfl) (by decide) (by decide) (by decide) ?_ _ rfl ?_ ?_ ?_ ?_
      · intro j u hj
        have hj11 : j < 11 := by
          rcases Nat.lt_or_ge j 11 with h | h
          · exact h
          · simp [List.getElem?_eq_none (show ([_, _, _, _, _, _, _, _, _, _, _] : List (Option Value)).length ≤ j from h)] at hj
        rcases (show j = 0 ∨ j = 1 ∨ j = 2 ∨ j = 3 ∨ j = 4 ∨ j = 5 ∨ j = 6 ∨ j = 7 ∨ j = 8 ∨ j = 9 ∨ j = 10 by omega) with rfl | rfl | rfl | rfl | rfl | rfl | rfl | rfl | rfl | rfl | rfl
        all_goals (simp at hj <;> (subst hj; rfl))
      · intro i o him his ho hps
        rcases (show i = 0 ∨ i = 1 ∨ i = 2 ∨ i = 3 ∨ i = 4 ∨ i = 5 ∨ i = 6 ∨ i = 7 ∨ i = 8 ∨ i = 9 ∨ i = 10 by omega) with rfl | rfl | rfl | rfl | rfl | rfl | rfl | rfl | rfl | rfl | rfl
        · simp at ho; subst ho
          intro a W hb0 hs hp hi; have hb := undrew hb0; clear hb0
          have tt : sl a 2 = .pointer (some ⟨w.heap.size, 0, none⟩) := hi 2 (by decide)
          have dd0 := (hb.cell (p := ⟨w.heap.size, 0, none⟩) (lt_of_cell p2)).trans p2
          refine ite_y rfl (wp_val (.pointer (some ⟨be, 0, none⟩)) ?_ ?_)
          · simp only [execOp, eval_tmp, tt]; simp [go_sem, dd0]
          · exact ⟨_, rfl, Below.refl _ _, rfl⟩
        · simp at ho; subst ho
          intro a W hb0 hs hp hi; have hb := undrew hb0; clear hb0
          have tt : sl a 2 = .pointer (some ⟨w.heap.size, 0, none⟩) := hi 2 (by decide)
          have dd0 := (hb.cell (p := ⟨w.heap.size, 0, none⟩) (lt_of_cell p2)).trans p2
          refine ite_y rfl (wp_val (.pointer (some ⟨be, 0, none⟩)) ?_ ?_)
          · simp only [execOp, eval_tmp, tt]; simp [go_sem, dd0]
          · exact ⟨_, rfl, Below.refl _ _, rfl⟩
        · simp at ho; subst ho
          intro a W hb0 hs hp hi; have hb := undrew hb0; clear hb0
          have tt : sl a 73 = .pointer (some ⟨be, 0, none⟩) := hp 1 (by decide)
          refine ite_y rfl (wp_val (.pointer (some ⟨be, 0, none⟩)) ?_ ?_)
          · simp only [execOp, eval_tmp, tt]; simp [go_sem]
          · exact ⟨_, rfl, Below.refl _ _, rfl⟩
        · simp at ho; subst ho
          intro a W hb0 hs hp hi; have hb := undrew hb0; clear hb0
          have t74 : sl a 74 = .pointer (some ⟨be, 0, none⟩) := hp 2 (by decide)
          refine ite_y rfl (wp_val (.pointer (some ⟨be, 2, none⟩)) ?_ ?_)
          · simp only [execOp, eval_tmp, eval_const, t74]; simp [go_sem]
          · exact ⟨_, rfl, Below.refl _ _, rfl⟩
        · simp at ho; subst ho
          intro a W hb0 hs hp hi; have hb := undrew hb0; clear hb0
          have tt : sl a 75 = .pointer (some ⟨be, 2, none⟩) := hp 3 (by decide)
          have dd0 := (hb.cell (p := ⟨be, 2, none⟩) (lt_of_cell f2)).trans f2
          refine ite_y rfl (wp_val (.slice q n c) ?_ ?_)
          · simp only [execOp, eval_tmp, tt]; simp [go_sem, dd0]
          · exact ⟨_, rfl, Below.refl _ _, rfl⟩
        · simp at ho; subst ho
          intro a W hb0 hs hp hi; have hb := undrew hb0; clear hb0
          have t13 : sl a 13 = .int .i64 r := hi 13 (by decide)
          exact ite_y rfl (wp_val (sl a 13) rfl ⟨_, rfl, Below.refl _ _, t13⟩)
        · simp at ho; subst ho
          intro a W hb0 hs hp hi; have hb := undrew hb0; clear hb0
          have tt : sl a 6 = .pointer (some ⟨b6, 0, none⟩) := hi 6 (by decide)
          have dd0 := (hb.cell (p := ⟨b6, 0, none⟩) (lt_of_cell y0)).trans y0
          have dd1 := (hb.cell (p := ⟨b6, 1, none⟩) (lt_of_cell y1)).trans y1
          refine ite_y rfl (wp_val (.agg #[.slice q5 m5 g5, .slice q6 m6 g6]) ?_ ?_)
          · simp only [execOp, eval_tmp, tt]; simp [go_sem, dd0, dd1]
          · exact ⟨_, rfl, Below.refl _ _, rfl⟩
        · simp at ho; subst ho
          intro a W hb0 hs hp hi; have hb := undrew hb0; clear hb0
          have tt : sl a 78 = .agg #[.slice q5 m5 g5, .slice q6 m6 g6] := hp 6 (by decide)
          have v78 : a.tmps[78]?.getD undef = .agg #[.slice q5 m5 g5, .slice q6 m6 g6] := by simpa [sl] using tt
          refine ite_y rfl (wp_val' (w' := W.alloc (.cells #[.slice q5 m5 g5, .slice q6 m6 g6] 61)) (.slice (some ⟨W.heap.size, 0, none⟩) 1 1) ?_ ?_)
          · simp only [execOp, eval_tmp, tt]; simp [go_sem, tt, v78]
          · exact ⟨_, rfl, al (Below.refl _ _) (Nat.le_refl _), W.heap.size, rfl, hnew rfl, hb.size⟩
        · exact absurd rfl his
        · simp at ho; subst ho; exact absurd hps (by decide)
        · simp at ho; subst ho; exact absurd hps (by decide)
      · intro a W hb hs hp
        have t76 : sl a 76 = .slice q n c := hp 4 (by decide)
        have t77 : sl a 77 = .int .i64 r := hp 5 (by decide)
        obtain ⟨vb, t79, hvb, hvb2⟩ : ∃ vb, sl a 79 = .slice (some ⟨vb, 0, none⟩) 1 1 ∧ W.heap[vb]? = some (.cells #[.slice q5 m5 g5, .slice q6 m6 g6] 61 (0, 0)) ∧ w10.heap.size ≤ vb := hp 7 (by decide)
        have EW := E10.out.keep hb
        have hvo : (Value.slice q n c).ownBlock ≠ some vb := fun e => by have := (E10.out.rows.lt vb e).2; omega
        refine wp_enter 73 #[.slice q n c, .int .i64 r, .slice (some ⟨vb, 0, none⟩) 1 1] ?_ (InsRow_any base n r vb _ (.slice q5 m5 g5) (.slice q6 m6 g6) (K.map (clrF Y)) Y W EW.rows hr (by omega) (by have := hb.size; omega) hvb hvo ((Y110.out.keep hb).mono hbw) ((Y210.out.keep hb).mono hbw)) ?_
        · simp [execOp, resolve, show a.tmps[76]?.getD undef = .slice q n c by simpa [sl] using t76, show a.tmps[77]?.getD undef = .int .i64 r by simpa [sl] using t77, show a.tmps[79]?.getD undef = .slice (some ⟨vb, 0, none⟩) 1 1 by simpa [sl] using t79, go_sem]
        · rintro e W' ⟨u, rfl, hRw, hg, hbk⟩
          rw [HFIN.out] at hRw
          have hCW := C10.out.below hb
          have ko : ∀ b, b < W.heap.size → (Value.slice q n c).ownBlock ≠ some b → W'.heap[b]? = W.heap[b]? := fun b h1 h2 => hg.block b h1 (fun e => h2 e.symm)
          have n1 : (Value.slice q n c).ownBlock ≠ some be := EW.rows.ne_box EW.box (by decide)
          have lt1 : ∀ b, (Value.slice q n c).ownBlock = some b → b < w.heap.size := fun b e => (HE.out.rows.lt b e).2
          have P10W := (hb.block _ (blk_lt P10.out)).trans P10.out; have X610W := (hb.block _ (blk_lt X610.out)).trans X610.out
          refine ⟨u, rfl, u, rfl, hRw, (ko be (blk_lt EW.box) n1).trans EW.box, (ko _ (blk_lt P10W) (fun e => by have := lt1 _ e; omega)).trans P10W, (ko _ (blk_lt X610W) (fun e => by have := lt1 _ e; omega)).trans X610W, hCW.grown hg, ?_⟩
          rcases hbk with e | e
          · exact .inl e
          · refine .inr fun b hb' => ?_
            rw [e] at hb'; cases hb'
            exact hCW.size
      · intro i o him his ho hpo a W u hP hs hu hk hi
        obtain ⟨-, hPb, hP2, hP6, -, -⟩ := hP
        obtain ⟨F0, F1, F2⟩ := cells3 hPb
        obtain ⟨G0, G1⟩ := cells2 hP6
        have Q2 : W.cell? ⟨w.heap.size, 0, none⟩ = some (.pointer (some ⟨be, 0, none⟩)) := cell_of_row _ _ 0 _ _ _ hP2
        rcases (show i = 0 ∨ i = 1 ∨ i = 2 ∨ i = 3 ∨ i = 4 ∨ i = 5 ∨ i = 6 ∨ i = 7 ∨ i = 8 ∨ i = 9 ∨ i = 10 by omega) with rfl | rfl | rfl | rfl | rfl | rfl | rfl | rfl | rfl | rfl | rfl
        · simp at ho; subst ho
          have tt : sl a 2 = .pointer (some ⟨w.heap.size, 0, none⟩) := hi 2 (by decide)
          refine ⟨_, rfl, ?_⟩
          simp only [execOp, eval_tmp, tt]; simp [go_sem, Q2]
        · simp at ho; subst ho
          have tt : sl a 2 = .pointer (some ⟨w.heap.size, 0, none⟩) := hi 2 (by decide)
          refine ⟨_, rfl, ?_⟩
          simp only [execOp, eval_tmp, tt]; simp [go_sem, Q2]
        · simp at ho; subst ho
          have tt : sl a 73 = .pointer (some ⟨be, 0, none⟩) := hk 1 (by decide) (by decide) _ 73 rfl rfl
          refine ⟨_, rfl, ?_⟩
          simp only [execOp, eval_tmp, tt]; simp [go_sem]
        · simp at ho; subst ho
          have tt : sl a 74 = .pointer (some ⟨be, 0, none⟩) := hk 2 (by decide) (by decide) _ 74 rfl rfl
          refine ⟨_, rfl, ?_⟩
          simp only [execOp, eval_tmp, tt]; simp [go_sem]
        · exact absurd hpo (by decide)
        · exact absurd hpo (by decide)
        · simp at ho; subst ho
          have tt : sl a 6 = .pointer (some ⟨b6, 0, none⟩) := hi 6 (by decide)
          refine ⟨_, rfl, ?_⟩
          simp only [execOp, eval_tmp, tt]; simp [go_sem, G0, G1]
        · exact absurd hpo (by decide)
        · exact absurd rfl his
        · simp at ho; subst ho
          have tt : sl a 72 = .pointer (some ⟨be, 0, none⟩) := hk 0 (by decide) (by decide) _ 72 rfl rfl
          refine ⟨_, rfl, ?_⟩
          simp only [execOp, eval_tmp, tt]; simp [go_sem]
        · simp at ho; subst ho
          have tt : sl a 81 = .pointer (some ⟨be, 0, none⟩) := hk 9 (by decide) (by decide) _ 81 rfl rfl
          refine ⟨_, rfl, ?_⟩
          simp only [execOp, eval_tmp, tt]; simp [go_sem]
      · intro a W u o ho hP hs hd hu hlvs ht
        have ha := act_is [72, 73, 74, 75, 76, 77, 78, 79, 80, 81, 82] hs hd ht (by decide)
        simp at ho; subst ho
        have t82 : sl a 82 = .pointer (some ⟨be, 2, none⟩) := hlvs 10 (by decide) (by decide) _ 82 rfl rfl
        obtain ⟨hRw, hPb, -, -, hCW, hbk⟩ := hP
        obtain ⟨F0, F1, F2⟩ := cells3 hPb
        have z2 := frozen_of_row _ _ 2 _ _ hPb
        obtain ⟨uq, uc, rfl⟩ := hRw.shape
        refine wp_skip_none rfl (w' := W.setCell ⟨be, 2, none⟩ (.slice uq (n + 1) uc)) ?_ ?_
        · simp only [execOp, eval_tmp, t82, hu]; simp [go_sem, F2, z2]
        simp only [List.foldl, t82, hu] at ha
        generalize sl a 72 = u72 at ha
        generalize sl a 73 = u73 at ha
        generalize sl a 74 = u74 at ha
        generalize sl a 75 = u75 at ha
        generalize sl a 76 = u76 at ha
        generalize sl a 77 = u77 at ha
        generalize sl a 78 = u78 at ha
        generalize sl a 79 = u79 at ha
        generalize sl a 81 = u81 at ha
        simp only [Act.put, List.setIfInBounds_toArray, List.set_cons_zero, List.set_cons_succ] at ha
        rw [ha]; clear ha
        have hne2 := hRw.ne_box hPb (by decide)
        have NX : Hid (Elm (W.setCell ⟨be, 2, none⟩ (.slice uq (n + 1) uc)) base be k t (.slice uq (n + 1) uc) (n + 1) (putF K x) ∧ Chg w (W.setCell ⟨be, 2, none⟩ (.slice uq (n + 1) uc)) be (.slice q n c)) :=
          ⟨⟨hss hPb, hRw.set hPb (by decide) hne2 (grownBy_setCell W be 2 _), hbe⟩, hCW.box 2 _⟩
        have HBK := Lib.hid hbk
        clear hRw hPb hCW hbk F0 F1 F2 z2 ht hlvs
        go_wp2
        go_ret2
        exact ⟨rfl, _, NX.out.1, NX.out.2, HBK.out⟩
end Go.Proofs.Ytofhdakggapahaa
namespace Go.Proofs.Ytofhdakggapahaa
open Go.RowKit Go.By
def unitS (n i : Int) : List UInt8 × Int := if n < 0 ∨ 65536 < n ∨ i < 0 ∨ n ≤ i then ([], 2) else ((List.replicate n.toNat 0).set i.toNat 1, 0)
theorem unitS_bad {n i : Int} (h : n < 0 ∨ 65536 < n ∨ i < 0 ∨ n ≤ i) : unitS n i = ([], 2) := if_pos h
theorem unitS_good {n i : Int} (h : ¬ (n < 0 ∨ 65536 < n ∨ i < 0 ∨ n ≤ i)) : unitS n i = ((List.replicate n.toNat 0).set i.toNat 1, 0) := if_neg h
set_option maxRecDepth 100000 in
set_option maxHeartbeats 1000000 in
theorem Unit_any (n i : Int) (w : World) : Calls Try.prog 77 #[.int .i64 n, .int .i64 i] w (RetB 5 w (unitS n i).1 (unitS n i).2) := by
  by_cases h : n < 0 ∨ 65536 < n ∨ i < 0 ∨ n ≤ i
  · have HR := Lib.hid (unitS_bad h)
    by_cases a1 : n < 0
    · clear h
      go_enter Try.func77, Try.ntmps77
      go_wp2
      go_ret2
      rw [HR.out]
      exact RetB.nil _ _ _ _ (Below.refl _ _)
    · by_cases a2 : 65536 < n
      · clear h
        go_enter Try.func77, Try.ntmps77
        go_wp2
        go_ret2
        rw [HR.out]
        exact RetB.nil _ _ _ _ (Below.refl _ _)
      · by_cases a3 : i < 0
        · clear h
          go_enter Try.func77, Try.ntmps77
          go_wp2
          go_ret2
          rw [HR.out]
          exact RetB.nil _ _ _ _ (Below.refl _ _)
        · have a4 : n ≤ i := by omega
          clear h
          go_enter Try.func77, Try.ntmps77
          go_wp2
          go_ret2
          rw [HR.out]
          exact RetB.nil _ _ _ _ (Below.refl _ _)
  · have HR := Lib.hid (unitS_good h)
    obtain ⟨i0, hi, hz0, hz1, hz2⟩ := info_parts info_u8
    obtain ⟨m, rfl⟩ := Int.eq_ofNat_of_zero_le (show 0 ≤ n by omega)
    obtain ⟨k, rfl⟩ := Int.eq_ofNat_of_zero_le (show 0 ≤ i by omega)
    have hk : k < m := by omega
    have hm : m ≤ 65536 := by omega
    have m1 := Lib.hid (show m ≤ maxLen by unfold maxLen; omega); have m2 := Lib.hid (show 1 * m ≤ 281474976710656 by omega)
    have q1 : ¬ ((m : Int) < 0) := by omega
    have q2 : ¬ ((65536 : Int) < (m : Int)) := by omega
    have q3 : ¬ ((k : Int) < 0) := by omega
    have q4 : ¬ ((m : Int) ≤ (k : Int)) := by omega
    have q5 : (k : Int) < (m : Int) := by omega
    clear h
    go_enter Try.func77, Try.ntmps77
    go_wp2_with (at_make; refine wpList_make_full _ rfl _ _ 59 rfl w.heap.size 5 i0 (.int .u8 0) 1 Try.underlying59 hi hz0 hz1 .i64 .i64 _ _ m rfl rfl rfl rfl (by rw [hz2]; exact m2.out) m1.out (Nat.le_refl _) ?_)
    intro w1 ho hg
    have ho' : w1.ownsRow w.heap.size 5 1 (.slice (some ⟨w.heap.size, 0, none⟩) m m) m ((List.replicate m (0 : UInt8)).map B8) := by
      have e : (madeCells #[Value.int .u8 0] m).toList = (List.replicate m (0 : UInt8)).map B8 := by
        rw [List.map_replicate]; exact toList_madeCells_one _ _
      rw [← e]; exact ho
    have hcs : w1.cell? ⟨w.heap.size, k, none⟩ = some (B8 0) := by
      rw [ho'.cellAt k (by omega)]; simp [hk]
    have hfs : w1.frozen? ⟨w.heap.size, k, none⟩ = false := ho'.frozenAt k
    have HO := Lib.hid ho'; clear ho ho'
    have hw1 : Below w.heap.size w w1 := (Below.refl _ _).grown hg (Nat.le_refl _) (by simp)
    clear hg
    go_wp2
    go_ret2
    rw [HR.out]
    have st := HO.out.stored k (B8 1)
    rw [← List.map_set] at st
    exact ⟨_, m, m, by simp [Hid], rfl, by rw [Int.toNat_natCast, Int.toNat_natCast]; exact st.1, hw1.setCell (p := ⟨w.heap.size, k, none⟩) (Nat.le_refl _) _⟩
end Go.Proofs.Ytofhdakggapahaa
namespace Go.By
open Go.RowKit
theorem RwL.rwS {T2 T1 base n c : Nat} {w : World} {q : Option Addr} {K : List (List UInt8 × List UInt8)} (h : RwL T2 T1 w base (.slice q n c) n K) : RwS w q n c K := by
  have hl := h.len
  have hs : n ≤ c ∧ c ≤ maxLen ∧ (q = none → n = 0 ∧ c = 0) := by
    obtain ⟨vs, a, b, o, r⟩ := h
    rcases o.2 with ⟨hv, hn⟩ | ⟨g, cap, cur, hv, _, _, h1, h2, _⟩
    · simp at hv; exact ⟨by omega, by unfold maxLen; omega, fun _ => ⟨by omega, by omega⟩⟩
    · simp at hv; exact ⟨by omega, by omega, fun e => by rw [hv.1] at e; cases e⟩
  refine ⟨hl, hs.1, hs.2.1, hs.2.2, fun j k hj => ?_⟩
  have hjn : j < n := by rw [← hl]; exact (List.getElem?_eq_some_iff.1 hj).1
  obtain ⟨g, k', q1, m1, c1, q2, m2, c2, e, d1, d2, hk, s1, s2⟩ := h.at hjn
  have : k' = k := by have h := hk.out; rw [hj] at h; cases h; rfl
  subst this
  exact ⟨g, 0, q1, m1, c1, q2, m2, c2, e, by rw [Nat.zero_add]; exact d1, by rw [Nat.zero_add]; exact d2, s1, s2⟩
end Go.By
namespace Go.Proofs.Ytofhdakggapahaa
open Go.RowKit Go.By
theorem enters_tells : Enters Try.prog 78 := enters_of Try.func78 (by kernel_rfl) rfl
set_option maxHeartbeats 400000 in
theorem Tells_any (U : List UInt8) (pu : Option Addr) (nu cu b6 : Nat) (p1 p2 : Option Addr) (n1 c1 n2 c2 : Nat) (r : List UInt8) (w : World) (h1 : Sl B8 w p1 n1 c1 r) (hu : w.cell? ⟨b6, 0, none⟩ = some (.slice pu nu cu)) (hU : Sl B8 w pu nu cu U) :
    Calls Try.prog 78 (#[.agg #[.slice p1 n1 c1, .slice p2 n2 c2]] ++ #[.pointer (some ⟨b6, 0, none⟩)]) w fun e w' => e = .returned (.bool (decide (r = U))) ∧ Below w.heap.size w w' := by
  have HB : Hid (∀ o, Below w.heap.size w (w.alloc o)) := fun o => al (Below.refl _ _) (Nat.le_refl _)
  have H1 := Lib.hid h1; have HU := Lib.hid hU
  have c6 := ((HB.out (.cells #[.slice p1 n1 c1, .slice p2 n2 c2] 61)).cell (p := ⟨b6, 0, none⟩) (lt_of_cell hu)).trans hu
  clear h1 hU
  go_enter Try.func78, Try.ntmps78
  go_wp2_with fail
  refine Calls.mono (EqualV_d p1 pu n1 nu c1 cu r U _ (H1.out.keep (HB.out _)) (HU.out.keep (HB.out _))) ?_
  rintro e w' ⟨rfl, m, rfl⟩
  clear c6
  go_wp2
  go_ret
  exact ⟨rfl, (HB.out _).trans ((below_drewN _ m).mono (by simp))⟩
/-- what is known of a symbol -/
def knownS (k : Int) (K : List Rw) (i : Int) : List UInt8 × Bool :=
  if (unitS k i).2 ≠ 0 then ([], false) else match K.find? (fun r => decide (r.1 = (unitS k i).1)) with
    | some r => (r.2, true)
    | none => ([], false)
def RetK2 (w : World) (r : List UInt8 × Bool) (e : Ending) (w' : World) : Prop := ∃ q m c, e = .returned (.tuple #[.slice q m c, .bool r.2]) ∧ Sl B8 w' q m c r.1 ∧ Below w.heap.size w w'
theorem idx_find (f : Rw → Bool) (K : List Rw) : (idxf f K = -1 ∧ K.find? f = none) ∨ ∃ (j : Nat) (r : Rw), idxf f K = j ∧ K[j]? = some r ∧ K.find? f = some r := by
  unfold idxf
  cases h : K.findIdx? f with
  | none =>
    refine .inl ⟨rfl, ?_⟩
    rw [List.find?_eq_none]
    intro x hx
    have := List.findIdx?_eq_none_iff.1 h x hx
    simpa using this
  | some j =>
    obtain ⟨h1, h2, h3⟩ := List.findIdx?_eq_some_iff_getElem.1 h
    refine .inr ⟨j, K[j], rfl, List.getElem?_eq_getElem h1, ?_⟩
    rw [List.find?_eq_some_iff_getElem]
    exact ⟨h2, j, h1, rfl, fun i hi => by have := h3 i hi; simpa using this⟩
set_option maxRecDepth 100000 in
set_option maxHeartbeats 4000000 in
theorem Known_any (base be k t n : Nat) (v : Value) (K : List Rw) (i : Int) (w : World) (hE : Elm w base be k t v n K) (ht : ∀ r, r ∈ K → r.2.length ≤ 65535) :
    Calls Try.prog 42 #[.pointer (some ⟨be, 0, none⟩), .int .i64 i] w (RetK2 w (knownS k K i)) := by
  obtain ⟨q, c, rfl⟩ := hE.rows.shape
  have HE := Lib.hid hE; have HT := Lib.hid ht
  obtain ⟨f0, f1, f2⟩ := cells3 hE.box
  clear hE ht
  go_enter Try.func42, Try.ntmps42
  go_wp2_with fail
  refine Calls.mono (Unit_any k i w) ?_
  rintro e w1 ⟨qu, mu, cu, hlu, rfl, ou, hb⟩
  have B1 := Lib.hid hb; have U1 := Lib.hid (Sl.of_owns ou); have E1 := Lib.hid (HE.out.keep hb)
  clear f0 f1 f2 ou hb hlu
  by_cases hc : (unitS k i).2 = 0
  · have hk : Hid (knownS k K i = match K.find? (fun r => decide (r.1 = (unitS k i).1)) with | some r => (r.2, true) | none => ([], false)) := if_neg (by simp [hc])
    rw [hc]
    obtain ⟨f0, f1, f2⟩ := cells3 (hal (o := .cells #[.slice qu mu cu] 59) E1.out.box)
    go_wp2_with fail
    clear f0 f1 f2
    obtain ⟨b6, h6⟩ : ∃ b6, b6 = w1.heap.size := ⟨_, rfl⟩
    rw [← h6]
    refine use_w1 (fun W => Below w1.heap.size w1 W ∧ W.heap[b6]? = some (.cells #[.slice qu mu cu] 59 (0, 0))) ⟨al (Below.refl _ _) (Nat.le_refl _), hnew h6⟩ ?_
    rintro w2 ⟨b2, x2⟩
    have E2 := Lib.hid (E1.out.keep b2)
    have U2 := Lib.hid (U1.out.keep b2); have X2 := Lib.hid x2; have B2 := Lib.hid (bl B1.out b2 B1.out.size)
    clear b2 x2 E1 U1 B1 h6
    refine Calls.mono (IndexRow_any (fun r => decide (r.1 = (unitS k i).1)) 78 #[.pointer (some ⟨b6, 0, none⟩)] enters_tells q n c K w2 E2.out.rows.rwS (fun W q1 q2 m1 d1 m2 d2 x hb hx => Tells_any _ qu mu cu b6 q1 q2 m1 d1 m2 d2 x.1 W hx (cell_of_row _ _ 0 _ _ _ ((hb.block _ (blk_lt X2.out)).trans X2.out)) (U2.out.keep hb))) ?_
    rintro e w3 ⟨rfl, hb⟩
    have E3 := Lib.hid (E2.out.keep hb); have B3 := Lib.hid (bl B2.out hb B2.out.size)
    clear hb E2 U2 X2 B2
    rcases idx_find (fun r => decide (r.1 = (unitS k i).1)) K with ⟨e1, e2⟩ | ⟨j, r, e1, e2, e3⟩
    · rw [e1]
      have hr : Hid (knownS k K i = ([], false)) := by show _ = _; rw [hk.out, e2]
      clear e1 e2 hk hc
      go_wp2
      go_ret2
      rw [hr.out]
      exact ⟨none, 0, 0, rfl, Sl.nil0 _ _, B3.out⟩
    · rw [e1]
      have hr : Hid (knownS k K i = (r.2, true)) := by show _ = _; rw [hk.out, e3]
      have hjn : j < n := by rw [← E3.out.rows.len]; exact (List.getElem?_eq_some_iff.1 e2).1
      obtain ⟨g, kk, a1, b1, d1, a2, b2, d2, rfl, d0, d1', hkk, t1, t2⟩ := E3.out.rows.at hjn
      have hkr : kk = r := by have h := hkk.out; rw [e2] at h; cases h; rfl
      subst hkr
      have T2 := Lib.hid t2
      have hj0 : ¬ ((j : Int) < 0) := by omega
      have jn : (j : Int) < (n : Int) := by omega
      obtain ⟨f0, f1, f2⟩ := cells3 E3.out.box
      have hlen : b2 ≤ 65535 := by rw [← t2.len]; exact HT.out kk (List.mem_of_getElem? e2)
      clear e1 e2 e3 hk hc t1 t2 hkk d0
      go_wp2_with fail
      refine Calls.mono (CloneB_any a2 b2 d2 kk.2 w3 T2.out (by unfold Room; omega)) ?_
      rintro e w4 ⟨q4, c4, rfl, o4, hb⟩
      have O4 := Lib.hid (Sl.of_owns o4); have B4 := Lib.hid (bl B3.out hb B3.out.size)
      clear o4 hb f0 f1 f2 d1'
      go_wp2
      go_ret2
      rw [hr.out]
      exact ⟨q4, b2, c4, rfl, O4.out, B4.out⟩
  · have hr : Hid (knownS k K i = ([], false)) := if_pos hc
    have hc2 : ((unitS k i).2 != 0) = true := by simpa using hc
    generalize (unitS k i).2 = code at hc2 ⊢
    clear hc
    go_wp2
    go_ret2
    rw [hr.out]
    exact ⟨none, 0, 0, rfl, Sl.nil0 _ _, al B1.out B1.out.size⟩
end Go.Proofs.Ytofhdakggapahaa
namespace Go.Proofs.Ytofhdakggapahaa
open Go.RowKit Go.By
theorem Same_q (p1 p2 : Option Addr) (n1 n2 c1 c2 : Nat) (xs ys : List UInt8) (w : World) (q : Nat) (h1 : Sl B8 w p1 n1 c1 xs) (h2 : Sl B8 w p2 n2 c2 ys) :
    Calls Try.prog 48 #[.slice p1 n1 c1, .slice p2 n2 c2] (w.drewN q) fun e w'' => e = .returned (.bool (decide (xs = ys))) ∧ ∃ m, w'' = w.drewN m :=
  Calls.quiet_of (Same_d p1 p2 n1 n2 c1 c2 xs ys (w.drewN q) (dr h1 q) (dr h2 q))
set_option maxRecDepth 100000 in
set_option maxHeartbeats 1000000 in
theorem Same7_any (p1 p2 : Option Addr) (n1 n2 c1 c2 : Nat) (xss yss : List (List UInt8)) (w : World) (h1 : Sl2 w p1 n1 c1 xss) (h2 : Sl2 w p2 n2 c2 yss) :
    Calls Try.prog 16 #[.slice p1 n1 c1, .slice p2 n2 c2] w fun e w' => e = .returned (.bool (decide (xss = yss))) ∧ Below w.heap.size w w' := by
  have b1 := h1.bound; have b2 := h2.bound
  by_cases he : n1 = n2
  · obtain rfl := he
    have H1 := Lib.hid h1; have H2 := Lib.hid h2; clear h1 h2
    go_enter Try.func16, Try.ntmps16
    go_wp2
    go_loopw [13] (fun i wr => ∃ k q : Nat, k ≤ n1 ∧ i = .int .i64 k ∧ wr = w.drewN q ∧ Hid (∀ j : Nat, j < k → xss[j]? = yss[j]?)) (fun i _ => n1 - (intOf i).toNat)
    case atStart => exact ⟨0, 0, Nat.zero_le _, rfl, rfl, fun j hj => by omega⟩
    case round =>
      obtain ⟨k, q, hk, rfl, rfl, hj⟩ := hrel
      by_cases hlt : k < n1
      · obtain ⟨b, o, q1, m1, k1, x, rfl, hc, hs1, hx⟩ := H1.out.at k hlt
        obtain ⟨b', o', q2, m2, k2, y, rfl, hc', hs2, hy⟩ := H2.out.at k hlt
        have HS1 := Lib.hid hs1; have HS2 := Lib.hid hs2
        have i1 : (k : Int) < (n1 : Int) := by omega
        have CS : Hid (∀ q', Calls Try.prog 48 #[.slice q1 m1 k1, .slice q2 m2 k2] (w.drewN (q + q')) fun e w'' => e = .returned (.bool (decide (x = y))) ∧ ∃ m, w'' = w.drewN (q + m)) := fun q' => by
          have := Same_q _ _ _ _ _ _ x y (w.drewN q) q' (dr HS1.out q) (dr HS2.out q)
          simpa only [World.drewN_drewN] using this
        clear hs1 hs2
        by_cases hxy : x = y
        · rw [decide_eq_true hxy] at CS
          have HX := Lib.hid hxy; clear hxy
          go_wp2
          go_quiet ((go_at_call 48; exact CS.out _))
          go_wp2
          go_roundw
          case rel => exact ⟨k + 1, _, by omega, by go_num, rfl, fun j hj' => by
            by_cases e : j = k
            · subst e; rw [hx.out, hy.out, HX.out]
            · exact hj.out j (by omega)⟩
          case measure => simp [intOf]; omega
        · rw [decide_eq_false hxy] at CS
          have HX := Lib.hid hxy; clear hxy
          go_wp2
          go_quiet ((go_at_call 48; exact CS.out _))
          go_wp2
          go_ret
          refine ⟨?_, bdn (below_drewN _ _)⟩
          have : ¬ xss = yss := by rintro rfl; exact HX.out (Option.some.inj (hx.out.symm.trans hy.out))
          simp [this]
      · go_wp2
        go_ret
        refine ⟨?_, below_drewN _ _⟩
        have : xss = yss := by
          apply List.ext_getElem?
          intro j
          by_cases hjk : j < k
          · exact hj.out j hjk
          · rw [List.getElem?_eq_none (by have := H1.out.len; omega), List.getElem?_eq_none (by have := H2.out.len; omega)]
        simp [this]
  · have hne : ((n1 : Int) != (n2 : Int)) = true := by simp; omega
    have HN : Hid (decide (xss = yss) = false) := by
      simp only [Hid, decide_eq_false_iff_not]; rintro rfl; exact he (h1.len.symm.trans h2.len)
    clear h1 h2
    go_enter Try.func16, Try.ntmps16
    go_wp2
    go_ret
    exact ⟨by rw [HN.out]; rfl, Below.refl _ _⟩
end Go.Proofs.Ytofhdakggapahaa
namespace Go.Proofs.Ytofhdakggapahaa
open Go.RowKit Go.By
theorem use_w {P : Program} {f : FuncId} {args : Array Value} {W : World} {Q : Ending → World → Prop} (I : World → Prop) (h : I W) (k : ∀ W', I W' → Calls P f args W' Q) : Calls P f args W Q := k W h
set_option maxRecDepth 100000 in
set_option maxHeartbeats 2000000 in
theorem awake07 (w : World) : Calls Try.prog 9 #[] w fun e w' => e = .returned (.bool true) ∧ Below w.heap.size w w' := by
  have R1 : (kF 2 [1, 2, 2, 4] 2).length = 1 := by decide +kernel
  have R2 : (kF 2 [1, 2, 2, 5] 2).length = 2 := by decide +kernel
  have O1 : Hid (∀ W q c, Sl2 W q 2 c [[1, 2], [2, 4]] → Calls Try.prog 11 #[.int .i64 2, .slice q 2 c] W (RetG2 5 W 2 2 [1, 2, 2, 4] 0)) := fun W q c h => GOf_good 2 q 2 c [[1, 2], [2, 4]] W h (by omega) (by omega) (by omega) (by decide)
  have O2 : Hid (∀ W q c, Sl2 W q 2 c [[1, 2], [2, 5]] → Calls Try.prog 11 #[.int .i64 2, .slice q 2 c] W (RetG2 5 W 2 2 [1, 2, 2, 5] 0)) := fun W q c h => GOf_good 2 q 2 c [[1, 2], [2, 5]] W h (by omega) (by omega) (by omega) (by decide)
  have K1 : Hid (∀ W q c, Sl B8 W q 4 c [1, 2, 2, 4] → Calls Try.prog 20 #[.agg #[.int .i64 2, .int .i64 2, .slice q 4 c]] W fun e w' => e = .returned (.int .i64 1) ∧ Below W.heap.size W w') := fun W q c h => by
    have := Rank_any 2 2 q 4 c [1, 2, 2, 4] W h rfl (by unfold Room; omega) (by omega)
    rw [R1] at this; exact this
  have K2 : Hid (∀ W q c, Sl B8 W q 4 c [1, 2, 2, 5] → Calls Try.prog 20 #[.agg #[.int .i64 2, .int .i64 2, .slice q 4 c]] W fun e w' => e = .returned (.int .i64 2) ∧ Below W.heap.size W w') := fun W q c h => by
    have := Rank_any 2 2 q 4 c [1, 2, 2, 5] W h rfl (by unfold Room; omega) (by omega)
    rw [R2] at this; exact this
  clear R1 R2
  go_enter Try.func9, Try.ntmps9
  go_wp2_with fail
  refine use_w (fun W => Sl2 W (some ⟨w.heap.size + 1 + 1, 0, none⟩) 2 2 [[1, 2], [2, 4]] ∧ Below w.heap.size w W) ⟨sl2_pair (hnew (by simp)) (sl_block [1, 2] 2 (hal (hal (hnew rfl))) rfl rfl (by simp [maxLen])) (sl_block [2, 4] 2 (hal (hnew (by simp))) rfl rfl (by simp [maxLen])), al (al (al (Below.refl _ _) (Nat.le_refl _)) (by simp)) (by simp; omega)⟩ ?_
  rintro W1 ⟨s1, b1⟩
  refine Calls.mono (O1.out _ _ _ s1) ?_
  rintro e w2 ⟨q1, n1, c1, rfl, rfl, o1, hb1⟩
  have S1 := Lib.hid (Sl.of_owns o1)
  have B1 := Lib.hid (bl b1 hb1 b1.size)
  clear s1 b1 o1 hb1 O1
  go_wp2_with fail
  refine use_w (fun W => Sl2 W (some ⟨w2.heap.size + 1 + 1 + 1, 0, none⟩) 2 2 [[1, 2], [2, 5]] ∧ Below w2.heap.size w2 W ∧ W.heap[w2.heap.size]? = some (.cells #[.int .i64 2, .int .i64 2, .slice q1 4 c1] 27 (0, 0))) ⟨sl2_pair (hnew (by simp)) (sl_block [1, 2] 2 (hal (hal (hnew (by simp)))) rfl rfl (by simp [maxLen])) (sl_block [2, 5] 2 (hal (hnew (by simp))) rfl rfl (by simp [maxLen])), al (al (al (al (Below.refl _ _) (Nat.le_refl _)) (by simp)) (by simp; omega)) (by simp; omega), hal (hal (hal (hnew rfl)))⟩ ?_
  rintro W3 ⟨s2, b2, x2⟩
  refine Calls.mono (O2.out _ _ _ s2) ?_
  rintro e w4 ⟨q2, n2, c2, rfl, rfl, o2, hb2⟩
  have S2 := Lib.hid (Sl.of_owns o2)
  have b24 := bl b2 hb2 b2.size
  have S1' := Lib.hid (S1.out.keep b24)
  have X4 : Hid (w4.heap[w2.heap.size]? = some (.cells #[.int .i64 2, .int .i64 2, .slice q1 4 c1] 27 (0, 0))) := (hb2.block _ (blk_lt x2)).trans x2
  have B4 := Lib.hid (bl B1.out b24 B1.out.size)
  clear s2 b2 o2 hb2 O2 x2 S1 B1 b24
  obtain ⟨f0, f1, f2⟩ := cells3 (hal (o := .cells #[.int .i64 2, .int .i64 2, .slice q2 4 c2] 27) X4.out)
  have bal : ∀ (W : World) (o : Obj), Below W.heap.size W (W.alloc o) := fun W o => al (Below.refl _ _) (Nat.le_refl _)
  have HBAL := Lib.hid bal
  clear bal
  go_wp2_with fail
  refine use_w (fun W => Below w4.heap.size w4 W ∧ W.heap[w4.heap.size]? = some (.cells #[.int .i64 2, .int .i64 2, .slice q2 4 c2] 27 (0, 0))) ⟨HBAL.out _ _, hnew rfl⟩ ?_
  rintro W5 ⟨b5, x5⟩
  refine Calls.mono (K1.out _ _ _ (S1'.out.keep b5)) ?_
  rintro e w6 ⟨rfl, hb6⟩
  have S2' := Lib.hid (S2.out.keep (bl b5 hb6 b5.size))
  have X6 := (hb6.block _ (blk_lt x5)).trans x5
  have B6 := Lib.hid (bl B4.out (bl b5 hb6 b5.size) B4.out.size)
  clear f0 f1 f2 S1' S2 X4 B4 b5 x5 hb6 K1 HBAL
  obtain ⟨f0, f1, f2⟩ := cells3 X6
  clear X6
  go_wp2_with fail
  refine Calls.mono (K2.out _ _ _ S2'.out) ?_
  rintro e w7 ⟨rfl, hb7⟩
  have B7 := Lib.hid (bl B6.out hb7 B6.out.size)
  clear f0 f1 f2 S2' B6 hb7 K2
  go_wp2
  go_ret
  exact ⟨rfl, B7.out⟩
end Go.Proofs.Ytofhdakggapahaa
namespace Go.Proofs.Ytofhdakggapahaa
open Go.RowKit Go.By
theorem chg_old {w w' : World} {be base B n : Nat} {v : Value} {K : List Rw} (h : Chg w w' be v) (hr : RwL 61 5 w base v n K) (h1 : B ≤ base) (h2 : B ≤ be) (h3 : B ≤ w.heap.size) : Below B w w' :=
  ⟨h.os, h.tape, h.output, h.size, fun b hb => h.block b (by omega) (by omega) (fun e => by have := (hr.lt b e).1; omega)⟩
set_option maxHeartbeats 1000000 in
theorem RestNil_any (p1 p2 : Option Addr) (n1 c1 n2 c2 : Nat) (w : World) : Calls Try.prog 33 #[.pointer none, .agg #[.slice p1 n1 c1, .slice p2 n2 c2]] w fun e w' => e = .returned (.tuple #[.agg #[.slice none 0 0, .slice none 0 0], .int .i64 1]) ∧ Below w.heap.size w w' := by
  have hinfo := info_row
  have HX : Hid (∀ o1, ((w.alloc o1).alloc (.cells #[.slice none 0 0, .slice none 0 0] 61)).heap[w.heap.size + 1]? = some (.cells #[.slice none 0 0, .slice none 0 0] 61 (0, 0))) := fun o1 => hnew (by simp)
  have HB : Hid (∀ o1 o2, Below w.heap.size w ((w.alloc o1).alloc o2)) := fun o1 o2 => al (al (Below.refl _ _) (Nat.le_refl _)) (by simp)
  go_enter Try.func33, Try.ntmps33
  go_wp2
  refine bodyPost_ret (results_cell_tmp rfl _ _ _ 61 #[.slice none 0 0, .slice none 0 0] (0, 0) _ (.int .i64 1) rfl (HX.out _) rfl Try.underlying61 rfl hinfo) rfl ⟨rfl, HB.out _ _⟩
theorem PutNil_any (p1 p2 : Option Addr) (n1 c1 n2 c2 : Nat) (w : World) : Calls Try.prog 35 #[.pointer none, .agg #[.slice p1 n1 c1, .slice p2 n2 c2]] w fun e w' => e = .returned (.tuple #[.int .i64 0, .int .i64 1]) ∧ Below w.heap.size w w' := by
  have HB : Hid (∀ o1 o2, Below w.heap.size w ((w.alloc o1).alloc o2)) := fun o1 o2 => al (al (Below.refl _ _) (Nat.le_refl _)) (by simp)
  go_enter Try.func35, Try.ntmps35
  go_wp2_with fail
  refine Calls.mono (RestNil_any p1 p2 n1 c1 n2 c2 _) ?_
  rintro e w' ⟨rfl, hb⟩
  have B1 : Hid (Below w.heap.size w w') := bl (HB.out _ _) hb (by simp; omega)
  clear hb
  go_wp2
  go_ret2
  exact ⟨rfl, al B1.out B1.out.size⟩
theorem KnownNil_any (i : Int) (w : World) : Calls Try.prog 42 #[.pointer none, .int .i64 i] w fun e w' => e = .returned (.tuple #[.slice none 0 0, .bool false]) ∧ w = w' := by
  go_enter Try.func42, Try.ntmps42
  go_wp2
  go_ret2
  exact ⟨rfl, rfl⟩
theorem SolveNil_any (w : World) : Calls Try.prog 49 #[.pointer none] w fun e w' => e = .returned (.tuple #[.slice none 0 0, .int .i64 1]) ∧ w = w' := by
  go_enter Try.func49, Try.ntmps49
  go_wp2
  go_ret2
  exact ⟨rfl, rfl⟩
theorem SizeNil_any (w : World) : Calls Try.prog 31 #[.pointer none] w fun e w' => e = .returned (.tuple #[.int .i64 0, .int .i64 0]) ∧ w = w' := by
  go_enter Try.func31, Try.ntmps31
  go_wp2
  go_ret2
  exact ⟨rfl, rfl⟩
theorem RankNil_any (w : World) : Calls Try.prog 44 #[.pointer none] w fun e w' => e = .returned (.int .i64 0) ∧ w = w' := by
  go_enter Try.func44, Try.ntmps44
  go_wp2
  go_ret
  exact ⟨rfl, rfl⟩
theorem RowsNil_any (w : World) : Calls Try.prog 46 #[.pointer none] w fun e w' => e = .returned (.slice none 0 0) ∧ w = w' := by
  go_enter Try.func46, Try.ntmps46
  go_wp2
  go_ret
  exact ⟨rfl, rfl⟩
theorem CloneNil_any (w : World) : Calls Try.prog 32 #[.pointer none] w fun e w' => e = .returned (.pointer none) ∧ w = w' := by
  go_enter Try.func32, Try.ntmps32
  go_wp2
  go_ret
  exact ⟨rfl, rfl⟩
def xA : Rw := ([1, 1], [3])
def xB : Rw := ([0, 1], [2])
def kA : List Rw := [([1, 1], [3])]
def kB : List Rw := [([1, 0], [1]), ([0, 1], [2])]
set_option maxRecDepth 100000 in
set_option maxHeartbeats 4000000 in
theorem awake08 (w : World) : Calls Try.prog 28 #[] w fun e w' => e = .returned (.bool true) ∧ Below w.heap.size w w' := by
  have eA : putF [] xA = kA := by decide +kernel
  have eB : putF kA xB = kB := by decide +kernel
  have nA : ¬ leadS (restF [] xA).1 < 0 := by decide +kernel
  have nB : ¬ leadS (restF kA xB).1 < 0 := by decide +kernel
  have gA : knownS (2 : Int) kB 0 = ([1], true) := by decide +kernel
  have gB : knownS (2 : Int) kB 1 = ([2], true) := by decide +kernel
  have rA : Red 2 1 kA := by rw [← eA]; exact (putF_red (Red.nil 2 1) ⟨rfl, rfl⟩ nA).1
  have HP1 : Hid (∀ (base be : Nat) (v : Value) (p1 p2 : Option Addr) (c1 c2 : Nat) (W : World), Elm W base be 2 1 v 0 [] → Sl B8 W p1 2 c1 [1, 1] → Sl B8 W p2 1 c2 [3] → Calls Try.prog 35 #[.pointer (some ⟨be, 0, none⟩), .agg #[.slice p1 2 c1, .slice p2 1 c2]] W fun e w' => e = .returned (.tuple #[.int .i64 0, .int .i64 0]) ∧ ∃ v', Elm w' base be 2 1 v' 1 kA ∧ Chg W w' be v) := fun base be v p1 p2 c1 c2 W hE h1 h2 => by
    refine (EPut_grown base be 2 1 0 v [] p1 p2 c1 c2 xA W hE h1 h2 (Red.nil 2 1) (by decide) (by decide) nA (by decide)).mono ?_
    rintro e w' ⟨rfl, v', h3, h4, -⟩
    rw [eA] at h3
    exact ⟨rfl, v', h3, h4⟩
  have HP2 : Hid (∀ (base be : Nat) (v : Value) (p1 p2 : Option Addr) (c1 c2 : Nat) (W : World), Elm W base be 2 1 v 1 kA → Sl B8 W p1 2 c1 [0, 1] → Sl B8 W p2 1 c2 [2] → Calls Try.prog 35 #[.pointer (some ⟨be, 0, none⟩), .agg #[.slice p1 2 c1, .slice p2 1 c2]] W fun e w' => e = .returned (.tuple #[.int .i64 0, .int .i64 0]) ∧ ∃ v', Elm w' base be 2 1 v' 2 kB ∧ Chg W w' be v) := fun base be v p1 p2 c1 c2 W hE h1 h2 => by
    refine (EPut_grown base be 2 1 1 v kA p1 p2 c1 c2 xB W hE h1 h2 rA (by decide) (by decide) nB (by decide)).mono ?_
    rintro e w' ⟨rfl, v', h3, h4, -⟩
    rw [eB] at h3
    exact ⟨rfl, v', h3, h4⟩
  have HK : Hid (∀ (base be : Nat) (v : Value) (W : World), Elm W base be 2 1 v 2 kB → (Calls Try.prog 42 #[.pointer (some ⟨be, 0, none⟩), .int .i64 0] W (RetK2 W ([1], true))) ∧ Calls Try.prog 42 #[.pointer (some ⟨be, 0, none⟩), .int .i64 1] W (RetK2 W ([2], true))) := fun base be v W hE => by
    have ht : ∀ r, r ∈ kB → r.2.length ≤ 65535 := by decide
    have h1 := Known_any base be 2 1 2 v kB 0 W hE ht
    have h2 := Known_any base be 2 1 2 v kB 1 W hE ht
    rw [show ((2 : Nat) : Int) = 2 from rfl] at h1 h2
    rw [gA] at h1; rw [gB] at h2
    exact ⟨h1, h2⟩
  clear eA eB nA nB gA gB rA
  go_enter Try.func28, Try.ntmps28
  go_wp2_with fail
  refine Calls.mono (New_good 2 1 w (by decide) (by decide) (by decide)) ?_
  rintro e w1 ⟨be, rfl, hE, hb⟩
  have E1 := Lib.hid hE; have B1 := Lib.hid hb
  clear hE hb
  go_wp2_with fail
  refine use_w (fun W => Below w1.heap.size w1 W ∧ Sl B8 W (some ⟨w1.heap.size, 0, none⟩) 2 2 [1, 1] ∧ Sl B8 W (some ⟨w1.heap.size + 1, 0, none⟩) 1 1 [3]) ⟨al (al (Below.refl _ _) (Nat.le_refl _)) (by simp), sl_block [1, 1] 2 (hal (hnew rfl)) rfl rfl (by simp [maxLen]), sl_block [3] 1 (hnew (by simp)) rfl rfl (by simp [maxLen])⟩ ?_
  rintro w2 ⟨b2, s1, s2⟩
  refine Calls.mono (Of_any _ _ _ _ _ _ _ _ w2 s1 s2 (by unfold Room; omega) (by unfold Room; omega)) ?_
  rintro e w3 ⟨q1, m1, c1, q2, m2, c2, l1, l2, rfl, o1, o2, hb⟩
  obtain rfl : m1 = 2 := l1.out.symm
  obtain rfl : m2 = 1 := l2.out.symm
  have b13 := bl b2 hb b2.size
  have E3 := E1.out.keep b13
  have B3 := Lib.hid (bl B1.out b13 B1.out.size)
  clear b2 s1 s2
  go_wp2_with fail
  refine Calls.mono (HP1.out _ _ _ _ _ _ _ w3 E3 (Sl.of_owns o1) (Sl.of_owns o2)) ?_
  rintro e w4 ⟨rfl, v4, hE4, hC⟩
  have E4 := Lib.hid hE4
  have B4 := Lib.hid (B3.out.trans (chg_old hC E3.rows (Nat.le_refl _) E3.old B3.out.size))
  clear hE4 hC E3 b13 hb o1 o2 E1 B1 B3 l1 l2
  go_wp2_with fail
  refine use_w (fun W => Below w4.heap.size w4 W ∧ Sl B8 W (some ⟨w4.heap.size, 0, none⟩) 2 2 [0, 1] ∧ Sl B8 W (some ⟨w4.heap.size + 1, 0, none⟩) 1 1 [2]) ⟨al (al (Below.refl _ _) (Nat.le_refl _)) (by simp), sl_block [0, 1] 2 (hal (hnew rfl)) rfl rfl (by simp [maxLen]), sl_block [2] 1 (hnew (by simp)) rfl rfl (by simp [maxLen])⟩ ?_
  rintro w5 ⟨b5, s1, s2⟩
  refine Calls.mono (Of_any _ _ _ _ _ _ _ _ w5 s1 s2 (by unfold Room; omega) (by unfold Room; omega)) ?_
  rintro e w6 ⟨q1, m1, c1, q2, m2, c2, l1, l2, rfl, o1, o2, hb⟩
  obtain rfl : m1 = 2 := l1.out.symm
  obtain rfl : m2 = 1 := l2.out.symm
  have b46 := bl b5 hb b5.size
  have E6 := E4.out.keep b46
  have B6 := Lib.hid (bl B4.out b46 B4.out.size)
  clear b5 s1 s2
  go_wp2_with fail
  refine Calls.mono (HP2.out _ _ _ _ _ _ _ w6 E6 (Sl.of_owns o1) (Sl.of_owns o2)) ?_
  rintro e w7 ⟨rfl, v7, hE7, hC⟩
  have E7 := Lib.hid hE7
  have B7 := Lib.hid (B6.out.trans (chg_old hC E6.rows (Nat.le_refl _) E6.old B6.out.size))
  clear hE7 hC E6 b46 hb o1 o2 E4 B4 B6 l1 l2 HP1 HP2
  go_wp2_with fail
  refine Calls.mono (HK.out _ _ _ _ E7.out).1 ?_
  rintro e w8 ⟨q8, m8, c8, rfl, s8, hb⟩
  have E8 := Lib.hid (E7.out.keep hb); have B8' := Lib.hid (bl B7.out hb B7.out.size); have S8 := Lib.hid s8
  clear hb s8 E7 B7
  go_wp2_with fail
  refine Calls.mono (HK.out _ _ _ _ E8.out).2 ?_
  rintro e w9 ⟨q9, m9, c9, rfl, s9, hb⟩
  have S89 := Lib.hid (S8.out.keep hb); have B9 := Lib.hid (bl B8'.out hb B8'.out.size); have S9 := Lib.hid s9
  clear hb s9 E8 B8' S8 HK
  go_wp2_with fail
  refine use_w (fun W => Below w9.heap.size w9 W ∧ Sl B8 W (some ⟨w9.heap.size, 0, none⟩) 1 1 [1]) ⟨al (Below.refl _ _) (Nat.le_refl _), sl_block [1] 1 (hnew rfl) rfl rfl (by simp [maxLen])⟩ ?_
  rintro wa ⟨ba, s1⟩
  refine Calls.mono (Same_any q8 _ m8 _ c8 _ [1] [1] wa (S89.out.keep ba) s1) ?_
  rintro e wb ⟨rfl, hb⟩
  have bab := bl ba hb ba.size
  have S9b := Lib.hid (S9.out.keep bab); have Bb := Lib.hid (bl B9.out bab B9.out.size)
  rw [decide_eq_true rfl]
  clear ba s1 hb bab S89 B9 S9
  go_wp2_with fail
  refine use_w (fun W => Below wb.heap.size wb W ∧ Sl B8 W (some ⟨wb.heap.size, 0, none⟩) 1 1 [2]) ⟨al (Below.refl _ _) (Nat.le_refl _), sl_block [2] 1 (hnew rfl) rfl rfl (by simp [maxLen])⟩ ?_
  rintro wc ⟨ba, s1⟩
  refine Calls.mono (Same_any q9 _ m9 _ c9 _ [2] [2] wc (S9b.out.keep ba) s1) ?_
  rintro e wd ⟨rfl, hb⟩
  have Bd := Lib.hid (bl Bb.out (bl ba hb ba.size) Bb.out.size)
  rw [decide_eq_true rfl]
  clear ba s1 hb S9b Bb
  go_wp2
  go_ret
  exact ⟨rfl, Bd.out⟩
set_option maxRecDepth 100000 in
set_option maxHeartbeats 4000000 in
theorem ElimNone_any (w : World) : Calls Try.prog 7 #[] w fun e w' => e = .returned (.bool true) ∧ Below w.heap.size w w' := by
  go_enter Try.func7, Try.ntmps7
  go_wp2_with fail
  refine Calls.mono (PutNil_any _ _ _ _ _ _ _) ?_
  rintro e w1 ⟨rfl, hb⟩
  have B1 := Lib.hid hb
  clear hb
  go_wp2_with fail
  refine Calls.mono (RestNil_any _ _ _ _ _ _ _) ?_
  rintro e w2 ⟨rfl, hb⟩
  have B2 := Lib.hid (bl B1.out hb B1.out.size)
  clear hb B1
  go_wp2_with fail
  refine use_w (fun W => Below w.heap.size w W) (al B2.out B2.out.size) ?_
  intro w3 b3
  have B3 := Lib.hid b3
  clear b3 B2
  refine Calls.mono (KnownNil_any _ _) ?_
  rintro e w' ⟨rfl, rfl⟩
  go_wp2_with fail
  refine Calls.mono (SolveNil_any _) ?_
  rintro e w' ⟨rfl, rfl⟩
  go_wp2_with fail
  refine Calls.mono (SizeNil_any _) ?_
  rintro e w' ⟨rfl, rfl⟩
  go_wp2_with fail
  refine Calls.mono (awake08 _) ?_
  rintro e w4 ⟨rfl, hb⟩
  have B4 := Lib.hid (bl B3.out hb B3.out.size)
  clear hb B3
  go_wp2_with fail
  refine Calls.mono (RankNil_any _) ?_
  rintro e w' ⟨rfl, rfl⟩
  go_wp2_with fail
  refine Calls.mono (RowsNil_any _) ?_
  rintro e w' ⟨rfl, rfl⟩
  go_wp2_with fail
  refine Calls.mono (CloneNil_any _) ?_
  rintro e w' ⟨rfl, rfl⟩
  go_wp2
  go_ret
  exact ⟨rfl, B4.out⟩
end Go.Proofs.Ytofhdakggapahaa
namespace Go.Proofs.Ytofhdakggapahaa
open Go.RowKit Go.By
set_option maxRecDepth 100000 in
set_option maxHeartbeats 4000000 in
theorem ERest_size1 (base be k t n n1 n2 : Nat) (v : Value) (K : List Rw) (p1 p2 : Option Addr) (c1 c2 : Nat) (w : World) (hE : Elm w base be k t v n K) (h1 : n1 ≠ k) :
    Calls Try.prog 33 #[.pointer (some ⟨be, 0, none⟩), .agg #[.slice p1 n1 c1, .slice p2 n2 c2]] w fun e w' => e = .returned (.tuple #[.agg #[.slice none 0 0, .slice none 0 0], .int .i64 4]) ∧ Below w.heap.size w w' := by
  have hinfo := info_row
  obtain ⟨q, c, rfl⟩ := hE.rows.shape
  have HE := Lib.hid hE
  have hd : ((n1 : Int) != (k : Int)) = true := by simp; omega
  have hd2 : ¬ n1 = k := h1
  clear hE
  go_enter Try.func33, Try.ntmps33
  go_wp2
  have b0 : Below w.heap.size w ((w.alloc (.cells #[.slice p1 n1 c1, .slice p2 n2 c2] 61)).alloc (.cells #[.slice none 0 0, .slice none 0 0] 61)) := al (al (Below.refl _ _) (Nat.le_refl _)) (by simp)
  have x0 : ((w.alloc (.cells #[.slice p1 n1 c1, .slice p2 n2 c2] 61)).alloc (.cells #[.slice none 0 0, .slice none 0 0] 61)).heap[w.heap.size]? = some (.cells #[.slice p1 n1 c1, .slice p2 n2 c2] 61 (0, 0)) := hal (hnew rfl)
  have z0 : ((w.alloc (.cells #[.slice p1 n1 c1, .slice p2 n2 c2] 61)).alloc (.cells #[.slice none 0 0, .slice none 0 0] 61)).heap[w.heap.size + 1]? = some (.cells #[.slice none 0 0, .slice none 0 0] 61 (0, 0)) := hnew (by simp)
  generalize (w.alloc (.cells #[.slice p1 n1 c1, .slice p2 n2 c2] 61)).alloc (.cells #[.slice none 0 0, .slice none 0 0] 61) = w2 at b0 x0 z0 ⊢
  have B2 := Lib.hid b0; have X2 := Lib.hid x0; have Z2 := Lib.hid z0
  clear b0 x0 z0
  have E2 := Lib.hid (HE.out.keep B2.out)
  obtain ⟨f0, f1, f2⟩ := cells3 E2.out.box
  obtain ⟨y0, y1⟩ := cells2 X2.out
  refine wp_region_shapes (fun ix => ([.val (.pointer (some ⟨w.heap.size, 0, none⟩)), .val (.slice p1 n1 c1), .val (.int .i64 (n1 : Nat)), .val (.pointer (some ⟨be, 0, none⟩)), .val (.pointer (some ⟨be, 0, none⟩)), .val (.pointer (some ⟨be, 0, none⟩)), .val (.int .i64 k), .val (.bool true), .val (.bool true), .val (undef), .val (undef), .val (undef), .val (undef), .val (undef), .val (undef), .val (undef), .val (undef), .val (.bool true)][ix]?).getD (.any)) 60 rfl (by kernel_rfl) (by decide) (by decide) (by decide) ?_ ?_
  · refine ⟨?_, ?_, ?_, ?_, ?_, ?_, ?_, ?_, ?_, ?_, ?_, ?_, ?_, ?_, ?_, ?_, ?_, ?_, trivial⟩
    · intro a W hb0 hs hp hi; have hb := undrew hb0; clear hb0
      have t3 : sl a 3 = .pointer (some ⟨w.heap.size, 0, none⟩) := hi 3 (by decide)
      refine ite_y rfl (wp_val (.pointer (some ⟨w.heap.size, 0, none⟩)) ?_ ?_)
      · simp only [execOp, eval_tmp, eval_const, t3]; simp [go_sem]
      · exact ⟨_, rfl, Below.refl _ _, rfl⟩
    · intro a W hb0 hs hp hi; have hb := undrew hb0; clear hb0
      have tt : sl a 13 = .pointer (some ⟨w.heap.size, 0, none⟩) := hp 0 (by decide)
      have dd := (hb.cell (p := ⟨w.heap.size, 0, none⟩) (lt_of_cell y0)).trans y0
      refine ite_y rfl (wp_val (.slice p1 n1 c1) ?_ ?_)
      · simp only [execOp, eval_tmp, tt]; simp [go_sem, dd]
      · exact ⟨_, rfl, Below.refl _ _, rfl⟩
    · intro a W hb0 hs hp hi; have hb := undrew hb0; clear hb0
      have t14 : sl a 14 = .slice p1 n1 c1 := hp 1 (by decide)
      refine ite_y rfl (wp_val (.int .i64 (n1 : Nat)) ?_ ?_)
      · simp only [execOp, resolve, List.map_toArray, List.map, eval_tmp, eval_func, eval_const, t14]; simp [go_sem]
      · exact ⟨_, rfl, Below.refl _ _, rfl⟩
    · intro a W hb0 hs hp hi; have hb := undrew hb0; clear hb0
      have t0 : sl a 0 = .pointer (some ⟨be, 0, none⟩) := hi 0 (by decide)
      exact ite_y rfl (wp_val (sl a 0) rfl ⟨_, rfl, Below.refl _ _, t0⟩)
    · intro a W hb0 hs hp hi; have hb := undrew hb0; clear hb0
      have tt : sl a 16 = .pointer (some ⟨be, 0, none⟩) := hp 3 (by decide)
      refine ite_y rfl (wp_val (.pointer (some ⟨be, 0, none⟩)) ?_ ?_)
      · simp only [execOp, eval_tmp, tt]; simp [go_sem]
      · exact ⟨_, rfl, Below.refl _ _, rfl⟩
    · intro a W hb0 hs hp hi; have hb := undrew hb0; clear hb0
      have t17 : sl a 17 = .pointer (some ⟨be, 0, none⟩) := hp 4 (by decide)
      refine ite_y rfl (wp_val (.pointer (some ⟨be, 0, none⟩)) ?_ ?_)
      · simp only [execOp, eval_tmp, eval_const, t17]; simp [go_sem]
      · exact ⟨_, rfl, Below.refl _ _, rfl⟩
    · intro a W hb0 hs hp hi; have hb := undrew hb0; clear hb0
      have tt : sl a 18 = .pointer (some ⟨be, 0, none⟩) := hp 5 (by decide)
      have dd := (hb.cell (p := ⟨be, 0, none⟩) (lt_of_cell f0)).trans f0
      refine ite_y rfl (wp_val (.int .i64 k) ?_ ?_)
      · simp only [execOp, eval_tmp, tt]; simp [go_sem, dd]
      · exact ⟨_, rfl, Below.refl _ _, rfl⟩
    · intro a W hb0 hs hp hi; have hb := undrew hb0; clear hb0
      have t15 : sl a 15 = .int .i64 (n1 : Nat) := hp 2 (by decide)
      have t19 : sl a 19 = .int .i64 k := hp 6 (by decide)
      refine ite_y rfl (wp_val (.bool true) ?_ ?_)
      · simp only [execOp, eval_tmp, eval_const, t15, t19]; simp [go_sem, hd, hd2]
      · exact ⟨_, rfl, Below.refl _ _, rfl⟩
    · intro a W hb0 hs hp hi; have hb := undrew hb0; clear hb0
      have t20 : sl a 20 = .bool true := hp 7 (by decide)
      exact ite_y rfl (wp_val (sl a 20) rfl ⟨_, rfl, Below.refl _ _, t20⟩)
    · intro a W hb0 hs hp hi; have hb := undrew hb0; clear hb0
      have tg : sl a 21 = .bool true := hp 8 (by decide)
      exact ite_n (wanted_no rfl rfl (by have hz : a.tmps.size = 60 := hs; rw [hz]; decide) tg (by decide)) rfl
    · intro a W hb0 hs hp hi; have hb := undrew hb0; clear hb0
      have tg : sl a 21 = .bool true := hp 8 (by decide)
      exact ite_n (wanted_no rfl rfl (by have hz : a.tmps.size = 60 := hs; rw [hz]; decide) tg (by decide)) rfl
    · intro a W hb0 hs hp hi; have hb := undrew hb0; clear hb0
      have tg : sl a 21 = .bool true := hp 8 (by decide)
      exact ite_n (wanted_no rfl rfl (by have hz : a.tmps.size = 60 := hs; rw [hz]; decide) tg (by decide)) rfl
    · intro a W hb0 hs hp hi; have hb := undrew hb0; clear hb0
      have tg : sl a 21 = .bool true := hp 8 (by decide)
      exact ite_n (wanted_no rfl rfl (by have hz : a.tmps.size = 60 := hs; rw [hz]; decide) tg (by decide)) rfl
    · intro a W hb0 hs hp hi; have hb := undrew hb0; clear hb0
      have tg : sl a 21 = .bool true := hp 8 (by decide)
      exact ite_n (wanted_no rfl rfl (by have hz : a.tmps.size = 60 := hs; rw [hz]; decide) tg (by decide)) rfl
    · intro a W hb0 hs hp hi; have hb := undrew hb0; clear hb0
      have tg : sl a 21 = .bool true := hp 8 (by decide)
      exact ite_n (wanted_no rfl rfl (by have hz : a.tmps.size = 60 := hs; rw [hz]; decide) tg (by decide)) rfl
    · intro a W hb0 hs hp hi; have hb := undrew hb0; clear hb0
      have tg : sl a 21 = .bool true := hp 8 (by decide)
      exact ite_n (wanted_no rfl rfl (by have hz : a.tmps.size = 60 := hs; rw [hz]; decide) tg (by decide)) rfl
    · intro a W hb0 hs hp hi; have hb := undrew hb0; clear hb0
      have tg : sl a 21 = .bool true := hp 8 (by decide)
      exact ite_n (wanted_no rfl rfl (by have hz : a.tmps.size = 60 := hs; rw [hz]; decide) tg (by decide)) rfl
    · intro a W hb0 hs hp hi; have hb := undrew hb0; clear hb0
      have t21 : sl a 21 = .bool true := hp 8 (by decide)
      have t29 : sl a 29 = undef := hp 16 (by decide)
      refine ite_y rfl (wp_val (.bool true) ?_ ?_)
      · simp only [execOp, eval_tmp, eval_const, t21, t29]; simp [go_sem]
      · exact ⟨_, rfl, Below.refl _ _, rfl⟩
  intro a w3 hb hs hd hI ht
  have ha := act_is [13, 14, 15, 16, 17, 18, 19, 20, 21, 22, 23, 24, 25, 26, 27, 28, 29, 30] hs hd ht (by decide)
  have t30 : sl a 30 = .bool true := hI 17 (by decide)
  simp only [List.foldl, t30] at ha
  generalize sl a 13 = u13 at ha
  generalize sl a 14 = u14 at ha
  generalize sl a 15 = u15 at ha
  generalize sl a 16 = u16 at ha
  generalize sl a 17 = u17 at ha
  generalize sl a 18 = u18 at ha
  generalize sl a 19 = u19 at ha
  generalize sl a 20 = u20 at ha
  generalize sl a 21 = u21 at ha
  generalize sl a 22 = u22 at ha
  generalize sl a 23 = u23 at ha
  generalize sl a 24 = u24 at ha
  generalize sl a 25 = u25 at ha
  generalize sl a 26 = u26 at ha
  generalize sl a 27 = u27 at ha
  generalize sl a 28 = u28 at ha
  generalize sl a 29 = u29 at ha
  simp only [Act.put, List.setIfInBounds_toArray, List.set_cons_zero, List.set_cons_succ] at ha
  rw [ha]
  clear ha hI ht
  have B3 := Lib.hid (bl B2.out hb B2.out.size)
  have Z3 := Lib.hid ((hb.block _ (blk_lt Z2.out)).trans Z2.out)
  clear hb B2 X2 Z2 E2 f0 f1 f2 y0 y1
  obtain ⟨f0, f1⟩ := cells2 Z3.out
  have z0 := frozen_of_row _ _ 0 _ _ Z3.out
  have z1 := frozen_of_row _ _ 1 _ _ Z3.out
  go_wp2
  refine bodyPost_ret (results_cell_tmp rfl _ _ _ 61 #[.slice none 0 0, .slice none 0 0] (0, 0) _ (.int .i64 4) rfl (hss (hss Z3.out)) rfl Try.underlying61 rfl hinfo) rfl ⟨rfl, (B3.out.setCell (by simp) _).setCell (by simp) _⟩
set_option maxRecDepth 100000 in
set_option maxHeartbeats 4000000 in
theorem ERest_size2 (base be k t n n2 : Nat) (v : Value) (K : List Rw) (p1 p2 : Option Addr) (c1 c2 : Nat) (w : World) (hE : Elm w base be k t v n K) (h2 : n2 ≠ t) :
    Calls Try.prog 33 #[.pointer (some ⟨be, 0, none⟩), .agg #[.slice p1 k c1, .slice p2 n2 c2]] w fun e w' => e = .returned (.tuple #[.agg #[.slice none 0 0, .slice none 0 0], .int .i64 4]) ∧ Below w.heap.size w w' := by
  have hinfo := info_row
  obtain ⟨q, c, rfl⟩ := hE.rows.shape
  have HE := Lib.hid hE
  have hd : ((n2 : Int) != (t : Int)) = true := by simp; omega
  have hd2 : ¬ n2 = t := h2
  clear hE
  go_enter Try.func33, Try.ntmps33
  go_wp2
  have b0 : Below w.heap.size w ((w.alloc (.cells #[.slice p1 k c1, .slice p2 n2 c2] 61)).alloc (.cells #[.slice none 0 0, .slice none 0 0] 61)) := al (al (Below.refl _ _) (Nat.le_refl _)) (by simp)
  have x0 : ((w.alloc (.cells #[.slice p1 k c1, .slice p2 n2 c2] 61)).alloc (.cells #[.slice none 0 0, .slice none 0 0] 61)).heap[w.heap.size]? = some (.cells #[.slice p1 k c1, .slice p2 n2 c2] 61 (0, 0)) := hal (hnew rfl)
  have z0 : ((w.alloc (.cells #[.slice p1 k c1, .slice p2 n2 c2] 61)).alloc (.cells #[.slice none 0 0, .slice none 0 0] 61)).heap[w.heap.size + 1]? = some (.cells #[.slice none 0 0, .slice none 0 0] 61 (0, 0)) := hnew (by simp)
  generalize (w.alloc (.cells #[.slice p1 k c1, .slice p2 n2 c2] 61)).alloc (.cells #[.slice none 0 0, .slice none 0 0] 61) = w2 at b0 x0 z0 ⊢
  have B2 := Lib.hid b0; have X2 := Lib.hid x0; have Z2 := Lib.hid z0
  clear b0 x0 z0
  have E2 := Lib.hid (HE.out.keep B2.out)
  obtain ⟨f0, f1, f2⟩ := cells3 E2.out.box
  obtain ⟨y0, y1⟩ := cells2 X2.out
  refine wp_region_shapes (fun ix => ([.val (.pointer (some ⟨w.heap.size, 0, none⟩)), .val (.slice p1 k c1), .val (.int .i64 (k : Nat)), .val (.pointer (some ⟨be, 0, none⟩)), .val (.pointer (some ⟨be, 0, none⟩)), .val (.pointer (some ⟨be, 0, none⟩)), .val (.int .i64 k), .val (.bool false), .val (.bool false), .val (.pointer (some ⟨w.heap.size, 1, none⟩)), .val (.slice p2 n2 c2), .val (.int .i64 (n2 : Nat)), .val (.pointer (some ⟨be, 0, none⟩)), .val (.pointer (some ⟨be, 0, none⟩)), .val (.pointer (some ⟨be, 1, none⟩)), .val (.int .i64 t), .val (.bool true), .val (.bool true)][ix]?).getD (.any)) 60 rfl (by kernel_rfl) (by decide) (by decide) (by decide) ?_ ?_
  · refine ⟨?_, ?_, ?_, ?_, ?_, ?_, ?_, ?_, ?_, ?_, ?_, ?_, ?_, ?_, ?_, ?_, ?_, ?_, trivial⟩
    · intro a W hb0 hs hp hi; have hb := undrew hb0; clear hb0
      have t3 : sl a 3 = .pointer (some ⟨w.heap.size, 0, none⟩) := hi 3 (by decide)
      refine ite_y rfl (wp_val (.pointer (some ⟨w.heap.size, 0, none⟩)) ?_ ?_)
      · simp only [execOp, eval_tmp, eval_const, t3]; simp [go_sem]
      · exact ⟨_, rfl, Below.refl _ _, rfl⟩
    · intro a W hb0 hs hp hi; have hb := undrew hb0; clear hb0
      have tt : sl a 13 = .pointer (some ⟨w.heap.size, 0, none⟩) := hp 0 (by decide)
      have dd := (hb.cell (p := ⟨w.heap.size, 0, none⟩) (lt_of_cell y0)).trans y0
      refine ite_y rfl (wp_val (.slice p1 k c1) ?_ ?_)
      · simp only [execOp, eval_tmp, tt]; simp [go_sem, dd]
      · exact ⟨_, rfl, Below.refl _ _, rfl⟩
    · intro a W hb0 hs hp hi; have hb := undrew hb0; clear hb0
      have t14 : sl a 14 = .slice p1 k c1 := hp 1 (by decide)
      refine ite_y rfl (wp_val (.int .i64 (k : Nat)) ?_ ?_)
      · simp only [execOp, resolve, List.map_toArray, List.map, eval_tmp, eval_func, eval_const, t14]; simp [go_sem]
      · exact ⟨_, rfl, Below.refl _ _, rfl⟩
    · intro a W hb0 hs hp hi; have hb := undrew hb0; clear hb0
      have t0 : sl a 0 = .pointer (some ⟨be, 0, none⟩) := hi 0 (by decide)
      exact ite_y rfl (wp_val (sl a 0) rfl ⟨_, rfl, Below.refl _ _, t0⟩)
    · intro a W hb0 hs hp hi; have hb := undrew hb0; clear hb0
      have tt : sl a 16 = .pointer (some ⟨be, 0, none⟩) := hp 3 (by decide)
      refine ite_y rfl (wp_val (.pointer (some ⟨be, 0, none⟩)) ?_ ?_)
      · simp only [execOp, eval_tmp, tt]; simp [go_sem]
      · exact ⟨_, rfl, Below.refl _ _, rfl⟩
    · intro a W hb0 hs hp hi; have hb := undrew hb0; clear hb0
      have t17 : sl a 17 = .pointer (some ⟨be, 0, none⟩) := hp 4 (by decide)
      refine ite_y rfl (wp_val (.pointer (some ⟨be, 0, none⟩)) ?_ ?_)
      · simp only [execOp, eval_tmp, eval_const, t17]; simp [go_sem]
      · exact ⟨_, rfl, Below.refl _ _, rfl⟩
    · intro a W hb0 hs hp hi; have hb := undrew hb0; clear hb0
      have tt : sl a 18 = .pointer (some ⟨be, 0, none⟩) := hp 5 (by decide)
      have dd := (hb.cell (p := ⟨be, 0, none⟩) (lt_of_cell f0)).trans f0
      refine ite_y rfl (wp_val (.int .i64 k) ?_ ?_)
      · simp only [execOp, eval_tmp, tt]; simp [go_sem, dd]
      · exact ⟨_, rfl, Below.refl _ _, rfl⟩
    · intro a W hb0 hs hp hi; have hb := undrew hb0; clear hb0
      have t15 : sl a 15 = .int .i64 (k : Nat) := hp 2 (by decide)
      have t19 : sl a 19 = .int .i64 k := hp 6 (by decide)
      refine ite_y rfl (wp_val (.bool false) ?_ ?_)
      · simp only [execOp, eval_tmp, eval_const, t15, t19]; simp [go_sem]
      · exact ⟨_, rfl, Below.refl _ _, rfl⟩
    · intro a W hb0 hs hp hi; have hb := undrew hb0; clear hb0
      have t20 : sl a 20 = .bool false := hp 7 (by decide)
      exact ite_y rfl (wp_val (sl a 20) rfl ⟨_, rfl, Below.refl _ _, t20⟩)
    · intro a W hb0 hs hp hi; have hb := undrew hb0; clear hb0
      have tg : sl a 21 = .bool false := hp 8 (by decide)
      have t3 : sl a 3 = .pointer (some ⟨w.heap.size, 0, none⟩) := hi 3 (by decide)
      refine ite_y (wanted_yes rfl rfl (by have hz : a.tmps.size = 60 := hs; rw [hz]; decide) tg) (wp_val (.pointer (some ⟨w.heap.size, 1, none⟩)) ?_ ?_)
      · simp only [execOp, eval_tmp, eval_const, t3]; simp [go_sem]
      · exact ⟨_, rfl, Below.refl _ _, rfl⟩
    · intro a W hb0 hs hp hi; have hb := undrew hb0; clear hb0
      have tg : sl a 21 = .bool false := hp 8 (by decide)
      have tt : sl a 22 = .pointer (some ⟨w.heap.size, 1, none⟩) := hp 9 (by decide)
      have dd := (hb.cell (p := ⟨w.heap.size, 1, none⟩) (lt_of_cell y1)).trans y1
      refine ite_y (wanted_yes rfl rfl (by have hz : a.tmps.size = 60 := hs; rw [hz]; decide) tg) (wp_val (.slice p2 n2 c2) ?_ ?_)
      · simp only [execOp, eval_tmp, tt]; simp [go_sem, dd]
      · exact ⟨_, rfl, Below.refl _ _, rfl⟩
    · intro a W hb0 hs hp hi; have hb := undrew hb0; clear hb0
      have tg : sl a 21 = .bool false := hp 8 (by decide)
      have t23 : sl a 23 = .slice p2 n2 c2 := hp 10 (by decide)
      refine ite_y (wanted_yes rfl rfl (by have hz : a.tmps.size = 60 := hs; rw [hz]; decide) tg) (wp_val (.int .i64 (n2 : Nat)) ?_ ?_)
      · simp only [execOp, resolve, List.map_toArray, List.map, eval_tmp, eval_func, eval_const, t23]; simp [go_sem]
      · exact ⟨_, rfl, Below.refl _ _, rfl⟩
    · intro a W hb0 hs hp hi; have hb := undrew hb0; clear hb0
      have tg : sl a 21 = .bool false := hp 8 (by decide)
      have t0 : sl a 0 = .pointer (some ⟨be, 0, none⟩) := hi 0 (by decide)
      exact ite_y (wanted_yes rfl rfl (by have hz : a.tmps.size = 60 := hs; rw [hz]; decide) tg) (wp_val (sl a 0) rfl ⟨_, rfl, Below.refl _ _, t0⟩)
    · intro a W hb0 hs hp hi; have hb := undrew hb0; clear hb0
      have tg : sl a 21 = .bool false := hp 8 (by decide)
      have tt : sl a 25 = .pointer (some ⟨be, 0, none⟩) := hp 12 (by decide)
      refine ite_y (wanted_yes rfl rfl (by have hz : a.tmps.size = 60 := hs; rw [hz]; decide) tg) (wp_val (.pointer (some ⟨be, 0, none⟩)) ?_ ?_)
      · simp only [execOp, eval_tmp, tt]; simp [go_sem]
      · exact ⟨_, rfl, Below.refl _ _, rfl⟩
    · intro a W hb0 hs hp hi; have hb := undrew hb0; clear hb0
      have tg : sl a 21 = .bool false := hp 8 (by decide)
      have t26 : sl a 26 = .pointer (some ⟨be, 0, none⟩) := hp 13 (by decide)
      refine ite_y (wanted_yes rfl rfl (by have hz : a.tmps.size = 60 := hs; rw [hz]; decide) tg) (wp_val (.pointer (some ⟨be, 1, none⟩)) ?_ ?_)
      · simp only [execOp, eval_tmp, eval_const, t26]; simp [go_sem]
      · exact ⟨_, rfl, Below.refl _ _, rfl⟩
    · intro a W hb0 hs hp hi; have hb := undrew hb0; clear hb0
      have tg : sl a 21 = .bool false := hp 8 (by decide)
      have tt : sl a 27 = .pointer (some ⟨be, 1, none⟩) := hp 14 (by decide)
      have dd := (hb.cell (p := ⟨be, 1, none⟩) (lt_of_cell f1)).trans f1
      refine ite_y (wanted_yes rfl rfl (by have hz : a.tmps.size = 60 := hs; rw [hz]; decide) tg) (wp_val (.int .i64 t) ?_ ?_)
      · simp only [execOp, eval_tmp, tt]; simp [go_sem, dd]
      · exact ⟨_, rfl, Below.refl _ _, rfl⟩
    · intro a W hb0 hs hp hi; have hb := undrew hb0; clear hb0
      have tg : sl a 21 = .bool false := hp 8 (by decide)
      have t24 : sl a 24 = .int .i64 (n2 : Nat) := hp 11 (by decide)
      have t28 : sl a 28 = .int .i64 t := hp 15 (by decide)
      refine ite_y (wanted_yes rfl rfl (by have hz : a.tmps.size = 60 := hs; rw [hz]; decide) tg) (wp_val (.bool true) ?_ ?_)
      · simp only [execOp, eval_tmp, eval_const, t24, t28]; simp [go_sem, hd, hd2]
      · exact ⟨_, rfl, Below.refl _ _, rfl⟩
    · intro a W hb0 hs hp hi; have hb := undrew hb0; clear hb0
      have t21 : sl a 21 = .bool false := hp 8 (by decide)
      have t29 : sl a 29 = .bool true := hp 16 (by decide)
      refine ite_y rfl (wp_val (.bool true) ?_ ?_)
      · simp only [execOp, eval_tmp, eval_const, t21, t29]; simp [go_sem]
      · exact ⟨_, rfl, Below.refl _ _, rfl⟩
  intro a w3 hb hs hd hI ht
  have ha := act_is [13, 14, 15, 16, 17, 18, 19, 20, 21, 22, 23, 24, 25, 26, 27, 28, 29, 30] hs hd ht (by decide)
  have t30 : sl a 30 = .bool true := hI 17 (by decide)
  simp only [List.foldl, t30] at ha
  generalize sl a 13 = u13 at ha
  generalize sl a 14 = u14 at ha
  generalize sl a 15 = u15 at ha
  generalize sl a 16 = u16 at ha
  generalize sl a 17 = u17 at ha
  generalize sl a 18 = u18 at ha
  generalize sl a 19 = u19 at ha
  generalize sl a 20 = u20 at ha
  generalize sl a 21 = u21 at ha
  generalize sl a 22 = u22 at ha
  generalize sl a 23 = u23 at ha
  generalize sl a 24 = u24 at ha
  generalize sl a 25 = u25 at ha
  generalize sl a 26 = u26 at ha
  generalize sl a 27 = u27 at ha
  generalize sl a 28 = u28 at ha
  generalize sl a 29 = u29 at ha
  simp only [Act.put, List.setIfInBounds_toArray, List.set_cons_zero, List.set_cons_succ] at ha
  rw [ha]
  clear ha hI ht
  have B3 := Lib.hid (bl B2.out hb B2.out.size)
  have Z3 := Lib.hid ((hb.block _ (blk_lt Z2.out)).trans Z2.out)
  clear hb B2 X2 Z2 E2 f0 f1 f2 y0 y1
  obtain ⟨f0, f1⟩ := cells2 Z3.out
  have z0 := frozen_of_row _ _ 0 _ _ Z3.out
  have z1 := frozen_of_row _ _ 1 _ _ Z3.out
  go_wp2
  refine bodyPost_ret (results_cell_tmp rfl _ _ _ 61 #[.slice none 0 0, .slice none 0 0] (0, 0) _ (.int .i64 4) rfl (hss (hss Z3.out)) rfl Try.underlying61 rfl hinfo) rfl ⟨rfl, (B3.out.setCell (by simp) _).setCell (by simp) _⟩

theorem ERest_size (base be k t n n1 n2 : Nat) (v : Value) (K : List Rw) (p1 p2 : Option Addr) (c1 c2 : Nat) (w : World) (hE : Elm w base be k t v n K) (h : n1 ≠ k ∨ n2 ≠ t) :
    Calls Try.prog 33 #[.pointer (some ⟨be, 0, none⟩), .agg #[.slice p1 n1 c1, .slice p2 n2 c2]] w fun e w' => e = .returned (.tuple #[.agg #[.slice none 0 0, .slice none 0 0], .int .i64 4]) ∧ Below w.heap.size w w' := by
  by_cases h1 : n1 = k
  · subst h1
    exact ERest_size2 base be n1 t n n2 v K p1 p2 c1 c2 w hE (h.resolve_left (fun e => e rfl))
  · exact ERest_size1 base be k t n n1 n2 v K p1 p2 c1 c2 w hE h1
set_option maxRecDepth 100000 in
set_option maxHeartbeats 4000000 in
theorem EPut_size (base be k t n n1 n2 : Nat) (v : Value) (K : List Rw) (p1 p2 : Option Addr) (c1 c2 : Nat) (w : World) (hE : Elm w base be k t v n K) (h : n1 ≠ k ∨ n2 ≠ t) :
    Calls Try.prog 35 #[.pointer (some ⟨be, 0, none⟩), .agg #[.slice p1 n1 c1, .slice p2 n2 c2]] w fun e w' => e = .returned (.tuple #[.int .i64 0, .int .i64 4]) ∧ Below w.heap.size w w' := by
  have HB : Hid (∀ o1 o2, Below w.heap.size w ((w.alloc o1).alloc o2)) := fun o1 o2 => al (al (Below.refl _ _) (Nat.le_refl _)) (by simp)
  have HE := Lib.hid hE; have HH := Lib.hid h
  clear hE h
  go_enter Try.func35, Try.ntmps35
  go_wp2_with fail
  refine Calls.mono (ERest_size base be k t n n1 n2 v K p1 p2 c1 c2 _ (HE.out.keep (HB.out _ _)) HH.out) ?_
  rintro e w' ⟨rfl, hb⟩
  have B1 : Hid (Below w.heap.size w w') := bl (HB.out _ _) hb (by simp; omega)
  clear hb
  go_wp2
  go_ret2
  exact ⟨rfl, al B1.out B1.out.size⟩
theorem lead_zero {v : List UInt8} (h : leadS v < 0) : zeroS v = true := by
  unfold zeroS
  exact List.all_eq_true.2 fun x hx => by simpa using leadS_neg h x hx
set_option maxRecDepth 100000 in
set_option maxHeartbeats 4000000 in
theorem EPut_zero (base be k t n : Nat) (v : Value) (K : List Rw) (p1 p2 : Option Addr) (c1 c2 : Nat) (x : Rw) (w : World) (hE : Elm w base be k t v n K) (s1 : Sl B8 w p1 k c1 x.1) (s2 : Sl B8 w p2 t c2 x.2) (hK : ∀ r, r ∈ K → Fit k t r ∧ Led r) (hk : k ≤ 4096) (ht : t ≤ 65535) (hn : leadS (restF K x).1 < 0) :
    Calls Try.prog 35 #[.pointer (some ⟨be, 0, none⟩), .agg #[.slice p1 k c1, .slice p2 t c2]] w fun e w' => e = .returned (.tuple #[.int .i64 (if zeroS (restF K x).2 = true then 1 else 2), .int .i64 0]) ∧ Below w.heap.size w w' := by
  have HB : Hid (∀ o1 o2, Below w.heap.size w ((w.alloc o1).alloc o2)) := fun o1 o2 => al (al (Below.refl _ _) (Nat.le_refl _)) (by simp)
  have HZ : Hid (zeroS (restF K x).1 = true) := lead_zero hn
  have HE := Lib.hid hE; have S1 := Lib.hid s1; have S2 := Lib.hid s2; have HK := Lib.hid hK
  clear hE s1 s2 hK hn
  obtain ⟨u, hu⟩ : ∃ u : Int, u = if zeroS (restF K x).2 = true then 1 else 2 := ⟨_, rfl⟩
  rw [← hu]
  have HU := Lib.hid hu
  clear hu
  go_enter Try.func35, Try.ntmps35
  go_wp2_with fail
  refine Calls.mono (ERest_any base be k t n v K p1 p2 c1 c2 x _ (HE.out.keep (HB.out _ _)) (S1.out.keep (HB.out _ _)) (S2.out.keep (HB.out _ _)) HK.out hk ht) ?_
  rintro e w3 ⟨q1, m1, g1, q2, m2, g2, l1, l2, rfl, o1, o2, hb⟩
  have B3 : Hid (Below w.heap.size w w3) := bl (HB.out _ _) hb (by simp; omega)
  have L1 := Lib.hid (Sl.of_owns o1); have L2 := Lib.hid (Sl.of_owns o2)
  clear hb o1 o2 l1 l2 S1 S2 HE HB
  go_wp2_with fail
  refine use_w1 (fun W => Below w3.heap.size w3 W ∧ W.heap[w3.heap.size]? = some (.cells #[.slice q1 m1 g1, .slice q2 m2 g2] 61 (0, 0))) ⟨al (Below.refl _ _) (Nat.le_refl _), hnew rfl⟩ ?_
  rintro w4 ⟨b4, x4⟩
  refine Calls.mono (VZero_any q1 m1 g1 (restF K x).1 w4 (L1.out.keep b4)) ?_
  rintro e w' ⟨rfl, rfl⟩
  rw [HZ.out]
  have L24 := Lib.hid (L2.out.keep b4); have B4 := Lib.hid (bl B3.out b4 B3.out.size)
  obtain ⟨y0, y1⟩ := cells2 x4
  clear b4 x4
  go_wp2_with fail
  refine Calls.mono (VZero_any q2 m2 g2 (restF K x).2 w4 L24.out) ?_
  rintro e w' ⟨rfl, rfl⟩
  clear y0 y1
  cases hz : zeroS (restF K x).2 with
  | true =>
    go_wp2
    go_ret2
    have e1 := HU.out.trans (if_pos hz)
    exact ⟨by rw [e1]; rfl, B4.out⟩
  | false =>
    go_wp2
    go_ret2
    have e1 := HU.out.trans (if_neg (by rw [hz]; decide))
    exact ⟨by rw [e1]; rfl, B4.out⟩
end Go.Proofs.Ytofhdakggapahaa
namespace Go.By
open Go.RowKit
theorem RwV.of_owns {w : World} {base T n c : Nat} {q : Option Addr} {vs : List (Value × Value)} (h : w.ownsRow base T 2 (.slice q n c) n (fl2 vs)) (h1 : ∀ u, u ∈ fl2 vs → u.oneCell' = true) : RwV w q n c vs := by
  have hl : vs.length = n := by have := h.1; rw [fl2_length] at this; omega
  rcases h.2 with ⟨e1, e2⟩ | ⟨g, cap, cur, e1, _, _, h3, h4, _⟩
  · cases e1
    exact ⟨hl, Nat.le_of_eq e2, by simp [maxLen], fun _ => ⟨e2, rfl⟩, fun j u hj => (by have := (List.getElem?_eq_some_iff.1 hj).1; rw [fl2_length] at this; omega), h1⟩
  · cases e1
    refine ⟨hl, h3, h4, fun e => (by cases e), fun j u hj => ⟨g, 0, rfl, ?_⟩, h1⟩
    have := (List.getElem?_eq_some_iff.1 hj).1
    rw [fl2_length] at this
    rw [Nat.zero_add, h.cellAt _ (by omega)]; exact hj
end Go.By
namespace Go.Proofs.Ytofhdakggapahaa
open Go.RowKit Go.By
theorem RPut8_any (wd t : Nat) (pk : Option Addr) (nk ck : Nat) (D : List Rw) (p1 p2 : Option Addr) (n1 c1 n2 c2 : Nat) (x : Rw) (w : World) (hD : RwS w pk nk ck D) (s1 : Sl B8 w p1 n1 c1 x.1) (s2 : Sl B8 w p2 n2 c2 x.2)
    (hfit : ∀ r, r ∈ D → Fit wd t r) (hx : Fit wd t x) (hr1 : Room wd) (hr2 : Room t) (hnk : nk ≤ 4096) (hn : leadS (restF (redL (kD D)) x).1 < 0) :
    Calls Try.prog 39 #[.slice pk nk ck, .agg #[.slice p1 n1 c1, .slice p2 n2 c2]] w fun e w' => e = .returned (.tuple #[.slice pk nk ck, .int .i64 (if zeroS (restF (redL (kD D)) x).2 = true then 1 else 2)]) ∧ Below w.heap.size w w' := by
  have HZ : Hid (zeroS (restF (redL (kD D)) x).1 = true) := lead_zero hn
  have HRS := Lib.hid (fun W a b c => RRest8_any wd t pk nk ck D p1 p2 n1 c1 n2 c2 x W a b c hfit hx hr1 hr2 hnk)
  generalize restF (redL (kD D)) x = R at HZ HRS ⊢
  obtain ⟨u, hu⟩ : ∃ u : Int, u = if zeroS R.2 = true then 1 else 2 := ⟨_, rfl⟩
  rw [← hu]
  have HU := Lib.hid hu
  clear hu
  have HD := Lib.hid hD; have S1 := Lib.hid s1; have S2 := Lib.hid s2
  have HB0 : Hid (∀ o1, Below w.heap.size w (w.alloc o1)) := fun o1 => al (Below.refl _ _) (Nat.le_refl _)
  clear hD s1 s2 hfit hx hr1 hr2 hn
  go_enter Try.func39, Try.ntmps39
  go_wp2_with fail
  refine Calls.mono (HRS.out _ (HD.out.keep (HB0.out _)) (S1.out.keep (HB0.out _)) (S2.out.keep (HB0.out _))) ?_
  rintro e w1 ⟨q1, m1, g1, q2, m2, g2, rfl, sA, sB, hb1⟩
  have B1 : Hid (Below w.heap.size w w1) := bl (HB0.out _) hb1 (by simp)
  have SA := Lib.hid sA; have SB := Lib.hid sB
  clear sA sB hb1 HRS HD S1 S2 HB0
  go_wp2_with fail
  refine use_w1 (fun W => Below w1.heap.size w1 W ∧ W.heap[w1.heap.size]? = some (.cells #[.slice q1 m1 g1, .slice q2 m2 g2] 68 (0, 0))) ⟨al (Below.refl _ _) (Nat.le_refl _), hnew rfl⟩ ?_
  rintro w2 ⟨b2, x2⟩
  refine Calls.mono (RZero_any q1 m1 g1 R.1 w2 (SA.out.keep b2)) ?_
  rintro e w' ⟨rfl, rfl⟩
  rw [HZ.out]
  have B2 := Lib.hid (bl B1.out b2 B1.out.size); have X2 := Lib.hid x2; have SB2 := Lib.hid (SB.out.keep b2)
  clear b2 x2 SA SB B1 HZ
  obtain ⟨y0, y1⟩ := cells2 X2.out
  go_wp2_with fail
  refine Calls.mono (RZero_any q2 m2 g2 R.2 w2 SB2.out) ?_
  rintro e w' ⟨rfl, rfl⟩
  rcases Bool.eq_false_or_eq_true (zeroS R.2) with hz | hz
  · have HU2 : Hid (u = 1) := by show u = 1; rw [HU.out, hz]; rfl
    rw [hz]
    clear hz HU
    go_wp2
    go_ret2
    exact ⟨by rw [HU2.out]; rfl, B2.out⟩
  · have HU2 : Hid (u = 2) := by show u = 2; rw [HU.out, hz]; rfl
    rw [hz]
    clear hz HU
    go_wp2
    go_ret2
    exact ⟨by rw [HU2.out]; rfl, B2.out⟩
set_option maxHeartbeats 1000000 in
theorem RPut8_new (wd t : Nat) (pk : Option Addr) (nk ck : Nat) (D : List Rw) (p1 p2 : Option Addr) (n1 c1 n2 c2 : Nat) (x : Rw) (vs : List (Value × Value)) (w : World) (hD : RwS w pk nk ck D) (hV : RwV w pk nk ck vs) (s1 : Sl B8 w p1 n1 c1 x.1) (s2 : Sl B8 w p2 n2 c2 x.2)
    (hfit : ∀ r, r ∈ D → Fit wd t r) (hx : Fit wd t x) (hr1 : Room wd) (hr2 : Room t) (hnk : nk ≤ 4096) (hn : ¬ leadS (restF (redL (kD D)) x).1 < 0) :
    Calls Try.prog 39 #[.slice pk nk ck, .agg #[.slice p1 n1 c1, .slice p2 n2 c2]] w fun e w' => ∃ q c, e = .returned (.tuple #[.slice q (nk + 1) c, .int .i64 0]) ∧
      w'.ownsRow w.heap.size 68 2 (.slice q (nk + 1) c) (nk + 1) (fl2 (vs ++ [(.slice p1 n1 c1, .slice p2 n2 c2)])) ∧ Below w.heap.size w w' := by
  obtain ⟨r0, hr0, hrz, hr1', hr2'⟩ := info_parts info_rrow
  have HZ : Hid (zeroS (restF (redL (kD D)) x).1 = false) := zero_lead hn
  have HRS := Lib.hid (fun W a b c => RRest8_any wd t pk nk ck D p1 p2 n1 c1 n2 c2 x W a b c hfit hx hr1 hr2 hnk)
  generalize restF (redL (kD D)) x = R at HZ HRS ⊢
  have HD := Lib.hid hD; have S1 := Lib.hid s1; have S2 := Lib.hid s2; have HV := Lib.hid hV
  have HB0 : Hid (∀ o1, Below w.heap.size w (w.alloc o1)) := fun o1 => al (Below.refl _ _) (Nat.le_refl _)
  clear hD s1 s2 hfit hx hr1 hr2 hn hV
  go_enter Try.func39, Try.ntmps39
  go_wp2_with fail
  refine Calls.mono (HRS.out _ (HD.out.keep (HB0.out _)) (S1.out.keep (HB0.out _)) (S2.out.keep (HB0.out _))) ?_
  rintro e w1 ⟨q1, m1, g1, q2, m2, g2, rfl, sA, sB, hb1⟩
  have X1 : Hid (w1.heap[w.heap.size]? = some (.cells #[.slice p1 n1 c1, .slice p2 n2 c2] 68 (0, 0))) := (hb1.block _ (by simp)).trans (hnew rfl)
  have B1 : Hid (Below w.heap.size w w1) := bl (HB0.out _) hb1 (by simp)
  have SA := Lib.hid sA
  clear sA sB hb1 HRS HD S1 S2 HB0
  go_wp2_with fail
  refine use_w1 (fun W => Below w1.heap.size w1 W) (al (Below.refl _ _) (Nat.le_refl _)) ?_
  rintro w2 b2
  refine Calls.mono (RZero_any q1 m1 g1 R.1 w2 (SA.out.keep b2)) ?_
  rintro e w' ⟨rfl, rfl⟩
  rw [HZ.out]
  have B2 := Lib.hid (bl B1.out b2 B1.out.size); have X2 := Lib.hid ((b2.block _ (blk_lt X1.out)).trans X1.out)
  have HT := Lib.hid (HV.out.keep B2.out)
  clear b2 SA B1 HZ X1 HV
  go_wp2_with (at_builtin; refine wpList_append_two w2 rfl (.tmp 15) (.tmp 16) 55 rfl w2.heap.size 68 r0 _ 48 Try.underlying55 hr0 hrz hr1' hr2' rfl (.slice none 0 0) 0 [] rfl (World.ownsRow_nil _ _ _ _) pk nk ck vs rfl HT.out (by unfold maxLen; omega) (by omega) (Nat.le_refl _) ?_)
  intro v5 w5 ho5 hg5
  obtain ⟨qa, ca, rfl⟩ := owns_shape ho5
  try simp only [Nat.zero_add, List.nil_append] at ho5
  have BA : Hid (Below w2.heap.size w2 w5) := (Below.refl _ _).grown hg5 (Nat.le_refl _) (by simp [Value.ownBlock])
  have OA := Lib.hid ho5
  have X5 : Hid (w5.heap[w.heap.size]? = some (.cells #[.slice p1 n1 c1, .slice p2 n2 c2] 68 (0, 0))) := (BA.out.block _ (blk_lt X2.out)).trans X2.out
  obtain ⟨x0, x1⟩ := cells2 X5.out
  have OA2 : Hid (∀ o, (w5.alloc o).ownsRow w2.heap.size 68 2 (.slice qa nk ca) nk (fl2 vs)) := fun o => owns_keep OA.out (al (Below.refl _ _) (Nat.le_refl _))
  have sA := BA.out.size
  clear ho5 hg5
  try rw [Nat.zero_add]
  go_wp2_with (at_builtin; refine wpList_append_own _ rfl (.tmp 18) (.tmp 20) 55 rfl w2.heap.size 68 r0 _ 2 48 Try.underlying55 hr0 hrz hr1' hr2' rfl (by omega) _ nk (fl2 vs) rfl (OA2.out _) ⟨w5.heap.size, 0, none⟩ 1 1 [.slice p1 n1 c1, .slice p2 n2 c2] rfl rfl ?_ ?_ ?_ ?_ ?_ ?_)
  · intro j' y hj'
    rw [Addr.add_lit, Nat.zero_add, cell_of_row _ _ j' _ _ _ (hnew rfl)]
    match j' with
    | 0 => simpa using hj'
    | 1 => simpa using hj'
    | j' + 2 => simp at hj'
  · intro y hy; simp at hy; rcases hy with rfl | rfl <;> rfl
  · unfold maxLen; omega
  · omega
  · simp; omega
  intro v6 w6 ho6 hg6 _
  obtain ⟨qb, cb, rfl⟩ := owns_shape ho6
  have BB : Hid (Below w.heap.size w w6) := bl B2.out ((al BA.out sA).grown hg6 (by simp; omega) (fun kk hk => (OA.out.lt kk hk).1)) B2.out.size
  have OB : Hid (w6.ownsRow w.heap.size 68 2 (.slice qb (nk + 1) cb) (nk + 1) (fl2 (vs ++ [(.slice p1 n1 c1, .slice p2 n2 c2)]))) := by
    show World.ownsRow _ _ _ _ _ _ _
    rw [fl2_append]; exact owns_mono ho6 B2.out.size
  clear ho6 hg6 x0 x1 OA2
  go_wp2
  go_ret2
  exact ⟨qb, cb, rfl, OB.out, BB.out⟩
end Go.Proofs.Ytofhdakggapahaa
namespace Go.By
open Go.RowKit
/-- how many bytes are not 0 -/
def cntS (v : List UInt8) : Nat := v.countP (fun x => decide (x ≠ 0))
theorem cnt_take {v : List UInt8} {j : Nat} {b : UInt8} (h : v[j]? = some b) : cntS (v.take (j + 1)) = cntS (v.take j) + if b ≠ 0 then 1 else 0 := by
  unfold cntS
  rw [List.take_add_one, h, List.countP_append]
  show _ + List.countP _ [b] = _
  rw [List.countP_singleton]
  simp only [decide_eq_true_eq]
theorem cnt_le (v : List UInt8) (j : Nat) : cntS (v.take j) ≤ j := Nat.le_trans List.countP_le_length (by rw [List.length_take]; exact Nat.min_le_left _ _)
theorem cnt_one {v : List UInt8} {l : Nat} {a : UInt8} (h : v[l]? = some a) (ha : a ≠ 0) (hc : cntS v = 1) {j : Nat} {b : UInt8} (hj : v[j]? = some b) (hne : j ≠ l) : b = 0 := by
  obtain ⟨hl, e⟩ := List.getElem?_eq_some_iff.1 h
  have hv : v = v.take l ++ a :: v.drop (l + 1) := by rw [← e, List.getElem_cons_drop hl, List.take_append_drop]
  have h2 : List.countP (fun x : UInt8 => decide (x ≠ 0)) (v.take l) + (List.countP (fun x : UInt8 => decide (x ≠ 0)) (v.drop (l + 1)) + 1) = 1 := by
    have h3 := hc
    unfold cntS at h3
    rw [hv, List.countP_append, List.countP_cons, if_pos (by simpa using ha)] at h3
    exact h3
  have h0 : ∀ x, x ∈ v.take l ∨ x ∈ v.drop (l + 1) → x = 0 := fun x hx => by
    rcases hx with hx | hx
    · have := List.countP_eq_zero.1 (show List.countP (fun x : UInt8 => decide (x ≠ 0)) (v.take l) = 0 by omega) x hx
      simpa using this
    · have := List.countP_eq_zero.1 (show List.countP (fun x : UInt8 => decide (x ≠ 0)) (v.drop (l + 1)) = 0 by omega) x hx
      simpa using this
  refine h0 b ?_
  rcases Nat.lt_or_ge j l with g | g
  · exact .inl (List.mem_of_getElem? (i := j) (by rw [List.getElem?_take, if_pos g]; exact hj))
  · exact .inr (List.mem_of_getElem? (i := j - (l + 1)) (by rw [List.getElem?_drop, show l + 1 + (j - (l + 1)) = j by omega]; exact hj))
end Go.By
namespace Go.Proofs.Ytofhdakggapahaa
open Go.RowKit Go.By
theorem cnt_unit (n i : Nat) (hi : i < n) : cntS ((List.replicate n 0).set i 1) = 1 := by
  unfold cntS
  rw [List.set_eq_take_append_cons_drop, if_pos (by simpa using hi), List.countP_append, List.countP_cons]
  simp [List.countP_replicate]
theorem unit_iff {wd t : Nat} {r : Rw} {i : Nat} (hf : Fit wd t r) (hl : Led r) (hi : i < wd) : (cntS r.1 = 1 ∧ leadS r.1 = (i : Int)) ↔ r.1 = (List.replicate wd 0).set i 1 := by
  obtain ⟨l, e1, e2, e3⟩ := hl
  constructor
  · rintro ⟨hc, hle⟩
    obtain rfl : l = i := by rw [e1] at hle; omega
    apply List.ext_getElem?
    intro j
    by_cases hj : j < wd
    · obtain ⟨b, hb⟩ : ∃ b, r.1[j]? = some b := ⟨_, List.getElem?_eq_getElem (by rw [hf.1]; exact hj)⟩
      rw [List.getElem?_set]
      by_cases e : l = j
      · subst e; rw [if_pos rfl, if_pos (by simpa using hj)]; exact e2
      · rw [if_neg e, List.getElem?_replicate, if_pos hj, hb, cnt_one e2 (by decide) hc hb (fun h => e h.symm)]
    · rw [List.getElem?_eq_none (by rw [hf.1]; omega), List.getElem?_eq_none (by simp; omega)]
  · intro h
    refine ⟨by rw [h]; exact cnt_unit wd i hi, ?_⟩
    rw [e1]
    have h1 : r.1[i]? = some 1 := by rw [h, List.getElem?_set, if_pos rfl, if_pos (by simpa using hi)]
    have : ¬ i < l := fun hil => by have := e3 i 1 hil h1; exact absurd this (by decide)
    have : ¬ l < i := fun hli => by
      have h2 : r.1[l]? = some 0 := by rw [h, List.getElem?_set, if_neg (by omega), List.getElem?_replicate, if_pos (by omega)]
      rw [h2] at e2; cases e2
    omega
/-- is this the row that tells symbol i? -/
def mtS (i : Int) (r : Rw) : Bool := decide (cntS r.1 = 1) && decide (leadS r.1 = i)
theorem known_find {wd t : Nat} {K : List Rw} (hK : ∀ k, k ∈ K → Fit wd t k ∧ Led k) (hw : wd ≤ 65536) (i : Int) : knownS wd K i = match K.find? (mtS i) with
    | some r => (r.2, true)
    | none => ([], false) := by
  unfold knownS unitS
  by_cases hi : i < 0 ∨ (wd : Int) ≤ i
  · rw [if_pos (show (wd : Int) < 0 ∨ (65536 : Int) < (wd : Int) ∨ i < 0 ∨ (wd : Int) ≤ i by omega)]
    have : K.find? (mtS i) = none := List.find?_eq_none.2 fun r hr => by
      obtain ⟨hf, l, e1, -⟩ := hK r hr
      have hl : l < wd := by obtain ⟨-, l', hl'⟩ := hK r hr; have := hl'.lt hf; have e := hl'.1; rw [e1] at e; omega
      unfold mtS
      rw [e1, decide_eq_false (show ¬ ((l : Int) = i) by omega)]
      simp
    rw [this]; rfl
  · rw [if_neg (show ¬ ((wd : Int) < 0 ∨ (65536 : Int) < (wd : Int) ∨ i < 0 ∨ (wd : Int) ≤ i) by omega)]
    obtain ⟨n, rfl⟩ := Int.eq_ofNat_of_zero_le (show 0 ≤ i by omega)
    have hn : n < wd := by omega
    have e : K.find? (fun r => decide (r.1 = (List.replicate wd 0).set n 1)) = K.find? (mtS n) := by
      have : ∀ (L : List Rw), (∀ k, k ∈ L → Fit wd t k ∧ Led k) → L.find? (fun r => decide (r.1 = (List.replicate wd 0).set n 1)) = L.find? (mtS n) := by
        intro L
        induction L with
        | nil => intro _; rfl
        | cons a L ih =>
          intro h
          rw [List.find?_cons, List.find?_cons, ih (fun k hk => h k (by simp [hk]))]
          have hu := unit_iff (h a (by simp)).1 (h a (by simp)).2 hn
          have : mtS n a = decide (a.1 = (List.replicate wd 0).set n 1) := by
            unfold mtS
            by_cases hx : a.1 = (List.replicate wd 0).set n 1
            · rw [decide_eq_true hx, decide_eq_true (hu.2 hx).1, decide_eq_true (hu.2 hx).2]; rfl
            · rw [decide_eq_false hx]
              by_cases h1 : cntS a.1 = 1
              · rw [decide_eq_false (fun h2 => hx (hu.1 ⟨h1, h2⟩))]; simp
              · rw [decide_eq_false h1]; simp
          rw [this]
      exact this K hK
    simp only [ne_eq, not_true_eq_false, if_false, Int.toNat_natCast]
    rw [e]
    all_goals (cases K.find? (mtS n) <;> rfl)
set_option maxRecDepth 100000 in
set_option maxHeartbeats 4000000 in
theorem RKnown8_any (wd t : Nat) (pk : Option Addr) (nk ck : Nat) (D : List Rw) (i : Int) (w : World) (hD : RwS w pk nk ck D) (hfit : ∀ r, r ∈ D → Fit wd t r) (hr1 : Room wd) (hr2 : Room t) (hnk : nk ≤ 4096) (hwd : wd ≤ 65536) :
    Calls Try.prog 43 #[.slice pk nk ck, .int .i64 i] w (RetK2 w (knownS wd (redL (kD D)) i)) := by
  have hkept : KeptS wd t (kD D) := by have := kD_kept hfit D.length; rwa [List.take_length] at this
  obtain ⟨K, hKd⟩ : ∃ K, K = redL (kD D) := ⟨_, rfl⟩
  have hF : ∀ k, k ∈ K → Fit wd t k ∧ Led k := by rw [hKd]; exact (redL_red hkept).1.kept.rows
  have HFIT := Lib.hid hF
  have HKN := Lib.hid (known_find hF hwd i)
  have HRW := Lib.hid (fun W h => RRows_any wd t pk nk ck D W h hfit hr1 hr2 hnk)
  rw [← hKd] at HRW ⊢
  obtain ⟨RES, hRES⟩ : ∃ RES, RES = knownS wd K i := ⟨_, rfl⟩
  rw [← hRES] at HKN ⊢
  have HD := Lib.hid hD
  clear hD hfit hr1 hr2 hkept hKd hF hRES
  go_enter Try.func43, Try.ntmps43
  go_wp2_with fail
  refine Calls.mono (HRW.out w HD.out) ?_
  rintro e w3 ⟨qo, no, co, hno, rfl, hK, hb, -⟩
  have B3 := Lib.hid hb; have K3 := Lib.hid hK; have HLEN : Hid (K.length = no) := hno.symm
  have hnb : no ≤ 9223372036854775807 := by have h1 := hK.le; have h2 := hK.max; unfold maxLen at h2; omega
  clear hb hK hno HRW HD
  go_wp2
  go_loopw [13] (fun v wr => ∃ j : Nat, j ≤ no ∧ v = .int .i64 j ∧ Hid (∀ (a : Nat) (r : Rw), a < j → K[a]? = some r → mtS i r = false) ∧ Hid (Below w3.heap.size w3 wr)) (fun i _ => no - (intOf i).toNat)
  case atStart => exact ⟨0, Nat.zero_le _, rfl, fun a r h => by omega, Below.refl _ _⟩
  case round =>
    obtain ⟨j, hj, rfl, hP, hB⟩ := hrel
    by_cases hjl : j < no
    · obtain ⟨kk, hkk⟩ : ∃ kk, K[j]? = some kk := ⟨_, List.getElem?_eq_getElem (by rw [HLEN.out]; exact hjl)⟩
      obtain ⟨bk, ok, p1, n1, e1, p2, n2, e2, rfl, E1, E2, t1, t2⟩ := (K3.out.keep hB.out).row j kk hkk
      have T1 := Lib.hid t1; have T2 := Lib.hid t2; have HKK := Lib.hid hkk
      have jn : (j : Int) < (no : Int) := by omega
      have hn1 : n1 = wd := by have := t1.len; rw [(HFIT.out kk (List.mem_of_getElem? hkk)).1.1] at this; exact this.symm
      subst hn1
      clear t1 t2 hkk
      go_wp2
      clear E1 E2
      have ba : Below wr.heap.size wr (wr.alloc (.cells #[.slice p1 n1 e1, .slice p2 n2 e2] 68)) := al (Below.refl _ _) (Nat.le_refl _)
      have bx6 : (wr.alloc (.cells #[.slice p1 n1 e1, .slice p2 n2 e2] 68)).heap[wr.heap.size]? = some (.cells #[.slice p1 n1 e1, .slice p2 n2 e2] 68 (0, 0)) := hnew rfl
      generalize wr.alloc (.cells #[.slice p1 n1 e1, .slice p2 n2 e2] 68) = w5 at ba bx6 ⊢
      have S1 := Lib.hid (T1.out.keep ba); have S2 := Lib.hid (T2.out.keep ba)
      have B5 := Lib.hid (bl hB.out ba hB.out.size); have X5 := Lib.hid bx6
      obtain ⟨g6, hg6⟩ : ∃ g6, g6 = wr.heap.size := ⟨_, rfl⟩
      rw [← hg6] at X5 ⊢
      obtain ⟨u0, u1⟩ := cells2 X5.out
      clear hB T1 T2 ba bx6 hg6
      go_wp2
      go_loopw [8, 20] (fun s v wr => ∃ l : Nat, l ≤ n1 ∧ v = .int .i64 l ∧ s = .int .i64 (cntS (kk.1.take l)) ∧ wr = w5) (fun _ v _ => n1 - (intOf v).toNat)
      case atStart => exact ⟨0, Nat.zero_le _, rfl, rfl, rfl⟩
      case round =>
        obtain ⟨l, hl, rfl, rfl, rfl⟩ := hrel
        by_cases hln : l < n1
        · have ln : (l : Int) < (n1 : Int) := by omega
          obtain ⟨bx, ox, cx, rfl, hcx, hxx⟩ := S1.out.at l hln
          have HC := Lib.hid (cnt_take hxx.out)
          have hcl := cnt_le kk.1 l
          by_cases hz : cx = 0
          · have d : ((cx.toNat : Int) != 0) = false := by rw [hz]; rfl
            have hC : Hid (cntS (kk.1.take (l + 1)) = cntS (kk.1.take l)) := by show _ = _; rw [HC.out, if_neg (by simp [hz])]; rfl
            clear hz HC hxx
            go_wp2
            go_roundw
            case rel => exact ⟨l + 1, by omega, by go_num, by rw [hC.out], trivial⟩
            case measure => simp [intOf]; omega
          · have d : ((cx.toNat : Int) != 0) = true := by simp; exact fun h => hz (UInt8.toNat_inj.1 (by simpa using h))
            have hC : Hid (cntS (kk.1.take (l + 1)) = cntS (kk.1.take l) + 1) := by show _ = _; rw [HC.out, if_pos hz]
            generalize hg : cntS (kk.1.take l) = C at hC hcl ⊢
            clear hz HC hxx hg
            go_wp2
            go_roundw
            case rel => exact ⟨l + 1, by omega, by go_num, by rw [hC.out]; go_num, trivial⟩
            case measure => simp [intOf]; omega
        · have hle : l = n1 := by omega
          have hge : (n1 : Int) ≤ (l : Int) := by omega
          have HCN : Hid (cntS (kk.1.take l) = cntS kk.1) := by show _ = _; rw [List.take_of_length_le (by rw [S1.out.len]; omega)]
          rw [HCN.out]
          have hNX : Hid (mtS i kk = false → ∀ (a : Nat) (r : Rw), a < j + 1 → K[a]? = some r → mtS i r = false) := fun hm a r ha hr => by
            rcases Nat.lt_or_ge a j with g | g
            · exact hP.out a r g hr
            · obtain rfl : a = j := by omega
              have := HKK.out; rw [hr] at this; cases this; exact hm
          have hYES : Hid (mtS i kk = true → RES = (kk.2, true)) := fun hm => by
            rw [HKN.out]
            have : K.find? (mtS i) = some kk := by
              rw [List.find?_eq_some_iff_getElem]
              obtain ⟨hjk, e⟩ := List.getElem?_eq_some_iff.1 HKK.out
              exact ⟨hm, j, hjk, e, fun a ha => by rw [hP.out a _ ha (List.getElem?_eq_getElem (by omega))]; rfl⟩
            rw [this]
          have hMT : Hid (mtS i kk = (decide (cntS kk.1 = 1) && decide (leadS kk.1 = i))) := rfl
          have BF := Lib.hid (bl B3.out B5.out B3.out.size)
          generalize hg : cntS kk.1 = C at hMT ⊢
          generalize hg2 : leadS kk.1 = LK at hMT
          have HLD := Lib.hid (fun W h => RLead_any p1 n1 e1 kk.1 W h)
          rw [hg2] at HLD
          clear hle HCN hg hg2 HKN HKK
          by_cases hc1 : C = 1
          · have hc1' : ((C : Int) == 1) = true := by simp; omega
            go_wp2_with fail
            refine Calls.mono (HLD.out _ S1.out) ?_
            rintro e w' ⟨rfl, rfl⟩
            by_cases hlk : LK = i
            · have hr : Hid (RES = (kk.2, true)) := hYES.out (by rw [hMT.out, decide_eq_true hc1, decide_eq_true hlk]; rfl)
              subst hlk
              clear hc1 hNX hYES hMT
              go_wp2
              go_ret2
              exact ⟨p2, n2, e2, by rw [hr.out]; rfl, by rw [hr.out]; exact S2.out, BF.out⟩
            · have hN := Lib.hid (hNX.out (by rw [hMT.out, decide_eq_false hlk]; simp))
              have hlk' : (LK == i) = false := by simpa using hlk
              clear hc1 hNX hYES hMT hlk
              go_wp2
              go_roundw
              case rel => exact ⟨j + 1, by omega, by go_num, hN.out, B5.out⟩
              case measure => simp [intOf]; omega
          · have hc1' : ((C : Int) == 1) = false := by simp; omega
            have hN := Lib.hid (hNX.out (by rw [hMT.out, decide_eq_false hc1]; simp))
            clear hc1 hNX hYES hMT
            go_wp2
            go_roundw
            case rel => exact ⟨j + 1, by omega, by go_num, hN.out, B5.out⟩
            case measure => simp [intOf]; omega
    · have hjn : j = no := by omega
      have hge : (no : Int) ≤ (j : Int) := by omega
      have hr : Hid (RES = ([], false)) := by
        show _ = _
        rw [HKN.out]
        have : K.find? (mtS i) = none := List.find?_eq_none.2 fun r hr => by
          obtain ⟨a, ha, rfl⟩ := List.getElem_of_mem hr
          rw [hP.out a _ (by rw [hjn, ← HLEN.out]; exact ha) (List.getElem?_eq_getElem ha)]; simp
        rw [this]
      have BF := Lib.hid (bl B3.out hB.out B3.out.size)
      clear hjn hP hB
      go_wp2
      go_ret2
      exact ⟨none, 0, 0, by rw [hr.out]; rfl, by rw [hr.out]; exact Sl.nil0 _ _, BF.out⟩
end Go.Proofs.Ytofhdakggapahaa
namespace Go.By
open Go.RowKit
/-- bytes in a block of their own -/
def shpBy (T B n : Nat) : Shp := ⟨fun v W => ∃ g, v = .slice (some ⟨g, 0, none⟩) n n ∧ B ≤ g ∧ ∃ bs : List UInt8, bs.length = n ∧ W.heap[g]? = some (.cells (bs.map B8).toArray T (0, 0)), fun _ _ _ ⟨g, e, h, bs, hl, hh⟩ hb => ⟨g, e, h, bs, hl, (hb.block _ (blk_lt hh)).trans hh⟩⟩
theorem eval_tmp' {a : Act} {t : Nat} {v : Value} (h : sl a t = v) : a.eval (.tmp t) = v := h
theorem wp_make_bytes {P : Program} (w : World) {o : Oper} {a : Act} {K : Act → World → Prop} {Q : Exit → Act → World → Prop} (hg : o.guard = none) (l c : Operand) (t : TypeId) (hop : o.op = Op.makeSlice t l c)
    (e : TypeId) (i : TypeInfo) (h1 : P.underlying t = some (.slice e)) (h2 : P.info? e = some i) (h3 : i.zero = some (.int .u8 0)) (h4 : i.size = 1) (h5 : i.bytes = 1) (n : Nat) (hl : a.eval l = .int .i64 n) (hc : a.eval c = .int .i64 n) (hn : n ≤ 65536)
    (hK : ∀ w' g, g = w.heap.size → w'.heap[g]? = some (.cells ((List.replicate n (0 : UInt8)).map B8).toArray e (0, 0)) → Below w.heap.size w w' → K (a.put o.dst (.slice (some ⟨g, 0, none⟩) n n)) w') : o.wp P a w K Q := by
  have _ := hg
  obtain ⟨w', hrun, r1, r2⟩ := run_make_full (P := P) w w.heap.size t e i (.int .u8 0) 1 h1 h2 h3 h4 .i64 .i64 n (by rw [h5]; omega) (by unfold maxLen; omega) (Nat.le_refl _)
  unfold Oper.wp
  simp [execOp, hop, hl, hc, hrun, Result.andThen]
  refine hK w' _ rfl ?_ ((Below.refl _ _).grown r2 (Nat.le_refl _) (by simp))
  have e1 : (madeCells #[Value.int .u8 0] n).toList = List.replicate n (B8 0) := toList_madeCells_one _ _
  have r3 : w'.ownsRow w.heap.size e 1 (.slice (some ⟨w.heap.size, 0, none⟩) n n) n (List.replicate n (B8 0)) := by rw [← e1]; have r4 := r1; simp only [Nat.mul_one] at r4; exact r4
  rw [List.map_replicate]
  exact heap_of_owns r3
/-- a copy of bytes into a block known whole -/
def fillS (bs src : List UInt8) : List UInt8 := src.take bs.length ++ bs.drop src.length
theorem fillS_len (bs src : List UInt8) : (fillS bs src).length = bs.length := by unfold fillS; rw [List.length_append, List.length_take, List.length_drop]; omega
theorem wpList_copy_bytes {P : Program} (w : World) {ops : Array Oper} {rest : List Oper} {o : Oper} {a : Act} {Q : Exit → Act → World → Prop} (hgd : o.guard = none) (d s : Operand) (dT sT : TypeId)
    (ho : o.op = .call { callee := .builtin .copy, args := #[d, s], argTypes := #[dT, sT] }) (elem : TypeId) (hu : P.underlying dT = some (.slice elem)) (hsz : (P.info? elem).map (·.size) = some 1)
    (g n : Nat) (sp : Option Addr) (m c : Nat) (hd : a.eval d = .slice (some ⟨g, 0, none⟩) n n) (hs : a.eval s = .slice sp m c) (bs src : List UInt8) (T : TypeId) (hg : w.heap[g]? = some (.cells (bs.map B8).toArray T (0, 0))) (hl : bs.length = n) (hS : Sl B8 w sp m c src)
    (h : ∀ w' z, w'.heap[g]? = some (.cells ((fillS bs src).map B8).toArray T (0, 0)) → w.grownBy w' (some g) → wpList P ops Q rest (a.put o.dst (goInt z)) w') : wpList P ops Q (o :: rest) a w := by
  have hm := hS.len
  by_cases h0 : Nat.min m n = 0
  · refine wpList_copy_nothing hgd d s dT sT ho elem hu hsz _ sp n n m c hd hs h0 ?_
    refine h w 0 ?_ (World.grownBy.refl _ _)
    have e : fillS bs src = bs := by
      unfold fillS
      rcases Nat.eq_zero_or_pos m with h1 | h1
      · have : src = [] := List.length_eq_zero_iff.1 (by omega)
        subst this; simp
      · have h2 : n = 0 := by have h3 : min m n = 0 := h0; omega
        have : bs = [] := List.length_eq_zero_iff.1 (by omega)
        subst this; simp
    rw [e]; exact hg
  · have h1 : 0 < m ∧ 0 < n := by have h3 : ¬ min m n = 0 := h0; omega
    obtain ⟨b, o', rfl, -⟩ := hS.rs 0 (by omega)
    refine wpList_copy_own hgd d s dT sT ho elem hu hsz g 0 n n ⟨b, o', none⟩ m c hd hs _ T hg ((src.take n).map B8) ?_ ?_ ?_ ?_ ?_
    · rw [List.length_map, List.length_take, hm, Nat.min_comm]
    · intro j v hj
      rw [List.getElem?_map, List.getElem?_take] at hj
      have hjl : j < n ∧ j < src.length := by
        split at hj
        · rename_i hjn
          refine ⟨hjn, ?_⟩
          rcases Nat.lt_or_ge j src.length with g | g
          · exact g
          · rw [List.getElem?_eq_none g] at hj; cases hj
        · cases hj
      obtain ⟨b2, o2, e, hc⟩ := hS.rs j hjl.2
      cases e
      rw [if_pos hjl.1, List.getElem?_eq_getElem hjl.2] at hj
      rw [Addr.add_lit, hc]; exact hj
    · rw [List.length_map, List.length_take]; simp; omega
    · intro v hv
      obtain ⟨y, _, rfl⟩ := List.mem_map.1 hv
      rfl
    · refine h _ _ ?_ (grownBy_setRow w g _)
      rw [hrs hg]
      congr 3
      unfold fillS
      rw [hl, List.map_append, List.map_drop]
      simp only [List.take_zero, List.nil_append, Nat.zero_add, List.toList_toArray, List.length_map, List.length_take]
      congr 1
      rcases Nat.lt_or_ge n src.length with g | g
      · rw [Nat.min_eq_left (by omega), List.drop_eq_nil_of_le (by simp [hl]), List.drop_eq_nil_of_le (by simp [hl]; omega)]
      · rw [Nat.min_eq_right g]
end Go.By
namespace Go.Proofs.Ytofhdakggapahaa
open Go.RowKit Go.By
set_option maxRecDepth 100000 in
set_option maxHeartbeats 4000000 in
theorem Same8_any (p q : Option Addr) (n ca cb : Nat) (K : List Rw) (w : World) (h1 : RwS w p n ca K) (h2 : RwS w q n cb K) :
    Calls Try.prog 45 #[.slice p n ca, .slice q n cb] w fun e w' => e = .returned (.bool true) ∧ Below w.heap.size w w' := by
  have H1 := Lib.hid h1; have H2 := Lib.hid h2; have HLEN := Lib.hid h1.len
  have hnb : n ≤ 9223372036854775807 := by have g1 := h1.le; have g2 := h1.max; unfold maxLen at g2; omega
  clear h1 h2
  go_enter Try.func45, Try.ntmps45
  go_wp2
  go_loopw [13] (fun v wr => ∃ j : Nat, j ≤ n ∧ v = .int .i64 j ∧ Hid (Below w.heap.size w wr)) (fun i _ => n - (intOf i).toNat)
  case atStart => exact ⟨0, Nat.zero_le _, rfl, Below.refl _ _⟩
  case round =>
    obtain ⟨j, hj, rfl, hB⟩ := hrel
    by_cases hjl : j < n
    · obtain ⟨kk, hkk⟩ : ∃ kk, K[j]? = some kk := ⟨_, List.getElem?_eq_getElem (by rw [HLEN.out]; exact hjl)⟩
      obtain ⟨ba, oa, p1, n1, e1, p2, n2, e2, rfl, E1, E2, t1, t2⟩ := (H1.out.keep hB.out).row j kk hkk
      obtain ⟨bb, ob, q1, m1, d1, q2, m2, d2, rfl, E3, E4, s1, s2⟩ := (H2.out.keep hB.out).row j kk hkk
      have T1 := Lib.hid t1; have T2 := Lib.hid t2; have S1 := Lib.hid s1; have S2 := Lib.hid s2
      have jn : (j : Int) < (n : Int) := by omega
      clear t1 t2 s1 s2 hkk
      go_wp2
      refine wp_region_shapes (fun ix => ([.val (.slice (some ⟨ba, oa, none⟩) n ca), .val (.int .i64 j), .val (.pointer (some ⟨ba, oa + j * 2, none⟩)), .val (.agg #[.slice p1 n1 e1, .slice p2 n2 e2]), .val (.agg #[.slice p1 n1 e1, .slice p2 n2 e2]), .val (.slice (some ⟨bb, ob, none⟩) n cb), .val (.int .i64 j), .val (.pointer (some ⟨bb, ob + j * 2, none⟩)), .val (.agg #[.slice q1 m1 d1, .slice q2 m2 d2]), .val (.bool true), .val (.bool false)][ix]?).getD (.any)) 28 rfl (by kernel_rfl) (by decide) (by decide) (by decide) ?_ ?_
      · refine ⟨?_, ?_, ?_, ?_, ?_, ?_, ?_, ?_, ?_, ?_, ?_, trivial⟩
        · intro a W hb0 hs hp hi; have hb := undrew hb0; clear hb0
          have t0 : sl a 0 = .slice (some ⟨ba, oa, none⟩) n ca := hi 0 (by decide)
          exact ite_y rfl (wp_val (sl a 0) rfl ⟨_, rfl, Below.refl _ _, t0⟩)
        · intro a W hb0 hs hp hi; have hb := undrew hb0; clear hb0
          have t5 : sl a 5 = .int .i64 j := hi 5 (by decide)
          exact ite_y rfl (wp_val (sl a 5) rfl ⟨_, rfl, Below.refl _ _, t5⟩)
        · intro a W hb0 hs hp hi; have hb := undrew hb0; clear hb0
          have ti0 : sl a 16 = .slice (some ⟨ba, oa, none⟩) n ca := hp 0 (by decide)
          have ti1 : sl a 17 = .int .i64 j := hp 1 (by decide)
          refine ite_y rfl (wp_val (.pointer (some ⟨ba, oa + j * 2, none⟩)) ?_ ?_)
          · simp only [execOp, eval_tmp, eval_const, ti0, ti1]; simp [go_sem, jn, hjl]
          · exact ⟨_, rfl, Below.refl _ _, rfl⟩
        · intro a W hb0 hs hp hi; have hb := undrew hb0; clear hb0
          have tt : sl a 18 = .pointer (some ⟨ba, oa + j * 2, none⟩) := hp 2 (by decide)
          have dd0 := (hb.cell (p := ⟨ba, oa + j * 2, none⟩) (lt_of_cell E1)).trans E1
          have dd1 := (hb.cell (p := ⟨ba, oa + j * 2 + 1, none⟩) (lt_of_cell E2)).trans E2
          refine ite_y rfl (wp_val (.agg #[.slice p1 n1 e1, .slice p2 n2 e2]) ?_ ?_)
          · simp only [execOp, eval_tmp, tt]; simp [go_sem, dd0, dd1]
          · exact ⟨_, rfl, Below.refl _ _, rfl⟩
        · intro a W hb0 hs hp hi; have hb := undrew hb0; clear hb0
          have t19 : sl a 19 = .agg #[.slice p1 n1 e1, .slice p2 n2 e2] := hp 3 (by decide)
          refine ite_y rfl (wp_enter 41 #[.agg #[.slice p1 n1 e1, .slice p2 n2 e2]] ?_ (Of03_any p1 p2 n1 e1 n2 e2 W) ?_)
          · simp only [execOp, resolve, List.map_toArray, List.map, eval_tmp, eval_func, eval_const, t19]; simp [go_sem]
          · rintro e W' ⟨rfl, hw⟩; exact ⟨_, rfl, _, rfl, hw, rfl⟩
        · intro a W hb0 hs hp hi; have hb := undrew hb0; clear hb0
          have t1 : sl a 1 = .slice (some ⟨bb, ob, none⟩) n cb := hi 1 (by decide)
          exact ite_y rfl (wp_val (sl a 1) rfl ⟨_, rfl, Below.refl _ _, t1⟩)
        · intro a W hb0 hs hp hi; have hb := undrew hb0; clear hb0
          have t5 : sl a 5 = .int .i64 j := hi 5 (by decide)
          exact ite_y rfl (wp_val (sl a 5) rfl ⟨_, rfl, Below.refl _ _, t5⟩)
        · intro a W hb0 hs hp hi; have hb := undrew hb0; clear hb0
          have ti0 : sl a 21 = .slice (some ⟨bb, ob, none⟩) n cb := hp 5 (by decide)
          have ti1 : sl a 22 = .int .i64 j := hp 6 (by decide)
          refine ite_y rfl (wp_val (.pointer (some ⟨bb, ob + j * 2, none⟩)) ?_ ?_)
          · simp only [execOp, eval_tmp, eval_const, ti0, ti1]; simp [go_sem, jn, hjl]
          · exact ⟨_, rfl, Below.refl _ _, rfl⟩
        · intro a W hb0 hs hp hi; have hb := undrew hb0; clear hb0
          have tt : sl a 23 = .pointer (some ⟨bb, ob + j * 2, none⟩) := hp 7 (by decide)
          have dd0 := (hb.cell (p := ⟨bb, ob + j * 2, none⟩) (lt_of_cell E3)).trans E3
          have dd1 := (hb.cell (p := ⟨bb, ob + j * 2 + 1, none⟩) (lt_of_cell E4)).trans E4
          refine ite_y rfl (wp_val (.agg #[.slice q1 m1 d1, .slice q2 m2 d2]) ?_ ?_)
          · simp only [execOp, eval_tmp, tt]; simp [go_sem, dd0, dd1]
          · exact ⟨_, rfl, Below.refl _ _, rfl⟩
        · intro a W hb0 hs hp hi; have hb := undrew hb0; clear hb0
          have t20 : sl a 20 = .agg #[.slice p1 n1 e1, .slice p2 n2 e2] := hp 4 (by decide)
          have t24 : sl a 24 = .agg #[.slice q1 m1 d1, .slice q2 m2 d2] := hp 8 (by decide)
          refine ite_y rfl (wp_enter 40 #[.agg #[.slice p1 n1 e1, .slice p2 n2 e2], .agg #[.slice q1 m1 d1, .slice q2 m2 d2]] ?_ (RVSame_any p1 p2 q1 q2 n1 e1 n2 e2 m1 d1 m2 d2 kk.1 kk.2 kk.1 kk.2 W (T1.out.keep hb) (T2.out.keep hb) (S1.out.keep hb) (S2.out.keep hb)) ?_)
          · simp only [execOp, resolve, List.map_toArray, List.map, eval_tmp, eval_func, eval_const, t20, t24]; simp [go_sem]
          · rintro e W' ⟨rfl, hw⟩; exact ⟨_, rfl, _, rfl, hw, congrArg Value.bool (decide_eq_true rfl)⟩
        · intro a W hb0 hs hp hi; have hb := undrew hb0; clear hb0
          have t25 : sl a 25 = .bool true := hp 9 (by decide)
          refine ite_y rfl (wp_val (.bool false) ?_ ?_)
          · simp only [execOp, eval_tmp, eval_const, t25]; simp [go_sem]
          · exact ⟨_, rfl, Below.refl _ _, rfl⟩
      intro a w5 hb hs hd hI ht
      have ha := act_is [16, 17, 18, 19, 20, 21, 22, 23, 24, 25, 26] hs hd ht (by decide)
      have t26 : sl a 26 = .bool false := hI 10 (by decide)
      simp only [List.foldl, t26] at ha
      generalize sl a 16 = u16 at ha
      generalize sl a 17 = u17 at ha
      generalize sl a 18 = u18 at ha
      generalize sl a 19 = u19 at ha
      generalize sl a 20 = u20 at ha
      generalize sl a 21 = u21 at ha
      generalize sl a 22 = u22 at ha
      generalize sl a 23 = u23 at ha
      generalize sl a 24 = u24 at ha
      generalize sl a 25 = u25 at ha
      simp only [Act.put, List.setIfInBounds_toArray, List.set_cons_zero, List.set_cons_succ] at ha
      rw [ha]
      clear ha hI ht
      have B5 := Lib.hid (bl hB.out hb hB.out.size)
      clear hb hB E1 E2 E3 E4 T1 T2 S1 S2
      go_wp2
      go_roundw
      case rel => exact ⟨j + 1, by omega, by go_num, B5.out⟩
      case measure => simp [intOf]; omega
    · have hge : (n : Int) ≤ (j : Int) := by omega
      have BF := Lib.hid hB.out
      clear hB
      go_wp2
      go_ret
      exact ⟨rfl, BF.out⟩
set_option maxRecDepth 100000 in
set_option maxHeartbeats 4000000 in
theorem Fit8_any (k t : Nat) (p1 p2 : Option Addr) (n1 c1 n2 c2 : Nat) (x : Rw) (w : World) (s1 : Sl B8 w p1 n1 c1 x.1) (s2 : Sl B8 w p2 n2 c2 x.2) (hk : k ≤ 65535) (ht : t ≤ 65535) :
    Calls Try.prog 36 #[.agg #[.slice p1 n1 c1, .slice p2 n2 c2], .int .i64 k, .int .i64 t] w fun e w' => ∃ q1 d1 q2 d2 xs ys, e = .returned (.agg #[.slice q1 k d1, .slice q2 t d2]) ∧ Sl B8 w' q1 k d1 xs ∧ Sl B8 w' q2 t d2 ys ∧ Below w.heap.size w w' := by
  have hinfo : (Try.prog.info? 57).map (·.size) = some 2 := by kernel_rfl
  obtain ⟨i0, hi0, hz0, hz1, hz2⟩ := info_parts info_u8
  have S1 := Lib.hid s1; have S2 := Lib.hid s2
  clear s1 s2
  go_enter Try.func36, Try.ntmps36
  go_wp2
  have b0 : Below w.heap.size w ((w.alloc (.cells #[.slice p1 n1 c1, .slice p2 n2 c2] 57)).alloc (.cells #[.slice none 0 0, .slice none 0 0] 57)) := al (al (Below.refl _ _) (Nat.le_refl _)) (by simp)
  have x0 : ((w.alloc (.cells #[.slice p1 n1 c1, .slice p2 n2 c2] 57)).alloc (.cells #[.slice none 0 0, .slice none 0 0] 57)).heap[w.heap.size]? = some (.cells #[.slice p1 n1 c1, .slice p2 n2 c2] 57 (0, 0)) := hal (hnew rfl)
  have z0 : ((w.alloc (.cells #[.slice p1 n1 c1, .slice p2 n2 c2] 57)).alloc (.cells #[.slice none 0 0, .slice none 0 0] 57)).heap[w.heap.size + 1]? = some (.cells #[.slice none 0 0, .slice none 0 0] 57 (0, 0)) := hnew (by simp)
  generalize (w.alloc (.cells #[.slice p1 n1 c1, .slice p2 n2 c2] 57)).alloc (.cells #[.slice none 0 0, .slice none 0 0] 57) = w2 at b0 x0 z0 ⊢
  have h12 : w.heap.size + 1 < w2.heap.size := blk_lt z0
  refine wp_region_shapes (fun ix => ([.val (.int .i64 k), (shpBy 5 w2.heap.size k), .val (.int .i64 t), (shpBy 5 w2.heap.size t), (shpBy 5 w2.heap.size k), (shpBy 5 w2.heap.size t)][ix]?).getD (.any)) 24 rfl (by kernel_rfl) (by decide) (by decide) (by decide) ?_ ?_
  · refine ⟨?_, ?_, ?_, ?_, ?_, ?_, trivial⟩
    · intro a W hb0 hs hp hi; have hb := undrew hb0; clear hb0
      have t1 : sl a 1 = .int .i64 k := hi 1 (by decide)
      exact ite_y rfl (wp_val (sl a 1) rfl ⟨_, rfl, Below.refl _ _, t1⟩)
    · intro a W hb0 hs hp hi; have hb := undrew hb0; clear hb0
      have tt : sl a 9 = .int .i64 k := hp 0 (by decide)
      refine ite_y rfl (wp_make_bytes W rfl (.tmp 9) (.tmp 9) 25 rfl 5 i0 Try.underlying25 hi0 hz0 hz1 hz2 k (eval_tmp' tt) (eval_tmp' tt) (by omega) ?_)
      intro W' g hg hh hw
      exact ⟨_, rfl, hw, g, rfl, by have := hb.size; omega, List.replicate k 0, by simp, hh⟩
    · intro a W hb0 hs hp hi; have hb := undrew hb0; clear hb0
      have t2 : sl a 2 = .int .i64 t := hi 2 (by decide)
      exact ite_y rfl (wp_val (sl a 2) rfl ⟨_, rfl, Below.refl _ _, t2⟩)
    · intro a W hb0 hs hp hi; have hb := undrew hb0; clear hb0
      have tt : sl a 11 = .int .i64 t := hp 2 (by decide)
      refine ite_y rfl (wp_make_bytes W rfl (.tmp 11) (.tmp 11) 25 rfl 5 i0 Try.underlying25 hi0 hz0 hz1 hz2 t (eval_tmp' tt) (eval_tmp' tt) (by omega) ?_)
      intro W' g hg hh hw
      exact ⟨_, rfl, hw, g, rfl, by have := hb.size; omega, List.replicate t 0, by simp, hh⟩
    · intro a W hb0 hs hp hi; have hb := undrew hb0; clear hb0
      exact ite_y rfl (wp_val (sl a 10) rfl ⟨_, rfl, Below.refl _ _, hp 1 (by decide)⟩)
    · intro a W hb0 hs hp hi; have hb := undrew hb0; clear hb0
      exact ite_y rfl (wp_val (sl a 12) rfl ⟨_, rfl, Below.refl _ _, hp 3 (by decide)⟩)
  intro a w3 hb hs hd hI ht
  have ha := act_is [9, 10, 11, 12, 7, 8] hs hd ht (by decide)
  have y7 : (shpBy 5 w2.heap.size k).ok (sl a 7) w3 := hI 4 (by decide)
  obtain ⟨g7, e7, b7, bs7, l7, h7⟩ := y7
  have y8 : (shpBy 5 w2.heap.size t).ok (sl a 8) w3 := hI 5 (by decide)
  obtain ⟨g8, e8, b8, bs8, l8, h8⟩ := y8
  simp only [List.foldl, e7, e8] at ha
  generalize sl a 9 = u9 at ha
  generalize sl a 10 = u10 at ha
  generalize sl a 11 = u11 at ha
  generalize sl a 12 = u12 at ha
  simp only [Act.put, List.setIfInBounds_toArray, List.set_cons_zero, List.set_cons_succ] at ha
  rw [ha]
  clear ha hI ht
  have B3 := Lib.hid (bl b0 hb b0.size)
  have X3 := Lib.hid ((hb.block _ (blk_lt x0)).trans x0); have Z3 := Lib.hid ((hb.block _ (blk_lt z0)).trans z0)
  have S13 := Lib.hid (S1.out.keep B3.out)
  have L7 := Lib.hid l7; have L8 := Lib.hid l8; have H7 := Lib.hid h7; have H8 := Lib.hid h8
  clear b0 x0 z0 hb l7 l8 h7 h8 S1
  obtain ⟨y0, y1⟩ := cells2 X3.out
  go_wp2_with (with_reducible refine wpList_copy_bytes w3 rfl (.tmp 13) (.tmp 15) 25 25 rfl 5 Try.underlying25 (by kernel_rfl) g7 k p1 n1 c1 rfl rfl bs7 x.1 5 H7.out L7.out S13.out ?_)
  intro w4 z4 hh4 hg4
  have B4 := Lib.hid (B3.out.grown hg4 (by have := B3.out.size; omega) (fun j hj => by cases hj; omega))
  have ne1 : w.heap.size ≠ g7 := by omega
  have ne2 : w.heap.size + 1 ≠ g7 := by omega
  have X4 := Lib.hid ((hg4.block _ (blk_lt X3.out) (fun e => ne1 (Option.some.inj e))).trans X3.out); have Z4 := Lib.hid ((hg4.block _ (blk_lt Z3.out) (fun e => ne2 (Option.some.inj e))).trans Z3.out)
  have S24 := Lib.hid (S2.out.keep B4.out)
  have H84 : Hid (∃ bs : List UInt8, bs.length = t ∧ w4.heap[g8]? = some (.cells (bs.map B8).toArray 5 (0, 0))) := by
    by_cases e : g8 = g7
    · subst e
      have h2 := H8.out
      rw [H7.out] at h2
      have h3 : (bs7.map B8).toArray.size = (bs8.map B8).toArray.size := by injection h2 with h2; injection h2 with h2; rw [h2]
      have h4 : k = t := by have h5 := L7.out; have h6 := L8.out; simp at h3; omega
      exact ⟨_, by rw [fillS_len, L7.out, h4], hh4⟩
    · exact ⟨bs8, L8.out, (hg4.block _ (blk_lt H8.out) (fun e2 => e (Option.some.inj e2))).trans H8.out⟩
  have H74 : Hid (∃ bs : List UInt8, bs.length = k ∧ w4.heap[g7]? = some (.cells (bs.map B8).toArray 5 (0, 0))) := ⟨_, by rw [fillS_len, L7.out], hh4⟩
  clear X3 Z3 S13 y0 y1 hh4 hg4 H7 H8 L7 L8 B3 S2
  obtain ⟨y0, y1⟩ := cells2 X4.out
  obtain ⟨bs, lb, hb8⟩ := H84.out
  have LB := Lib.hid lb; have HB8 := Lib.hid hb8
  clear lb hb8
  go_wp2_with (with_reducible refine wpList_copy_bytes w4 rfl (.tmp 17) (.tmp 19) 25 25 rfl 5 Try.underlying25 (by kernel_rfl) g8 t p2 n2 c2 rfl rfl bs x.2 5 HB8.out LB.out S24.out ?_)
  intro w5 z5 hh5 hg5
  have B5 := Lib.hid (B4.out.grown hg5 (by have := B4.out.size; omega) (fun j hj => by cases hj; omega))
  have ne3 : w.heap.size + 1 ≠ g8 := by omega
  have Z5 := Lib.hid ((hg5.block _ (blk_lt Z4.out) (fun e => ne3 (Option.some.inj e))).trans Z4.out)
  have H75 : Hid (∃ bs : List UInt8, bs.length = k ∧ w5.heap[g7]? = some (.cells (bs.map B8).toArray 5 (0, 0))) := by
    obtain ⟨bs', l', h'⟩ := H74.out
    by_cases e : g7 = g8
    · subst e
      have h2 := HB8.out
      rw [h'] at h2
      have h3 : (bs'.map B8).toArray.size = (bs.map B8).toArray.size := by injection h2 with h2; injection h2 with h2; rw [h2]
      have h4 : k = t := by have h5 := LB.out; simp at h3; omega
      exact ⟨_, by rw [fillS_len, LB.out, h4], hh5⟩
    · exact ⟨bs', l', (hg5.block _ (blk_lt h') (fun e2 => e (Option.some.inj e2))).trans h'⟩
  have H85 : Hid (∃ bs : List UInt8, bs.length = t ∧ w5.heap[g8]? = some (.cells (bs.map B8).toArray 5 (0, 0))) := ⟨_, by rw [fillS_len, LB.out], hh5⟩
  obtain ⟨f0, f1⟩ := cells2 Z5.out
  have v0 := frozen_of_row _ _ 0 _ _ Z5.out
  have v1 := frozen_of_row _ _ 1 _ _ Z5.out
  clear X4 Z4 S24 y0 y1 hh5 hg5 HB8 LB B4 H74 H84
  go_wp2
  obtain ⟨xs, lx, hx⟩ := H75.out
  obtain ⟨ys, ly, hy⟩ := H85.out
  have n7 : g7 ≠ w.heap.size + 1 := by omega
  have n8 : g8 ≠ w.heap.size + 1 := by omega
  refine bodyPost_ret (results_cell_row rfl _ _ _ 57 #[.slice (some ⟨g7, 0, none⟩) k k, .slice (some ⟨g8, 0, none⟩) t t] (0, 0) _ rfl (hss (hss Z5.out)) Try.underlying57 rfl hinfo) rfl ⟨some ⟨g7, 0, none⟩, k, some ⟨g8, 0, none⟩, t, xs, ys, rfl, ?_, ?_, (B5.out.setCell (by simp) _).setCell (by simp) _⟩
  · exact sl_block xs k (hsc (hsc hx n7) n7) rfl lx (by unfold maxLen; omega)
  · exact sl_block ys t (hsc (hsc hy n8) n8) rfl ly (by unfold maxLen; omega)
end Go.Proofs.Ytofhdakggapahaa
