/- The contract of a system's Put: a row more. The contract of vec.Unit. The contract of a system's Known. The contract of the reference's Same of layer 7. The example of chapter 7. The law's example of chapter 8; what is told of no system. A system's Rest and Put, where the sizes don't fit, or nothing is left. The contract of the reference's Put of chapter 8. The contract of the reference's Known of chapter 8. The law's Same and Fit of chapter 8. A system's Rows and Clone. A system's Clone. A system's Solve. What a system's Put leaves as it is; Put of an equation that fits, and the reference's, whatever comes of it. Plain laws of GridTells: rows and what they are joined; a unit's bytes. GridTells: the walk, no unit. The walk of the grid's Inverse. Plain laws of GridReckons: rows and their vectors, products, columns, the inverse. The contract of the reference's Mul. GridTells: the walk, no grid, a unit. GridTells: the walk, a grid, a unit. GridTells: the walk, whole. What the laws of grids carry along from call to call. The contract of the reference's without. The contract of the reference's Det. Plain laws of GridRanks: ranks of turned grids and products, determinants, inverses of inverses. Plain law of ElimSolves: equations that symbols solve. A region that draws its order, whose first m operations are shapes, and whose others wait each for the one ahead of it: these are walked in their order. Plain: the sum of 32 bits, half a byte at a time and bit by bit. Plain: numbers of 32 bits as four bytes; sums of parts. What the packet layers and the plan share with the rows: IndexFunc and ContainsFunc of bytes and rows, Same and Zero of the reference, Zero of the kernel and of vectors. Chapter 4: sum.Put, Start, Sum (under way). Chapter 4: sum.Start, With, Sum, Of, Get. -/
import Derived.Test.YtcfdopiponlboaaGreatDoorZi3
import Derived.OpenShut
import Derived.BigQuiet
import Derived.Deep.QuietTactic
import Derived.Lib.AppendZeros
import Derived.BigFrame
namespace Go.By
open Go.RowKit
/-- what Put may turn: the system's block, and its rows' -/
structure Chg (w w' : World) (be : Nat) (v : Value) : Prop where
  os : w'.os = w.os
  tape : w'.tape = w.tape
  output : w'.output = w.output
  size : w.heap.size ≤ w'.heap.size
  block : ∀ b, b < w.heap.size → b ≠ be → v.ownBlock ≠ some b → w'.heap[b]? = w.heap[b]?
theorem Chg.of {w w' : World} (be : Nat) (v : Value) (h : Below w.heap.size w w') : Chg w w' be v := ⟨h.os, h.tape, h.output, h.size, fun b hb _ _ => h.block b hb⟩
theorem Chg.below {w a b : World} {be : Nat} {v : Value} (h : Chg w a be v) (g : Below a.heap.size a b) : Chg w b be v := ⟨g.os.trans h.os, g.tape.trans h.tape, g.output.trans h.output, Nat.le_trans h.size g.size, fun k hk h1 h2 => (g.block k (Nat.lt_of_lt_of_le hk h.size)).trans (h.block k hk h1 h2)⟩
theorem Chg.grown {w a b : World} {be : Nat} {v : Value} (h : Chg w a be v) (g : a.grownBy b v.ownBlock) : Chg w b be v := ⟨g.os.trans h.os, g.tape.trans h.tape, g.output.trans h.output, Nat.le_trans h.size g.size, fun k hk h1 h2 => (g.block k (Nat.lt_of_lt_of_le hk h.size) (fun e => h2 e.symm)).trans (h.block k hk h1 h2)⟩
theorem Chg.box {w a : World} {be : Nat} {v : Value} (h : Chg w a be v) (o : Nat) (u : Value) : Chg w (a.setCell ⟨be, o, none⟩ u) be v := ⟨h.os, h.tape, h.output, by simpa using h.size, fun k hk h1 h2 => (Below.heap_setCell _ _ _ _ h1).trans (h.block k hk h1 h2)⟩
theorem take_while {α : Type} (p : α → Bool) : ∀ (M : List α) (r : Nat), r ≤ M.length → (∀ j x, j < r → M[j]? = some x → p x = true) → (∀ x, M[r]? = some x → p x = false) → M.takeWhile p = M.take r ∧ M.dropWhile p = M.drop r
  | [], r, h, _, _ => by simp at h; subst h; exact ⟨rfl, rfl⟩
  | a :: M, 0, _, _, h2 => by
    have := h2 a rfl
    rw [List.takeWhile_cons, List.dropWhile_cons, this]; exact ⟨rfl, rfl⟩
  | a :: M, r + 1, h, h1, h2 => by
    have := h1 0 a (by omega) rfl
    obtain ⟨e1, e2⟩ := take_while p M r (by simpa using h) (fun j x hj hx => h1 (j + 1) x (by omega) (by simpa using hx)) (fun x hx => h2 x (by simpa using hx))
    rw [List.takeWhile_cons, List.dropWhile_cons, this, if_pos rfl, if_pos rfl, e1, e2]; exact ⟨rfl, rfl⟩
theorem RwL.ne_box {T2 T1 TX g n base : Nat} {w : World} {v : Value} {K : List (List UInt8 × List UInt8)} {cs : Array Value} {fr : Nat × Nat} (h : RwL T2 T1 w base v n K) (hX : w.heap[g]? = some (.cells cs TX fr)) (hT : T2 ≠ TX) : v.ownBlock ≠ some g := by
  obtain ⟨vs, a, b, o, r⟩ := h
  intro e
  rcases o.2 with ⟨hv, _⟩ | ⟨g', cap, cur, hv, _, hh, _⟩
  · rw [hv] at e; simp [Value.ownBlock] at e
  · rw [hv] at e; simp [Value.ownBlock] at e
    rw [e, hX] at hh
    injection hh with hh; injection hh with _ hh _; exact hT hh.symm
/-- a slice of one row, new -/
def shpOne (T B : Nat) (u1 u2 : Value) : Shp := ⟨fun v W => ∃ vb, v = .slice (some ⟨vb, 0, none⟩) 1 1 ∧ W.heap[vb]? = some (.cells #[u1, u2] T (0, 0)) ∧ B ≤ vb, fun _ _ _ ⟨vb, e, h, g⟩ hb => ⟨vb, e, (hb.block _ (blk_lt h)).trans h, g⟩⟩
def shpRowO (T B : Nat) (r : List UInt8 × List UInt8) : Shp := ⟨fun v W => ∃ u1 u2, v = .agg #[u1, u2] ∧ Bw T W B u1 r.1 ∧ Bw T W B u2 r.2, fun _ _ _ ⟨u1, u2, e, h1, h2⟩ hb => ⟨u1, u2, e, h1.keep hb, h2.keep hb⟩⟩
def shpRowTO (T B : Nat) (r : List UInt8 × List UInt8) (code : Int) : Shp := ⟨fun v W => ∃ u, v = .tuple #[u, .int .i64 code] ∧ (shpRowO T B r).ok u W, fun _ _ _ ⟨u, e, h⟩ hb => ⟨u, e, (shpRowO T B r).keep _ _ _ h hb⟩⟩
theorem RwL.blk {T2 T1 base n c g : Nat} {w : World} {K : List (List UInt8 × List UInt8)} (h : RwL T2 T1 w base (.slice (some ⟨g, 0, none⟩) n c) n K) : ∃ cur : Array Value, w.heap[g]? = some (.cells cur T2 (0, 0)) := by
  obtain ⟨vs, a, b, o, r⟩ := h
  rcases o.2 with ⟨hv, _⟩ | ⟨g', cap, cur, hv, _, hh, _⟩
  · simp at hv
  · obtain ⟨rfl, rfl⟩ : g = g' ∧ c = cap := by simpa using hv
    exact ⟨cur, hh⟩
theorem Bw.sl' {T1 base m c : Nat} {w : World} {q : Option Addr} {xs : List UInt8} (h : Bw T1 w base (.slice q m c) xs) : Sl B8 w q m c xs := by
  obtain ⟨q', m', c', e, l, o⟩ := h; cases e; exact Sl.of_owns o
theorem Bw.mk {T1 base m c : Nat} {w : World} {q : Option Addr} {xs : List UInt8} (o : w.ownsRow base T1 1 (.slice q m c) m (xs.map B8)) (l : xs.length = m) : Bw T1 w base (.slice q m c) xs := ⟨q, m, c, rfl, l, o⟩
theorem Bw.mono {T1 base b2 : Nat} {w : World} {v : Value} {xs : List UInt8} (h : Bw T1 w base v xs) (hb : b2 ≤ base) : Bw T1 w b2 v xs := by
  obtain ⟨q', m', c', e, l, o⟩ := h; exact ⟨q', m', c', e, l, owns_mono o hb⟩
end Go.By
namespace Go.Proofs.YtcfdopiponlboaaGreatDoor
open Go.RowKit Go.By
theorem zero_lead {v : List UInt8} (h : ¬ leadS v < 0) : zeroS v = false := by
  unfold zeroS
  cases e : v.all (fun x => decide (x = 0)) with
  | false => rfl
  | true =>
    refine absurd ?_ h
    have hz : ∀ x, x ∈ v → x = 0 := fun x hx => by simpa using List.all_eq_true.1 e x hx
    have : leadS v = -1 := idxf_none (k := v.length) rfl fun j y _ hy => by rw [hz y (List.mem_of_getElem? hy)]; rfl
    rw [this]; decide
set_option maxRecDepth 100000 in
set_option maxHeartbeats 8000000 in
theorem EPut_grown (base be k t n : Nat) (v : Value) (K : List Rw) (p1 p2 : Option Addr) (c1 c2 : Nat) (x : Rw) (w : World) (hE : Elm w base be k t v n K) (s1 : Sl B8 w p1 k c1 x.1) (s2 : Sl B8 w p2 t c2 x.2) (hR : Red k t K) (hk : k ≤ 4096) (ht : t ≤ 65535) (hn : ¬ leadS (restF K x).1 < 0) (hnn : n ≤ 4096) :
    Calls Tryz.prog 33 #[.pointer (some ⟨be, 0, none⟩), .agg #[.slice p1 k c1, .slice p2 t c2]] w fun e w' => e = .returned (.tuple #[.int .i64 0, .int .i64 0]) ∧
      ∃ v', Elm w' base be k t v' (n + 1) (putF K x) ∧ Chg w w' be v ∧ (v'.ownBlock = v.ownBlock ∨ ∀ b, v'.ownBlock = some b → w.heap.size ≤ b) := by
  have hx : Fit k t x := ⟨s1.len, s2.len⟩
  obtain ⟨q, c, rfl⟩ := hE.rows.shape
  obtain ⟨l, hL, hF, h0, -, -⟩ := rest_norm hR.kept hx hn
  obtain ⟨Y, hY⟩ : ∃ Y, Y = normS (restF K x) := ⟨_, rfl⟩
  have hput : Hid (putF K x = putAt (K.map (clrF Y)) Y) := by rw [hY]; rfl
  rw [← hY] at hL hF h0
  have hKn := hE.rows.len
  have hclr : Hid (∀ r, r ∈ K → Fit k t (clrF Y r) ∧ LeadAt (clrF Y r) (leadN r)) := fun r hr => by
    have h := clr_row hL hF (hR.kept.rows r hr).1 (hR.kept.rows r hr).2 (h0 r hr)
    exact ⟨h.1, h.2.1⟩
  obtain ⟨f, hf⟩ : ∃ f : Nat → Bool, f = fun i => decide ((l : Int) < leadS ((K.map (clrF Y)).getD i ([], [])).1) := ⟨_, rfl⟩
  have hfat : Hid (∀ i a, K[i]? = some a → f i = decide ((l : Int) < (leadN a : Int))) := fun i a ha => by
    rw [hf]
    show decide ((l : Int) < leadS ((K.map (clrF Y)).getD i ([], [])).1) = _
    rw [List.getD_eq_getElem?_getD, List.getElem?_map, ha]
    show decide ((l : Int) < leadS (clrF Y a).1) = _
    rw [(hclr.out a (List.mem_of_getElem? ha)).2.1]
  have hmono : Hid (∀ i j, i ≤ j → j < n → f i = true → f j = true) := fun i j hij hj hfi => by
    obtain ⟨a, ha⟩ : ∃ a, K[i]? = some a := ⟨_, List.getElem?_eq_getElem (by omega)⟩
    obtain ⟨b, hb⟩ : ∃ b, K[j]? = some b := ⟨_, List.getElem?_eq_getElem (by omega)⟩
    rw [hfat.out i a ha] at hfi
    rw [hfat.out j b hb]
    rcases Nat.lt_or_ge i j with g | g
    · have h1 := List.pairwise_iff_getElem.1 hR.kept.sorted i j (by omega) (by omega) g
      have ea : K[i]'(by omega) = a := by rw [List.getElem?_eq_getElem (by omega)] at ha; injection ha
      have eb : K[j]'(by omega) = b := by rw [List.getElem?_eq_getElem (by omega)] at hb; injection hb
      rw [ea, eb] at h1
      have h2 := of_decide_eq_true hfi
      exact decide_eq_true (by omega)
    · have e : i = j := by omega
      subst e; rw [ha] at hb; cases hb; exact hfi
  have hfin : Hid (∀ r, r ≤ n → (∀ i, i < r → f i = false) → (∀ i, r ≤ i → i < n → f i = true) → (K.map (clrF Y)).take r ++ Y :: (K.map (clrF Y)).drop r = putF K x) := fun r hr h1 h2 => by
    rw [hput.out]
    unfold putAt
    rw [hL.1]
    obtain ⟨e1, e2⟩ := take_while (fun r : Rw => decide (leadS r.1 ≤ (l : Int))) (K.map (clrF Y)) r (by rw [List.length_map]; omega) (fun j z hj hz => by
      have h3 := h1 j hj
      rw [hf] at h3
      have h4 : (K.map (clrF Y)).getD j ([], []) = z := by rw [List.getD_eq_getElem?_getD, hz]; rfl
      simp only [h4] at h3
      have h5 := of_decide_eq_false h3
      exact decide_eq_true (by omega)) (fun z hz => by
      have hrn : r < n := by have := (List.getElem?_eq_some_iff.1 hz).1; rw [List.length_map] at this; omega
      have h3 := h2 r (Nat.le_refl _) hrn
      rw [hf] at h3
      have h4 : (K.map (clrF Y)).getD r ([], []) = z := by rw [List.getD_eq_getElem?_getD, hz]; rfl
      simp only [h4] at h3
      have h5 := of_decide_eq_true h3
      exact decide_eq_false (by omega))
    rw [e1, e2]
  have hbe := hE.old
  have HE := Lib.hid hE; have S1 := Lib.hid s1; have S2 := Lib.hid s2; have HLY := Lib.hid hL.1; have HFY := Lib.hid hF; have HKL := Lib.hid hR.kept.rows; have HKN := Lib.hid hKn; have HYE := Lib.hid hY
  have HZ : Hid (zeroS (restF K x).1 = false) := zero_lead hn
  have HBE : Hid (be < w.heap.size) := blk_lt hE.box
  have hlk : l < k := hL.lt hF
  have HFF := Lib.hid hf
  have HRF : Hid (Fit k t (restF K x)) := hx.rest (fun a ha => (hR.kept.rows a ha).1)
  have hbw : base ≤ w.heap.size := by have h1 := blk_lt hE.box; omega
  clear hE s1 s2 hR hn hx hL hF h0 hY hKn hf
  go_enter Tryz.func33, Tryz.ntmps33
  go_wp2_with fail
  refine use_w1 (fun W => Below w.heap.size w W ∧ W.heap[w.heap.size]? = some (.cells #[.pointer (some ⟨be, 0, none⟩)] 90 (0, 0)) ∧ w.heap.size + 2 ≤ W.heap.size) ⟨al (al (Below.refl _ _) (Nat.le_refl _)) (by simp), hal (hnew rfl), by simp⟩ ?_
  rintro w2 ⟨b0, x0, z0⟩
  refine Calls.mono (ERest_any base be k t n _ K p1 p2 c1 c2 x w2 (HE.out.keep b0) (S1.out.keep b0) (S2.out.keep b0) HKL.out hk ht) ?_
  rintro e w3 ⟨q1, m1, g1, q2, m2, g2, l1, l2, rfl, o1, o2, hb⟩
  have B3 := Lib.hid (bl b0 hb b0.size)
  have X3 := Lib.hid ((hb.block _ (blk_lt x0)).trans x0)
  have L1 := Lib.hid (Sl.of_owns o1); have L2 := Lib.hid (Sl.of_owns o2)
  clear b0 x0 z0 o1 o2 hb l1 l2 S1 S2
  go_wp2_with fail
  refine use_w1 (fun W => Below w3.heap.size w3 W ∧ W.heap[w3.heap.size]? = some (.cells #[.slice q1 m1 g1, .slice q2 m2 g2] 47 (0, 0))) ⟨al (Below.refl _ _) (Nat.le_refl _), hnew rfl⟩ ?_
  rintro w4 ⟨b4, x4⟩
  obtain ⟨b6, h6⟩ : ∃ b6, b6 = w3.heap.size := ⟨_, rfl⟩
  rw [← h6] at x4 ⊢
  have hb6 : w.heap.size < b6 := by rw [h6]; exact blk_lt X3.out
  have hb64 : b6 < w4.heap.size := blk_lt x4
  refine Calls.mono (VZero_any q1 m1 g1 (restF K x).1 w4 (L1.out.keep b4)) ?_
  rintro e w' ⟨rfl, rfl⟩
  rw [HZ.out]
  have B4 := Lib.hid (bl B3.out b4 B3.out.size)
  have X24 := Lib.hid ((b4.block _ (blk_lt X3.out)).trans X3.out)
  have X64 := Lib.hid x4
  have L14 := Lib.hid (L1.out.keep b4); have L24 := Lib.hid (L2.out.keep b4)
  have hr1 : m1 ≤ 4096 := by have h1 := L1.out.len; have h2 := HRF.out.1; omega
  have hr2 : m2 ≤ 65535 := by have h1 := L2.out.len; have h2 := HRF.out.2; omega
  clear b4 x4 B3 X3 L1 L2 h6
  obtain ⟨y0, y1⟩ := cells2 X64.out
  go_wp2_with fail
  refine Calls.mono (Norm_any q1 q2 m1 g1 m2 g2 (restF K x).1 (restF K x).2 w4 L14.out L24.out (by unfold Room; omega) (by unfold Room; omega)) ?_
  rintro e w5 ⟨q5, m5, g5, q6, m6, g6, l5, l6, rfl, o5, o6, hb⟩
  rw [← show Y = normS ((restF K x).1, (restF K x).2) from HYE.out] at l5 l6 o5 o6
  have B5 := Lib.hid (bl B4.out hb B4.out.size)
  have X25 := Lib.hid ((hb.block _ (blk_lt X24.out)).trans X24.out)
  have X65 := Lib.hid ((hb.block _ (blk_lt X64.out)).trans X64.out)
  have ne1 : w.heap.size ≠ b6 := by omega
  have N6 : Hid (Below w.heap.size w ((w5.setCell ⟨b6, 0, none⟩ (.slice q5 m5 g5)).setCell ⟨b6, 1, none⟩ (.slice q6 m6 g6)) ∧ ((w5.setCell ⟨b6, 0, none⟩ (.slice q5 m5 g5)).setCell ⟨b6, 1, none⟩ (.slice q6 m6 g6)).heap[w.heap.size]? = some (.cells #[.pointer (some ⟨be, 0, none⟩)] 90 (0, 0)) ∧
      ((w5.setCell ⟨b6, 0, none⟩ (.slice q5 m5 g5)).setCell ⟨b6, 1, none⟩ (.slice q6 m6 g6)).heap[b6]? = some (.cells #[.slice q5 m5 g5, .slice q6 m6 g6] 47 (0, 0)) ∧
      Bw 5 ((w5.setCell ⟨b6, 0, none⟩ (.slice q5 m5 g5)).setCell ⟨b6, 1, none⟩ (.slice q6 m6 g6)) w.heap.size (.slice q5 m5 g5) Y.1 ∧ Bw 5 ((w5.setCell ⟨b6, 0, none⟩ (.slice q5 m5 g5)).setCell ⟨b6, 1, none⟩ (.slice q6 m6 g6)) w.heap.size (.slice q6 m6 g6) Y.2) :=
    ⟨(B5.out.setCell (by show w.heap.size ≤ b6; omega) _).setCell (by show w.heap.size ≤ b6; omega) _, hsc (hsc X25.out ne1) ne1, hss (hss X65.out), Bw.mk (owns_mono (owns_set (owns_set o5 hb64) hb64) (by omega)) l5.out, Bw.mk (owns_mono (owns_set (owns_set o6 hb64) hb64) (by omega)) l6.out⟩
  obtain ⟨y0', y1'⟩ := cells2 X65.out
  have z0 := frozen_of_row _ _ 0 _ _ X65.out
  have z1 := frozen_of_row _ _ 1 _ _ X65.out
  clear y0 y1 o5 o6 hb B4 X24 X64 L14 L24 B5 X25 X65 l5 l6
  go_wp2_with fail
  clear y0' y1' z0 z1
  refine use_w1 (fun W => Below w.heap.size w W ∧ W.heap[w.heap.size]? = some (.cells #[.pointer (some ⟨be, 0, none⟩)] 90 (0, 0)) ∧ W.heap[b6]? = some (.cells #[.slice q5 m5 g5, .slice q6 m6 g6] 47 (0, 0)) ∧ Bw 5 W w.heap.size (.slice q5 m5 g5) Y.1 ∧ Bw 5 W w.heap.size (.slice q6 m6 g6) Y.2) N6.out ?_
  rintro w6 ⟨b6', x26, x66, yb1, yb2⟩
  clear N6
  refine Calls.mono (Lead_any q5 m5 g5 Y.1 w6 yb1.sl') ?_
  rintro e w' ⟨rfl, rfl⟩
  rw [HLY.out]
  have B6 := Lib.hid b6'; have X26 := Lib.hid x26; have X66 := Lib.hid x66; have Y1 := Lib.hid yb1; have Y2 := Lib.hid yb2
  have E6 := Lib.hid (HE.out.keep b6')
  clear b6' x26 x66 yb1 yb2
  obtain ⟨f0, f1, f2⟩ := cells3 (hal (o := .cells #[.int .i64 l] 3) E6.out.box)
  have p0 : (w6.alloc (.cells #[.int .i64 l] 3)).cell? ⟨w.heap.size, 0, none⟩ = some (.pointer (some ⟨be, 0, none⟩)) := cell_of_row _ _ 0 _ _ _ (hal X26.out)
  obtain ⟨b8, h8⟩ : ∃ b8, b8 = w6.heap.size := ⟨_, rfl⟩
  have hb8 : b6 < b8 := by rw [h8]; exact blk_lt X66.out
  have NA : Hid (∀ o, Below w6.heap.size w6 (w6.alloc o)) := fun o => al (Below.refl _ _) (Nat.le_refl _)
  obtain ⟨b2, hb2⟩ : ∃ b2, b2 = w.heap.size := ⟨_, rfl⟩
  go_wp2
  clear f0 f1 f2 p0
  rw [← h8]
  have H8 := Lib.hid h8
  clear h8
  go_loopw [39] (fun i wr => ∃ j : Nat, j ≤ n ∧ i = .int .i64 j ∧ Hid (RwL 47 5 wr base (.slice q n c) n ((K.take j).map (clrF Y) ++ K.drop j)) ∧ Hid (wr.heap[be]? = some (.cells #[.int .i64 k, .int .i64 t, .slice q n c] 140 (0, 0))) ∧
    Hid (wr.heap[w.heap.size]? = some (.cells #[.pointer (some ⟨be, 0, none⟩)] 90 (0, 0))) ∧ Hid (wr.heap[b6]? = some (.cells #[.slice q5 m5 g5, .slice q6 m6 g6] 47 (0, 0))) ∧ Hid (wr.heap[b8]? = some (.cells #[.int .i64 l] 3 (0, 0))) ∧
    Hid (Bw 5 wr w.heap.size (.slice q5 m5 g5) Y.1) ∧ Hid (Bw 5 wr w.heap.size (.slice q6 m6 g6) Y.2) ∧ Hid (Chg w wr be (.slice q n c))) (fun i _ => n - (intOf i).toNat)
  case atStart => exact ⟨0, Nat.zero_le _, rfl, by show RwL _ _ _ _ _ _ _; simpa using (E6.out.keep (NA.out _)).rows, (E6.out.keep (NA.out _)).box, hal X26.out, hal X66.out, hnew H8.out, Y1.out.keep (NA.out _), Y2.out.keep (NA.out _), (Chg.of be _ B6.out).below (NA.out _)⟩
  case round =>
    clear B6 X26 X66 Y1 Y2 E6 NA
    obtain ⟨j, hj, rfl, hR, hX, h2, hX6, hX8, hY1, hY2, hC⟩ := hrel
    have HKJ : Hid (∀ a, K[j]? = some a → ((K.take j).map (clrF Y) ++ K.drop j)[j]? = some a) := fun a ha => by
      have lj : ((K.take j).map (clrF Y)).length = j := by rw [List.length_map, List.length_take, HKN.out]; omega
      rw [List.getElem?_append_right (by omega), lj, Nat.sub_self, List.getElem?_drop]; simpa using ha
    by_cases hjl : j < n
    · have jn : (j : Int) < (n : Int) := by omega
      obtain ⟨A, hA⟩ : ∃ A, K[j]? = some A := ⟨_, List.getElem?_eq_getElem (by rw [HKN.out]; exact hjl)⟩
      obtain ⟨g, kk, a1, b1, d1, a2, b2', d2, rfl, e1, e2, hkk, t1, t2⟩ := hR.out.at hjl
      have hkA : kk = A := by have h := hkk.out; rw [HKJ.out A hA] at h; cases h; rfl
      subst hkA
      have fA := (HKL.out kk (List.mem_of_getElem? hA))
      have HA := Lib.hid hA; have T1 := Lib.hid t1; have T2 := Lib.hid t2
      have HE1 := Lib.hid e1; have HE2 := Lib.hid e2
      obtain ⟨CJ, hCJ⟩ : ∃ CJ, CJ = atS kk.1 (l : Int) := ⟨_, rfl⟩
      have HYJ : Hid (clrF Y kk = lessF kk CJ Y) := by show _ = _; unfold clrF; rw [HLY.out, hCJ]
      have HFA := Lib.hid fA
      have HAT : Hid (∀ W, Sl B8 W a1 b1 d1 kk.1 → Calls Tryz.prog 68 #[.slice a1 b1 d1, .int .i64 l] W fun e w' => e = .returned (B8 CJ) ∧ W = w') := fun W h => by rw [hCJ]; exact At_any _ _ _ _ l W h
      have c8 : (wr.alloc (.cells #[.slice a1 b1 d1, .slice a2 b2' d2] 47)).cell? ⟨b8, 0, none⟩ = some (.int .i64 l) := cell_of_row _ _ 0 _ _ _ (hal hX8.out)
      clear t1 t2 hkk hA fA hCJ
      go_wp2_with fail
      clear e1 e2 c8
      refine use_w1 (fun W => Below wr.heap.size wr W ∧ W.heap[wr.heap.size]? = some (.cells #[.slice a1 b1 d1, .slice a2 b2' d2] 47 (0, 0))) ⟨al (Below.refl _ _) (Nat.le_refl _), hnew rfl⟩ ?_
      rintro w7 ⟨b7, x7⟩
      refine Calls.mono (HAT.out w7 (T1.out.keep b7)) ?_
      rintro e w' ⟨rfl, rfl⟩
      have B7 := Lib.hid b7; have X7 := Lib.hid x7
      have R7 := Lib.hid (hR.out.keep b7); have E7 := Lib.hid ((b7.block _ (blk_lt hX.out)).trans hX.out); have P7 := Lib.hid ((b7.block _ (blk_lt h2.out)).trans h2.out)
      have X67 := Lib.hid ((b7.block _ (blk_lt hX6.out)).trans hX6.out); have X87 := Lib.hid ((b7.block _ (blk_lt hX8.out)).trans hX8.out)
      have Y17 := Lib.hid (hY1.out.keep b7); have Y27 := Lib.hid (hY2.out.keep b7); have C7 := Lib.hid (hC.out.below b7)
      have T17 := Lib.hid (T1.out.keep b7); have T27 := Lib.hid (T2.out.keep b7)
      clear b7 x7 HAT hR hX h2 hX6 hX8 hY1 hY2 hC T1 T2 HE1 HE2 HKJ
      have HKS : Hid ((K.take (j + 1)).map (clrF Y) ++ K.drop (j + 1) = ((K.take j).map (clrF Y) ++ K.drop j).set j (clrF Y kk)) := by
        show _ = _
        have lj : ((K.take j).map (clrF Y)).length = j := by rw [List.length_map, List.length_take, HKN.out]; omega
        rw [List.set_append_right _ _ (by omega), lj, Nat.sub_self, List.take_add_one, HA.out, List.map_append]
        have : K.drop j = kk :: K.drop (j + 1) := by
          obtain ⟨hl, e⟩ := List.getElem?_eq_some_iff.1 HA.out
          rw [List.drop_eq_getElem_cons hl, e]
        rw [this]; simp
      by_cases hc : CJ = 0
      · have hz : ((CJ.toNat : Int) != 0) = false := by rw [hc]; rfl
        have HKZ : Hid ((K.take (j + 1)).map (clrF Y) ++ K.drop (j + 1) = (K.take j).map (clrF Y) ++ K.drop j) := by
          show _ = _
          rw [HKS.out, HYJ.out, hc, less_zero HFA.out.1 HFY.out]
          refine List.ext_getElem? fun i => ?_
          rw [List.getElem?_set]
          by_cases e : j = i
          · subst e
            have lj : ((K.take j).map (clrF Y)).length = j := by rw [List.length_map, List.length_take, HKN.out]; omega
            rw [if_pos rfl, if_pos (by rw [List.length_append, lj, List.length_drop, HKN.out]; omega), List.getElem?_append_right (by omega), lj, Nat.sub_self, List.getElem?_drop]
            have := HA.out; simpa using this.symm
          · rw [if_neg e]
        have R8 := Lib.hid R7.out
        rw [← HKZ.out] at R8
        clear hc HKZ HKS HYJ R7 HA T17 T27 HFA B7 X7
        go_wp2
        go_roundw
        case rel => exact ⟨j + 1, by omega, by go_num, R8.out, E7.out, P7.out, X67.out, X87.out, Y17.out, Y27.out, C7.out⟩
        case measure => simp [intOf]; omega
      · have hz : ((CJ.toNat : Int) != 0) = true := by simp; exact fun h => hc (UInt8.toNat_inj.1 (by simpa using h))
        obtain ⟨YJ, hYJ⟩ : ∃ YJ, YJ = lessF kk CJ Y := ⟨_, rfl⟩
        have HLS : Hid (∀ W, Sl B8 W a1 b1 d1 kk.1 → Sl B8 W a2 b2' d2 kk.2 → Sl B8 W q5 m5 g5 Y.1 → Sl B8 W q6 m6 g6 Y.2 → Calls Tryz.prog 67 #[.agg #[.slice a1 b1 d1, .slice a2 b2' d2], B8 CJ, .agg #[.slice q5 m5 g5, .slice q6 m6 g6]] W (RetR2 5 W YJ 0)) := fun W g1 g2 g3 g4 => by
          have := Less_any a1 a2 q5 q6 b1 d1 b2' d2 m5 g5 m6 g6 kk.1 kk.2 Y.1 Y.2 CJ W g1 g2 g3 g4 (by have h1 := g1.len; have h2 := HFA.out.1.1; unfold Room; omega) (by have h1 := g2.len; have h2 := HFA.out.1.2; unfold Room; omega)
          rw [lessS_fit (n := k) (t := t) (x := kk) (k := Y) HFA.out.1 HFY.out, ← hYJ] at this
          exact this
        rw [HYJ.out, ← hYJ] at HKS
        have hgw : g < w.heap.size := (HE.out.rows.lt g (by simp [Value.ownBlock])).2
        have hgbe : g ≠ be := fun e => HE.out.rows.ne_box HE.out.box (by decide) (by simp [Value.ownBlock, e])
        have hbw7 : base ≤ w7.heap.size := by have := C7.out.size; omega
        obtain ⟨u0, u1⟩ := cells2 X7.out
        obtain ⟨y0, y1⟩ := cells2 X67.out
        obtain ⟨f0, f1, f2⟩ := cells3 E7.out
        have p2 : w7.cell? ⟨w.heap.size, 0, none⟩ = some (.pointer (some ⟨be, 0, none⟩)) := cell_of_row _ _ 0 _ _ _ P7.out
        clear hc hYJ HYJ HA HFA
        go_wp2
        refine wp_region_late (fun ix => ([.val (.pointer (some ⟨be, 0, none⟩)), .val (.pointer (some ⟨be, 0, none⟩)), .val (.pointer (some ⟨be, 2, none⟩)), .val (.slice (some ⟨g, 0, none⟩) n c), .val (.int .i64 j), .val (.agg #[.slice a1 b1 d1, .slice a2 b2' d2]), .val (B8 CJ), .val (.agg #[.slice q5 m5 g5, .slice q6 m6 g6]), (shpRowTO 5 base YJ 0), (shpRowTO 5 base YJ 0), (shpRowO 5 base YJ), .val (.int .i64 0), .val (.pointer (some ⟨g, j * 2, none⟩)), .any][ix]?).getD (.any)) 83 13 11 50 61 rfl (by kernel_rfl) (by decide) (by decide) (by decide) _ rfl rfl rfl (by decide) (fun a u x w h => run_extract1 _ rfl h) (by decide) ?_ ?_
        · refine ⟨?_, ?_, ?_, ?_, ?_, ?_, ?_, ?_, ?_, ?_, ?_, ?_, ?_, trivial⟩
          · intro a W hb0 hs hp hi; have hb := undrew hb0; clear hb0
            have tt : sl a 2 = .pointer (some ⟨w.heap.size, 0, none⟩) := hi 2 (by decide)
            have dd0 := (hb.cell (p := ⟨w.heap.size, 0, none⟩) (lt_of_cell p2)).trans p2
            refine ite_y rfl (wp_val (.pointer (some ⟨be, 0, none⟩)) ?_ ?_)
            · simp only [execOp, eval_tmp, tt]; simp [go_sem, dd0]
            · exact ⟨_, rfl, Below.refl _ _, rfl⟩
          · intro a W hb0 hs hp hi; have hb := undrew hb0; clear hb0
            have tt : sl a 51 = .pointer (some ⟨be, 0, none⟩) := hp 0 (by decide)
            refine ite_y rfl (wp_val (.pointer (some ⟨be, 0, none⟩)) ?_ ?_)
            · simp only [execOp, eval_tmp, tt]; simp [go_sem]
            · exact ⟨_, rfl, Below.refl _ _, rfl⟩
          · intro a W hb0 hs hp hi; have hb := undrew hb0; clear hb0
            have t52 : sl a 52 = .pointer (some ⟨be, 0, none⟩) := hp 1 (by decide)
            refine ite_y rfl (wp_val (.pointer (some ⟨be, 2, none⟩)) ?_ ?_)
            · simp only [execOp, eval_tmp, eval_const, t52]; simp [go_sem]
            · exact ⟨_, rfl, Below.refl _ _, rfl⟩
          · intro a W hb0 hs hp hi; have hb := undrew hb0; clear hb0
            have tt : sl a 53 = .pointer (some ⟨be, 2, none⟩) := hp 2 (by decide)
            have dd0 := (hb.cell (p := ⟨be, 2, none⟩) (lt_of_cell f2)).trans f2
            refine ite_y rfl (wp_val (.slice (some ⟨g, 0, none⟩) n c) ?_ ?_)
            · simp only [execOp, eval_tmp, tt]; simp [go_sem, dd0]
            · exact ⟨_, rfl, Below.refl _ _, rfl⟩
          · intro a W hb0 hs hp hi; have hb := undrew hb0; clear hb0
            have t9 : sl a 9 = .int .i64 j := hi 9 (by decide)
            exact ite_y rfl (wp_val (sl a 9) rfl ⟨_, rfl, Below.refl _ _, t9⟩)
          · intro a W hb0 hs hp hi; have hb := undrew hb0; clear hb0
            have tt : sl a 10 = .pointer (some ⟨wr.heap.size, 0, none⟩) := hi 10 (by decide)
            have dd0 := (hb.cell (p := ⟨wr.heap.size, 0, none⟩) (lt_of_cell u0)).trans u0
            have dd1 := (hb.cell (p := ⟨wr.heap.size, 1, none⟩) (lt_of_cell u1)).trans u1
            refine ite_y rfl (wp_val (.agg #[.slice a1 b1 d1, .slice a2 b2' d2]) ?_ ?_)
            · simp only [execOp, eval_tmp, tt]; simp [go_sem, dd0, dd1]
            · exact ⟨_, rfl, Below.refl _ _, rfl⟩
          · intro a W hb0 hs hp hi; have hb := undrew hb0; clear hb0
            have t11 : sl a 11 = B8 CJ := hi 11 (by decide)
            exact ite_y rfl (wp_val (sl a 11) rfl ⟨_, rfl, Below.refl _ _, t11⟩)
          · intro a W hb0 hs hp hi; have hb := undrew hb0; clear hb0
            have tt : sl a 6 = .pointer (some ⟨b6, 0, none⟩) := hi 6 (by decide)
            have dd0 := (hb.cell (p := ⟨b6, 0, none⟩) (lt_of_cell y0)).trans y0
            have dd1 := (hb.cell (p := ⟨b6, 1, none⟩) (lt_of_cell y1)).trans y1
            refine ite_y rfl (wp_val (.agg #[.slice q5 m5 g5, .slice q6 m6 g6]) ?_ ?_)
            · simp only [execOp, eval_tmp, tt]; simp [go_sem, dd0, dd1]
            · exact ⟨_, rfl, Below.refl _ _, rfl⟩
          · intro a W hb0 hs hp hi; have hb := undrew hb0; clear hb0
            have t56 : sl a 56 = .agg #[.slice a1 b1 d1, .slice a2 b2' d2] := hp 5 (by decide)
            have t57 : sl a 57 = B8 CJ := hp 6 (by decide)
            have t58 : sl a 58 = .agg #[.slice q5 m5 g5, .slice q6 m6 g6] := hp 7 (by decide)
            refine ite_y rfl (wp_enter 67 #[.agg #[.slice a1 b1 d1, .slice a2 b2' d2], B8 CJ, .agg #[.slice q5 m5 g5, .slice q6 m6 g6]] ?_ (HLS.out W (T17.out.keep hb) (T27.out.keep hb) (Y17.out.keep hb).sl' (Y27.out.keep hb).sl') ?_)
            · simp only [execOp, resolve, List.map_toArray, List.map, eval_tmp, eval_func, eval_const, t56, t57, t58]; simp [go_sem]
            · rintro e W' ⟨q7, m7, k7, q8, m8, k8, e7, e8, rfl, o7, o8, hw⟩; have hbs := hb.size; exact ⟨_, rfl, _, rfl, hw, _, rfl, _, _, rfl, (Bw.mk o7 e7.out).mono (by omega), (Bw.mk o8 e8.out).mono (by omega)⟩
          · intro a W hb0 hs hp hi; have hb := undrew hb0; clear hb0
            have tt : (shpRowTO 5 base YJ 0).ok (sl a 59) W := hp 8 (by decide)
            exact ite_y rfl (wp_val (sl a 59) rfl ⟨_, rfl, Below.refl _ _, tt⟩)
          · intro a W hb0 hs hp hi; have hb := undrew hb0; clear hb0
            have tt : (shpRowTO 5 base YJ 0).ok (sl a 50) W := hp 9 (by decide)
            obtain ⟨u, tt, hr⟩ := tt
            exact ite_y rfl (wp_val u (by simp only [execOp, eval_tmp, tt]; rfl) ⟨_, rfl, Below.refl _ _, hr⟩)
          · intro a W hb0 hs hp hi; have hb := undrew hb0; clear hb0
            have tt : (shpRowTO 5 base YJ 0).ok (sl a 50) W := hp 9 (by decide)
            obtain ⟨u, tt, hr⟩ := tt
            exact ite_y rfl (wp_val (.int .i64 0) (by simp only [execOp, eval_tmp, tt]; rfl) ⟨_, rfl, Below.refl _ _, rfl⟩)
          · intro a W hb0 hs hp hi; have hb := undrew hb0; clear hb0
            have t54 : sl a 54 = .slice (some ⟨g, 0, none⟩) n c := hp 3 (by decide)
            have t55 : sl a 55 = .int .i64 j := hp 4 (by decide)
            refine ite_y rfl (wp_val (.pointer (some ⟨g, j * 2, none⟩)) ?_ ?_)
            · simp only [execOp, eval_tmp, eval_const, t54, t55]; simp [go_sem, jn, hjl]
            · exact ⟨_, rfl, Below.refl _ _, rfl⟩
        · intro a w9 o ho hb hs hd hI ht
          simp at ho; subst ho
          have t62 : sl a 62 = .pointer (some ⟨g, j * 2, none⟩) := hI 12 (by decide) (by decide)
          have t50 : (shpRowTO 5 base YJ 0).ok (sl a 50) w9 := hI 9 (by decide) (by decide)
          have t60 : (shpRowO 5 base YJ).ok (sl a 60) w9 := hI 10 (by decide) (by decide)
          obtain ⟨uu, t50, -⟩ := t50
          obtain ⟨v1, v2, t60, hv1, hv2⟩ := t60
          have R9 := R7.out.keep hb
          obtain ⟨cur9, hcur⟩ := R9.blk
          obtain ⟨g', kx, x1, y1', z1', x2, y2', z2', eg, d0, d1, -⟩ := R9.at hjl
          cases eg
          have z0 : w9.frozen? ⟨g, j * 2, none⟩ = false := frozen_of_row _ _ _ _ _ hcur
          have z1 : w9.frozen? ⟨g, j * 2 + 1, none⟩ = false := frozen_of_row _ _ _ _ _ hcur
          have o1 := hv1.one
          have o2 := hv2.one
          obtain ⟨xq1, xm1, xc1, rfl, -⟩ := id hv1
          obtain ⟨xq2, xm2, xc2, rfl, -⟩ := id hv2
          refine ⟨⟨_, _, t50⟩, wp_skipX (w' := ((w9.setCell ⟨g, j * 2, none⟩ (.slice xq1 xm1 xc1)).setCell ⟨g, j * 2 + 1, none⟩ (.slice xq2 xm2 xc2))) ?_ ⟨rfl, fun b hbs hbd hbt => ?_⟩⟩
          · simp only [execOp, eval_tmp, t60, t62]; simp [go_sem, d0, d1, z0, z1]
          have ha := act_is [51, 52, 53, 54, 55, 56, 57, 58, 59, 50, 60, 61, 62] hbs hbd (fun t h => (hbt t (fun e => by subst e; revert h; decide)).trans (ht t h)) (by decide)
          simp only [List.foldl] at ha
          generalize sl b 51 = u51 at ha
          generalize sl b 52 = u52 at ha
          generalize sl b 53 = u53 at ha
          generalize sl b 54 = u54 at ha
          generalize sl b 55 = u55 at ha
          generalize sl b 56 = u56 at ha
          generalize sl b 57 = u57 at ha
          generalize sl b 58 = u58 at ha
          generalize sl b 59 = u59 at ha
          generalize sl b 50 = u50 at ha
          generalize sl b 60 = u60 at ha
          generalize sl b 61 = u61 at ha
          generalize sl b 62 = u62 at ha
          simp only [Act.put, List.setIfInBounds_toArray, List.set_cons_zero, List.set_cons_succ] at ha
          rw [ha]; clear ha
          have RN := R9.put (k := YJ) (by decide) hjl hv1 hv2
          rw [← HKS.out] at RN
          have gb := grown_trans (grownBy_setCell w9 g (j * 2) (.slice xq1 xm1 xc1)) (grownBy_setCell (w9.setCell ⟨g, j * 2, none⟩ (.slice xq1 xm1 xc1)) g (j * 2 + 1) (.slice xq2 xm2 xc2))
          have ne0 : be ≠ g := fun e => hgbe e.symm
          have ne2 : w.heap.size ≠ g := by omega
          have ne6 : b6 ≠ g := by omega
          have ne8 : b8 ≠ g := by omega
          have yo : ∀ (u : Value) (xs : List UInt8), Bw 5 w9 w.heap.size u xs → Bw 5 ((w9.setCell ⟨g, j * 2, none⟩ (.slice xq1 xm1 xc1)).setCell ⟨g, j * 2 + 1, none⟩ (.slice xq2 xm2 xc2)) w.heap.size u xs := fun u xs h => h.set (g := g) (o := 0) (u := u) (fun kx hkx => by
            obtain ⟨q', m', c', e', l', o'⟩ := h
            rw [e'] at hkx
            have := (o'.lt kx hkx).1
            omega) gb
          have NX : ((w9.setCell ⟨g, j * 2, none⟩ (.slice xq1 xm1 xc1)).setCell ⟨g, j * 2 + 1, none⟩ (.slice xq2 xm2 xc2)).heap[be]? = some (.cells #[.int .i64 k, .int .i64 t, .slice (some ⟨g, 0, none⟩) n c] 140 (0, 0)) ∧ ((w9.setCell ⟨g, j * 2, none⟩ (.slice xq1 xm1 xc1)).setCell ⟨g, j * 2 + 1, none⟩ (.slice xq2 xm2 xc2)).heap[w.heap.size]? = some (.cells #[.pointer (some ⟨be, 0, none⟩)] 90 (0, 0)) ∧ ((w9.setCell ⟨g, j * 2, none⟩ (.slice xq1 xm1 xc1)).setCell ⟨g, j * 2 + 1, none⟩ (.slice xq2 xm2 xc2)).heap[b6]? = some (.cells #[.slice q5 m5 g5, .slice q6 m6 g6] 47 (0, 0)) ∧ ((w9.setCell ⟨g, j * 2, none⟩ (.slice xq1 xm1 xc1)).setCell ⟨g, j * 2 + 1, none⟩ (.slice xq2 xm2 xc2)).heap[b8]? = some (.cells #[.int .i64 l] 3 (0, 0)) ∧
              Bw 5 ((w9.setCell ⟨g, j * 2, none⟩ (.slice xq1 xm1 xc1)).setCell ⟨g, j * 2 + 1, none⟩ (.slice xq2 xm2 xc2)) w.heap.size (.slice q5 m5 g5) Y.1 ∧ Bw 5 ((w9.setCell ⟨g, j * 2, none⟩ (.slice xq1 xm1 xc1)).setCell ⟨g, j * 2 + 1, none⟩ (.slice xq2 xm2 xc2)) w.heap.size (.slice q6 m6 g6) Y.2 ∧ Chg w ((w9.setCell ⟨g, j * 2, none⟩ (.slice xq1 xm1 xc1)).setCell ⟨g, j * 2 + 1, none⟩ (.slice xq2 xm2 xc2)) be (.slice (some ⟨g, 0, none⟩) n c) :=
            ⟨hsc (hsc ((hb.block _ (blk_lt E7.out)).trans E7.out) ne0) ne0, hsc (hsc ((hb.block _ (blk_lt P7.out)).trans P7.out) ne2) ne2, hsc (hsc ((hb.block _ (blk_lt X67.out)).trans X67.out) ne6) ne6, hsc (hsc ((hb.block _ (blk_lt X87.out)).trans X87.out) ne8) ne8,
              yo _ _ (Y17.out.keep hb), yo _ _ (Y27.out.keep hb), (C7.out.below hb).grown (by simpa [Value.ownBlock] using gb)⟩
          generalize ((w9.setCell ⟨g, j * 2, none⟩ (.slice xq1 xm1 xc1)).setCell ⟨g, j * 2 + 1, none⟩ (.slice xq2 xm2 xc2)) = wn at NX RN ⊢
          have NXH := Lib.hid NX; have RNH := Lib.hid RN
          clear NX RN R9 hcur d0 d1 z0 z1 hv1 hv2 hI ht hb hbt gb yo u0 u1 y0 y1 f0 f1 f2 p2 R7 E7 P7 X67 X87 Y17 Y27 C7 B7 X7 T17 T27 HLS
          go_wp2
          go_roundw
          case rel => exact ⟨j + 1, by omega, by go_num, RNH.out, NXH.out.1, NXH.out.2.1, NXH.out.2.2.1, NXH.out.2.2.2.1, NXH.out.2.2.2.2.1, NXH.out.2.2.2.2.2.1, NXH.out.2.2.2.2.2.2⟩
          case measure => simp [intOf]; omega
    · have hjn : j = n := by omega
      have hge : (n : Int) ≤ (j : Int) := by omega
      have RM : Hid (RwL 47 5 wr base (.slice q n c) n (K.map (clrF Y))) := by
        have h := hR.out
        rw [hjn, List.take_of_length_le (by rw [HKN.out]; exact Nat.le_refl _), List.drop_eq_nil_of_le (by rw [HKN.out]; exact Nat.le_refl _), List.append_nil] at h; exact h
      have EM : Hid (Elm wr base be k t (.slice q n c) n (K.map (clrF Y))) := ⟨hX.out, RM.out, hbe⟩
      obtain ⟨f0, f1, f2⟩ := cells3 hX.out
      have p2 : wr.cell? ⟨w.heap.size, 0, none⟩ = some (.pointer (some ⟨be, 0, none⟩)) := cell_of_row _ _ 0 _ _ _ h2.out
      clear hjn hR HKJ
      go_wp2_with fail
      refine Calls.mono (Search_any f 73 #[.pointer (some ⟨w.heap.size, 0, none⟩), .pointer (some ⟨b8, 0, none⟩)] enters_behind n wr (by omega) (fun W i hW hi => ?_) hmono.out) ?_
      · obtain ⟨z, hz⟩ : ∃ z, (K.map (clrF Y))[i]? = some z := ⟨_, List.getElem?_eq_getElem (by rw [List.length_map, HKN.out]; exact hi)⟩
        have h := Behind_any base be k t n (.slice q n c) (K.map (clrF Y)) w.heap.size b8 i (l : Int) z W (EM.out.keep hW) (cell_of_row _ _ 0 _ _ _ ((hW.block _ (blk_lt h2.out)).trans h2.out)) (cell_of_row _ _ 0 _ _ _ ((hW.block _ (blk_lt hX8.out)).trans hX8.out)) hi hz
        have e : decide ((l : Int) < leadS z.1) = f i := by
          rw [HFF.out]
          show _ = decide ((l : Int) < leadS ((K.map (clrF Y)).getD i ([], [])).1)
          rw [List.getD_eq_getElem?_getD, hz]; rfl
        rw [e] at h; exact h
      rintro e w10 ⟨r, hr, rfl, hlo, hhi, hb⟩
      have HFIN := Lib.hid (hfin.out r hr hlo hhi)
      have E10 := Lib.hid (EM.out.keep hb); have P10 := Lib.hid ((hb.block _ (blk_lt h2.out)).trans h2.out); have X610 := Lib.hid ((hb.block _ (blk_lt hX6.out)).trans hX6.out)
      have Y110 := Lib.hid (hY1.out.keep hb); have Y210 := Lib.hid (hY2.out.keep hb); have C10 := Lib.hid (hC.out.below hb)
      have hb10 : base ≤ w10.heap.size := by have := C10.out.size; omega
      clear hlo hhi hb EM RM hX h2 hX6 hX8 hY1 hY2 hC f0 f1 f2 p2
      obtain ⟨f0, f1, f2⟩ := cells3 E10.out.box
      obtain ⟨y0, y1⟩ := cells2 X610.out
      have p2 : w10.cell? ⟨w.heap.size, 0, none⟩ = some (.pointer (some ⟨be, 0, none⟩)) := cell_of_row _ _ 0 _ _ _ P10.out
      go_wp2
      refine wp_region_mid (fun ix => ([.val (.pointer (some ⟨be, 0, none⟩)), .val (.pointer (some ⟨be, 0, none⟩)), .val (.pointer (some ⟨be, 0, none⟩)), .val (.pointer (some ⟨be, 2, none⟩)), .val (.slice q n c), .val (.int .i64 r), .val (.agg #[.slice q5 m5 g5, .slice q6 m6 g6]), (shpOne 47 w10.heap.size (.slice q5 m5 g5) (.slice q6 m6 g6)), .any, .val (.pointer (some ⟨be, 0, none⟩)), .val (.pointer (some ⟨be, 2, none⟩)), .any][ix]?).getD (.any)) (fun ix => (([some (.pointer (some ⟨be, 0, none⟩)), some (.pointer (some ⟨be, 0, none⟩)), some (.pointer (some ⟨be, 0, none⟩)), some (.pointer (some ⟨be, 2, none⟩)), none, none, some (.agg #[.slice q5 m5 g5, .slice q6 m6 g6]), none, none, some (.pointer (some ⟨be, 0, none⟩)), some (.pointer (some ⟨be, 2, none⟩))] : List (Option Value))[ix]?).getD none) 83 11 8 80 (fun u W => RwL 47 5 W base u (n + 1) (putF K x) ∧ W.heap[be]? = some (.cells #[.int .i64 k, .int .i64 t, .slice q n c] 140 (0, 0)) ∧ W.heap[w.heap.size]? = some (.cells #[.pointer (some ⟨be, 0, none⟩)] 90 (0, 0)) ∧ W.heap[b6]? = some (.cells #[.slice q5 m5 g5, .slice q6 m6 g6] 47 (0, 0)) ∧ Chg w W be (.slice q n c) ∧ (u.ownBlock = (Value.slice q n c).ownBlock ∨ ∀ b, u.ownBlock = some b → w.heap.size ≤ b)) rfl (by kernel_rfl) (by decide) (by decide) (by decide) ?_ _ rfl ?_ ?_ ?_ ?_
      · intro j u hj
        have hj11 : j < 11 := by
          rcases Nat.lt_or_ge j 11 with h | h
          · exact h
          · simp [List.getElem?_eq_none (show ([_, _, _, _, _, _, _, _, _, _, _] : List (Option Value)).length ≤ j from h)] at hj
        rcases (show j = 0 ∨ j = 1 ∨ j = 2 ∨ j = 3 ∨ j = 4 ∨ j = 5 ∨ j = 6 ∨ j = 7 ∨ j = 8 ∨ j = 9 ∨ j = 10 by omega) with rfl | rfl | rfl | rfl | rfl | rfl | rfl | rfl | rfl | rfl | rfl
        all_goals (simp at hj <;> (subst hj; rfl))
      · intro i o him his ho hps
        rcases (show i = 0 ∨ i = 1 ∨ i = 2 ∨ i = 3 ∨ i = 4 ∨ i = 5 ∨ i = 6 ∨ i = 7 ∨ i = 8 ∨ i = 9 ∨ i = 10 by omega) with rfl | rfl | rfl | rfl | rfl | rfl | rfl | rfl | rfl | rfl | rfl
        · simp at ho; subst ho
          intro a W hb0 hs hp hi; have hb := undrew hb0; clear hb0
          have tt : sl a 2 = .pointer (some ⟨w.heap.size, 0, none⟩) := hi 2 (by decide)
          have dd0 := (hb.cell (p := ⟨w.heap.size, 0, none⟩) (lt_of_cell p2)).trans p2
          refine ite_y rfl (wp_val (.pointer (some ⟨be, 0, none⟩)) ?_ ?_)
          · simp only [execOp, eval_tmp, tt]; simp [go_sem, dd0]
          · exact ⟨_, rfl, Below.refl _ _, rfl⟩
        · simp at ho; subst ho
          intro a W hb0 hs hp hi; have hb := undrew hb0; clear hb0
          have tt : sl a 2 = .pointer (some ⟨w.heap.size, 0, none⟩) := hi 2 (by decide)
          have dd0 := (hb.cell (p := ⟨w.heap.size, 0, none⟩) (lt_of_cell p2)).trans p2
          refine ite_y rfl (wp_val (.pointer (some ⟨be, 0, none⟩)) ?_ ?_)
          · simp only [execOp, eval_tmp, tt]; simp [go_sem, dd0]
          · exact ⟨_, rfl, Below.refl _ _, rfl⟩
        · simp at ho; subst ho
          intro a W hb0 hs hp hi; have hb := undrew hb0; clear hb0
          have tt : sl a 73 = .pointer (some ⟨be, 0, none⟩) := hp 1 (by decide)
          refine ite_y rfl (wp_val (.pointer (some ⟨be, 0, none⟩)) ?_ ?_)
          · simp only [execOp, eval_tmp, tt]; simp [go_sem]
          · exact ⟨_, rfl, Below.refl _ _, rfl⟩
        · simp at ho; subst ho
          intro a W hb0 hs hp hi; have hb := undrew hb0; clear hb0
          have t74 : sl a 74 = .pointer (some ⟨be, 0, none⟩) := hp 2 (by decide)
          refine ite_y rfl (wp_val (.pointer (some ⟨be, 2, none⟩)) ?_ ?_)
          · simp only [execOp, eval_tmp, eval_const, t74]; simp [go_sem]
          · exact ⟨_, rfl, Below.refl _ _, rfl⟩
        · simp at ho; subst ho
          intro a W hb0 hs hp hi; have hb := undrew hb0; clear hb0
          have tt : sl a 75 = .pointer (some ⟨be, 2, none⟩) := hp 3 (by decide)
          have dd0 := (hb.cell (p := ⟨be, 2, none⟩) (lt_of_cell f2)).trans f2
          refine ite_y rfl (wp_val (.slice q n c) ?_ ?_)
          · simp only [execOp, eval_tmp, tt]; simp [go_sem, dd0]
          · exact ⟨_, rfl, Below.refl _ _, rfl⟩
        · simp at ho; subst ho
          intro a W hb0 hs hp hi; have hb := undrew hb0; clear hb0
          have t13 : sl a 13 = .int .i64 r := hi 13 (by decide)
          exact ite_y rfl (wp_val (sl a 13) rfl ⟨_, rfl, Below.refl _ _, t13⟩)
        · simp at ho; subst ho
          intro a W hb0 hs hp hi; have hb := undrew hb0; clear hb0
          have tt : sl a 6 = .pointer (some ⟨b6, 0, none⟩) := hi 6 (by decide)
          have dd0 := (hb.cell (p := ⟨b6, 0, none⟩) (lt_of_cell y0)).trans y0
          have dd1 := (hb.cell (p := ⟨b6, 1, none⟩) (lt_of_cell y1)).trans y1
          refine ite_y rfl (wp_val (.agg #[.slice q5 m5 g5, .slice q6 m6 g6]) ?_ ?_)
          · simp only [execOp, eval_tmp, tt]; simp [go_sem, dd0, dd1]
          · exact ⟨_, rfl, Below.refl _ _, rfl⟩
        · simp at ho; subst ho
          intro a W hb0 hs hp hi; have hb := undrew hb0; clear hb0
          have tt : sl a 78 = .agg #[.slice q5 m5 g5, .slice q6 m6 g6] := hp 6 (by decide)
          have v78 : a.tmps[78]?.getD undef = .agg #[.slice q5 m5 g5, .slice q6 m6 g6] := by simpa [sl] using tt
          refine ite_y rfl (wp_val' (w' := W.alloc (.cells #[.slice q5 m5 g5, .slice q6 m6 g6] 47)) (.slice (some ⟨W.heap.size, 0, none⟩) 1 1) ?_ ?_)
          · simp only [execOp, eval_tmp, tt]; simp [go_sem, tt, v78]
          · exact ⟨_, rfl, al (Below.refl _ _) (Nat.le_refl _), W.heap.size, rfl, hnew rfl, hb.size⟩
        · exact absurd rfl his
        · simp at ho; subst ho; exact absurd hps (by decide)
        · simp at ho; subst ho; exact absurd hps (by decide)
      · intro a W hb hs hp
        have t76 : sl a 76 = .slice q n c := hp 4 (by decide)
        have t77 : sl a 77 = .int .i64 r := hp 5 (by decide)
        obtain ⟨vb, t79, hvb, hvb2⟩ : ∃ vb, sl a 79 = .slice (some ⟨vb, 0, none⟩) 1 1 ∧ W.heap[vb]? = some (.cells #[.slice q5 m5 g5, .slice q6 m6 g6] 47 (0, 0)) ∧ w10.heap.size ≤ vb := hp 7 (by decide)
        have EW := E10.out.keep hb
        have hvo : (Value.slice q n c).ownBlock ≠ some vb := fun e => by have := (E10.out.rows.lt vb e).2; omega
        refine wp_enter 75 #[.slice q n c, .int .i64 r, .slice (some ⟨vb, 0, none⟩) 1 1] ?_ (InsRow_any base n r vb _ (.slice q5 m5 g5) (.slice q6 m6 g6) (K.map (clrF Y)) Y W EW.rows hr (by omega) (by have := hb.size; omega) hvb hvo ((Y110.out.keep hb).mono hbw) ((Y210.out.keep hb).mono hbw)) ?_
        · simp [execOp, resolve, show a.tmps[76]?.getD undef = .slice q n c by simpa [sl] using t76, show a.tmps[77]?.getD undef = .int .i64 r by simpa [sl] using t77, show a.tmps[79]?.getD undef = .slice (some ⟨vb, 0, none⟩) 1 1 by simpa [sl] using t79, go_sem]
        · rintro e W' ⟨u, rfl, hRw, hg, hbk⟩
          rw [HFIN.out] at hRw
          have hCW := C10.out.below hb
          have ko : ∀ b, b < W.heap.size → (Value.slice q n c).ownBlock ≠ some b → W'.heap[b]? = W.heap[b]? := fun b h1 h2 => hg.block b h1 (fun e => h2 e.symm)
          have n1 : (Value.slice q n c).ownBlock ≠ some be := EW.rows.ne_box EW.box (by decide)
          have lt1 : ∀ b, (Value.slice q n c).ownBlock = some b → b < w.heap.size := fun b e => (HE.out.rows.lt b e).2
          have P10W := (hb.block _ (blk_lt P10.out)).trans P10.out; have X610W := (hb.block _ (blk_lt X610.out)).trans X610.out
          refine ⟨u, rfl, u, rfl, hRw, (ko be (blk_lt EW.box) n1).trans EW.box, (ko _ (blk_lt P10W) (fun e => by have := lt1 _ e; omega)).trans P10W, (ko _ (blk_lt X610W) (fun e => by have := lt1 _ e; omega)).trans X610W, hCW.grown hg, ?_⟩
          rcases hbk with e | e
          · exact .inl e
          · refine .inr fun b hb' => ?_
            rw [e] at hb'; cases hb'
            exact hCW.size
      · intro i o him his ho hpo a W u hP hs hu hk hi
        obtain ⟨-, hPb, hP2, hP6, -, -⟩ := hP
        obtain ⟨F0, F1, F2⟩ := cells3 hPb
        obtain ⟨G0, G1⟩ := cells2 hP6
        have Q2 : W.cell? ⟨w.heap.size, 0, none⟩ = some (.pointer (some ⟨be, 0, none⟩)) := cell_of_row _ _ 0 _ _ _ hP2
        rcases (show i = 0 ∨ i = 1 ∨ i = 2 ∨ i = 3 ∨ i = 4 ∨ i = 5 ∨ i = 6 ∨ i = 7 ∨ i = 8 ∨ i = 9 ∨ i = 10 by omega) with rfl | rfl | rfl | rfl | rfl | rfl | rfl | rfl | rfl | rfl | rfl
        · simp at ho; subst ho
          have tt : sl a 2 = .pointer (some ⟨w.heap.size, 0, none⟩) := hi 2 (by decide)
          refine ⟨_, rfl, ?_⟩
          simp only [execOp, eval_tmp, tt]; simp [go_sem, Q2]
        · simp at ho; subst ho
          have tt : sl a 2 = .pointer (some ⟨w.heap.size, 0, none⟩) := hi 2 (by decide)
          refine ⟨_, rfl, ?_⟩
          simp only [execOp, eval_tmp, tt]; simp [go_sem, Q2]
        · simp at ho; subst ho
          have tt : sl a 73 = .pointer (some ⟨be, 0, none⟩) := hk 1 (by decide) (by decide) _ 73 rfl rfl
          refine ⟨_, rfl, ?_⟩
          simp only [execOp, eval_tmp, tt]; simp [go_sem]
        · simp at ho; subst ho
          have tt : sl a 74 = .pointer (some ⟨be, 0, none⟩) := hk 2 (by decide) (by decide) _ 74 rfl rfl
          refine ⟨_, rfl, ?_⟩
          simp only [execOp, eval_tmp, tt]; simp [go_sem]
        · exact absurd hpo (by decide)
        · exact absurd hpo (by decide)
        · simp at ho; subst ho
          have tt : sl a 6 = .pointer (some ⟨b6, 0, none⟩) := hi 6 (by decide)
          refine ⟨_, rfl, ?_⟩
          simp only [execOp, eval_tmp, tt]; simp [go_sem, G0, G1]
        · exact absurd hpo (by decide)
        · exact absurd rfl his
        · simp at ho; subst ho
          have tt : sl a 72 = .pointer (some ⟨be, 0, none⟩) := hk 0 (by decide) (by decide) _ 72 rfl rfl
          refine ⟨_, rfl, ?_⟩
          simp only [execOp, eval_tmp, tt]; simp [go_sem]
        · simp at ho; subst ho
          have tt : sl a 81 = .pointer (some ⟨be, 0, none⟩) := hk 9 (by decide) (by decide) _ 81 rfl rfl
          refine ⟨_, rfl, ?_⟩
          simp only [execOp, eval_tmp, tt]; simp [go_sem]
      · intro a W u o ho hP hs hd hu hlvs ht
        have ha := act_is [72, 73, 74, 75, 76, 77, 78, 79, 80, 81, 82] hs hd ht (by decide)
        simp at ho; subst ho
        have t82 : sl a 82 = .pointer (some ⟨be, 2, none⟩) := hlvs 10 (by decide) (by decide) _ 82 rfl rfl
        obtain ⟨hRw, hPb, -, -, hCW, hbk⟩ := hP
        obtain ⟨F0, F1, F2⟩ := cells3 hPb
        have z2 := frozen_of_row _ _ 2 _ _ hPb
        obtain ⟨uq, uc, rfl⟩ := hRw.shape
        refine wp_skip_none rfl (w' := W.setCell ⟨be, 2, none⟩ (.slice uq (n + 1) uc)) ?_ ?_
        · simp only [execOp, eval_tmp, t82, hu]; simp [go_sem, F2, z2]
        simp only [List.foldl, t82, hu] at ha
        generalize sl a 72 = u72 at ha
        generalize sl a 73 = u73 at ha
        generalize sl a 74 = u74 at ha
        generalize sl a 75 = u75 at ha
        generalize sl a 76 = u76 at ha
        generalize sl a 77 = u77 at ha
        generalize sl a 78 = u78 at ha
        generalize sl a 79 = u79 at ha
        generalize sl a 81 = u81 at ha
        simp only [Act.put, List.setIfInBounds_toArray, List.set_cons_zero, List.set_cons_succ] at ha
        rw [ha]; clear ha
        have hne2 := hRw.ne_box hPb (by decide)
        have NX : Hid (Elm (W.setCell ⟨be, 2, none⟩ (.slice uq (n + 1) uc)) base be k t (.slice uq (n + 1) uc) (n + 1) (putF K x) ∧ Chg w (W.setCell ⟨be, 2, none⟩ (.slice uq (n + 1) uc)) be (.slice q n c)) :=
          ⟨⟨hss hPb, hRw.set hPb (by decide) hne2 (grownBy_setCell W be 2 _), hbe⟩, hCW.box 2 _⟩
        have HBK := Lib.hid hbk
        clear hRw hPb hCW hbk F0 F1 F2 z2 ht hlvs
        go_wp2
        go_ret2
        exact ⟨rfl, _, NX.out.1, NX.out.2, HBK.out⟩
end Go.Proofs.YtcfdopiponlboaaGreatDoor
namespace Go.Proofs.YtcfdopiponlboaaGreatDoor
open Go.RowKit Go.By
end Go.Proofs.YtcfdopiponlboaaGreatDoor
namespace Go.By
open Go.RowKit
theorem RwL.rwS {T2 T1 base n c : Nat} {w : World} {q : Option Addr} {K : List (List UInt8 × List UInt8)} (h : RwL T2 T1 w base (.slice q n c) n K) : RwS w q n c K := by
  have hl := h.len
  have hs : n ≤ c ∧ c ≤ maxLen ∧ (q = none → n = 0 ∧ c = 0) := by
    obtain ⟨vs, a, b, o, r⟩ := h
    rcases o.2 with ⟨hv, hn⟩ | ⟨g, cap, cur, hv, _, _, h1, h2, _⟩
    · simp at hv; exact ⟨by omega, by unfold maxLen; omega, fun _ => ⟨by omega, by omega⟩⟩
    · simp at hv; exact ⟨by omega, by omega, fun e => by rw [hv.1] at e; cases e⟩
  refine ⟨hl, hs.1, hs.2.1, hs.2.2, fun j k hj => ?_⟩
  have hjn : j < n := by rw [← hl]; exact (List.getElem?_eq_some_iff.1 hj).1
  obtain ⟨g, k', q1, m1, c1, q2, m2, c2, e, d1, d2, hk, s1, s2⟩ := h.at hjn
  have : k' = k := by have h := hk.out; rw [hj] at h; cases h; rfl
  subst this
  exact ⟨g, 0, q1, m1, c1, q2, m2, c2, e, by rw [Nat.zero_add]; exact d1, by rw [Nat.zero_add]; exact d2, s1, s2⟩
end Go.By
namespace Go.Proofs.YtcfdopiponlboaaGreatDoor
open Go.RowKit Go.By
end Go.Proofs.YtcfdopiponlboaaGreatDoor
namespace Go.Proofs.YtcfdopiponlboaaGreatDoor
open Go.RowKit Go.By
end Go.Proofs.YtcfdopiponlboaaGreatDoor
namespace Go.Proofs.YtcfdopiponlboaaGreatDoor
open Go.RowKit Go.By
end Go.Proofs.YtcfdopiponlboaaGreatDoor
namespace Go.Proofs.YtcfdopiponlboaaGreatDoor
open Go.RowKit Go.By
end Go.Proofs.YtcfdopiponlboaaGreatDoor
namespace Go.Proofs.YtcfdopiponlboaaGreatDoor
open Go.RowKit Go.By
theorem lead_zero {v : List UInt8} (h : leadS v < 0) : zeroS v = true := by
  unfold zeroS
  exact List.all_eq_true.2 fun x hx => by simpa using leadS_neg h x hx
set_option maxRecDepth 100000 in
set_option maxHeartbeats 4000000 in
theorem EPut_zero (base be k t n : Nat) (v : Value) (K : List Rw) (p1 p2 : Option Addr) (c1 c2 : Nat) (x : Rw) (w : World) (hE : Elm w base be k t v n K) (s1 : Sl B8 w p1 k c1 x.1) (s2 : Sl B8 w p2 t c2 x.2) (hK : ∀ r, r ∈ K → Fit k t r ∧ Led r) (hk : k ≤ 4096) (ht : t ≤ 65535) (hn : leadS (restF K x).1 < 0) :
    Calls Tryz.prog 33 #[.pointer (some ⟨be, 0, none⟩), .agg #[.slice p1 k c1, .slice p2 t c2]] w fun e w' => e = .returned (.tuple #[.int .i64 (if zeroS (restF K x).2 = true then 1 else 2), .int .i64 0]) ∧ Below w.heap.size w w' := by
  have HB : Hid (∀ o1 o2, Below w.heap.size w ((w.alloc o1).alloc o2)) := fun o1 o2 => al (al (Below.refl _ _) (Nat.le_refl _)) (by simp)
  have HZ : Hid (zeroS (restF K x).1 = true) := lead_zero hn
  have HE := Lib.hid hE; have S1 := Lib.hid s1; have S2 := Lib.hid s2; have HK := Lib.hid hK
  clear hE s1 s2 hK hn
  obtain ⟨u, hu⟩ : ∃ u : Int, u = if zeroS (restF K x).2 = true then 1 else 2 := ⟨_, rfl⟩
  rw [← hu]
  have HU := Lib.hid hu
  clear hu
  go_enter Tryz.func33, Tryz.ntmps33
  go_wp2_with fail
  refine Calls.mono (ERest_any base be k t n v K p1 p2 c1 c2 x _ (HE.out.keep (HB.out _ _)) (S1.out.keep (HB.out _ _)) (S2.out.keep (HB.out _ _)) HK.out hk ht) ?_
  rintro e w3 ⟨q1, m1, g1, q2, m2, g2, l1, l2, rfl, o1, o2, hb⟩
  have B3 : Hid (Below w.heap.size w w3) := bl (HB.out _ _) hb (by simp; omega)
  have L1 := Lib.hid (Sl.of_owns o1); have L2 := Lib.hid (Sl.of_owns o2)
  clear hb o1 o2 l1 l2 S1 S2 HE HB
  go_wp2_with fail
  refine use_w1 (fun W => Below w3.heap.size w3 W ∧ W.heap[w3.heap.size]? = some (.cells #[.slice q1 m1 g1, .slice q2 m2 g2] 47 (0, 0))) ⟨al (Below.refl _ _) (Nat.le_refl _), hnew rfl⟩ ?_
  rintro w4 ⟨b4, x4⟩
  refine Calls.mono (VZero_any q1 m1 g1 (restF K x).1 w4 (L1.out.keep b4)) ?_
  rintro e w' ⟨rfl, rfl⟩
  rw [HZ.out]
  have L24 := Lib.hid (L2.out.keep b4); have B4 := Lib.hid (bl B3.out b4 B3.out.size)
  obtain ⟨y0, y1⟩ := cells2 x4
  clear b4 x4
  go_wp2_with fail
  refine Calls.mono (VZero_any q2 m2 g2 (restF K x).2 w4 L24.out) ?_
  rintro e w' ⟨rfl, rfl⟩
  clear y0 y1
  cases hz : zeroS (restF K x).2 with
  | true =>
    go_wp2
    go_ret2
    have e1 := HU.out.trans (if_pos hz)
    exact ⟨by rw [e1]; rfl, B4.out⟩
  | false =>
    go_wp2
    go_ret2
    have e1 := HU.out.trans (if_neg (by rw [hz]; decide))
    exact ⟨by rw [e1]; rfl, B4.out⟩
end Go.Proofs.YtcfdopiponlboaaGreatDoor
namespace Go.By
open Go.RowKit
theorem RwV.of_owns {w : World} {base T n c : Nat} {q : Option Addr} {vs : List (Value × Value)} (h : w.ownsRow base T 2 (.slice q n c) n (fl2 vs)) (h1 : ∀ u, u ∈ fl2 vs → u.oneCell' = true) : RwV w q n c vs := by
  have hl : vs.length = n := by have := h.1; rw [fl2_length] at this; omega
  rcases h.2 with ⟨e1, e2⟩ | ⟨g, cap, cur, e1, _, _, h3, h4, _⟩
  · cases e1
    exact ⟨hl, Nat.le_of_eq e2, by simp [maxLen], fun _ => ⟨e2, rfl⟩, fun j u hj => (by have := (List.getElem?_eq_some_iff.1 hj).1; rw [fl2_length] at this; omega), h1⟩
  · cases e1
    refine ⟨hl, h3, h4, fun e => (by cases e), fun j u hj => ⟨g, 0, rfl, ?_⟩, h1⟩
    have := (List.getElem?_eq_some_iff.1 hj).1
    rw [fl2_length] at this
    rw [Nat.zero_add, h.cellAt _ (by omega)]; exact hj
end Go.By
namespace Go.Proofs.YtcfdopiponlboaaGreatDoor
open Go.RowKit Go.By
end Go.Proofs.YtcfdopiponlboaaGreatDoor
namespace Go.By
open Go.RowKit
end Go.By
namespace Go.Proofs.YtcfdopiponlboaaGreatDoor
open Go.RowKit Go.By
end Go.Proofs.YtcfdopiponlboaaGreatDoor
namespace Go.By
open Go.RowKit
end Go.By
namespace Go.Proofs.YtcfdopiponlboaaGreatDoor
open Go.RowKit Go.By
end Go.Proofs.YtcfdopiponlboaaGreatDoor
namespace Go.Proofs.YtcfdopiponlboaaGreatDoor
open Go.RowKit Go.By
/-- rows made at first: all without bytes -/
theorem RwL.made {w : World} {base g n : Nat} (hh : w.heap[g]? = some (.cells (madeCells #[.slice none 0 0, .slice none 0 0] (n * 2)) 47 (0, 0))) (hb : base ≤ g) (hn : n ≤ maxLen) : RwL 47 5 w base (.slice (some ⟨g, 0, none⟩) n n) n (List.replicate n ([], [])) := by
  have hfl : (madeCells #[.slice none 0 0, .slice none 0 0] (n * 2)).toList = fl2 (List.replicate n ((.slice none 0 0 : Value), (.slice none 0 0 : Value))) := by
    apply List.ext_getElem?
    intro i
    by_cases hi : i < n * 2
    · have e1 : (madeCells #[.slice none 0 0, .slice none 0 0] (n * 2)).toList[i]? = some (.slice none 0 0) := by
        rcases Nat.mod_two_eq_zero_or_one i with h | h <;> simp [madeCells, hi, h]
      have hd : i / 2 < n := by omega
      obtain ⟨f1, f2⟩ := fl2_at (vs := List.replicate n ((.slice none 0 0 : Value), (.slice none 0 0 : Value))) (i := i / 2) (u := (.slice none 0 0, .slice none 0 0)) (by rw [List.getElem?_replicate, if_pos hd])
      rw [e1]
      rcases Nat.mod_two_eq_zero_or_one i with h | h
      · rw [show i / 2 * 2 = i by omega] at f1; exact f1.symm
      · rw [show i / 2 * 2 + 1 = i by omega] at f2; exact f2.symm
    · rw [List.getElem?_eq_none (by simp [madeCells]; omega), List.getElem?_eq_none (by rw [fl2_length, List.length_replicate]; omega)]
  refine ⟨List.replicate n (.slice none 0 0, .slice none 0 0), by simp, by simp, ⟨by rw [fl2_length, List.length_replicate], .inr ⟨g, n, _, rfl, hb, hh, Nat.le_refl _, hn, by simp [madeCells], ?_⟩⟩, ?_⟩
  · rw [hfl, List.take_of_length_le (by rw [fl2_length, List.length_replicate]; omega)]
  · intro j u hj
    obtain ⟨h1, h2⟩ := List.getElem?_eq_some_iff.1 hj
    rw [List.length_replicate] at h1
    simp at h2
    subst h2
    exact ⟨([], []), by rw [List.getElem?_replicate, if_pos h1], ⟨none, 0, 0, rfl, rfl, World.ownsRow_nil _ _ _ _⟩, ⟨none, 0, 0, rfl, rfl, World.ownsRow_nil _ _ _ _⟩⟩
theorem fill_step {α : Type} {K : List α} {j n : Nat} {a z : α} (hj : K[j]? = some a) (hn : K.length = n) : (K.take j ++ List.replicate (n - j) z).set j a = K.take (j + 1) ++ List.replicate (n - (j + 1)) z := by
  have hl := (List.getElem?_eq_some_iff.1 hj).1
  have lj : (K.take j).length = j := by rw [List.length_take]; omega
  rw [List.set_append_right _ _ (by omega), lj, Nat.sub_self, List.take_add_one, hj]
  rw [show n - j = (n - (j + 1)) + 1 by omega, List.replicate_succ]
  simp
theorem heap_owns2 {w : World} {base E g n : Nat} {L : List Value} (h : w.ownsRow base E 2 (.slice (some ⟨g, 0, none⟩) n n) n L) : w.heap[g]? = some (.cells L.toArray E (0, 0)) := by
  rcases h.2 with ⟨h1, _⟩ | ⟨g', cap, cur, hv, _, hh, _, _, hs, ht⟩
  · cases h1
  · cases hv
    rw [hh]
    have : cur = L.toArray := by
      rw [← ht, List.take_of_length_le (by simp [hs])]
    rw [this]
set_option maxRecDepth 100000 in
set_option maxHeartbeats 4000000 in
theorem ERows_any (base be k t n : Nat) (v : Value) (K : List Rw) (w : World) (hE : Elm w base be k t v n K) (hr : ∀ r, r ∈ K → Room r.1.length ∧ Room r.2.length) (hn : n ≤ 4096) :
    Calls Tryz.prog 35 #[.pointer (some ⟨be, 0, none⟩)] w fun e w' => ∃ v', e = .returned v' ∧ RwL 47 5 w' w.heap.size v' n K ∧ Below w.heap.size w w' := by
  obtain ⟨r0, hr0, hrz, hr1, hr2⟩ := info_parts info_vrow
  obtain ⟨q, c, rfl⟩ := hE.rows.shape
  have HLEN := Lib.hid hE.rows.len; have HR := Lib.hid hr; have HE := Lib.hid hE
  have HM1 : Hid (n ≤ maxLen) := by show n ≤ maxLen; unfold maxLen; omega
  have HM2 : Hid (48 * n ≤ 281474976710656) := by show 48 * n ≤ _; omega
  obtain ⟨g, hg⟩ : ∃ g, g = w.heap.size := ⟨_, rfl⟩
  have HG := Lib.hid hg
  clear hg
  obtain ⟨f0, f1, f2⟩ := cells3 hE.box
  clear hE hr
  go_enter Tryz.func35, Tryz.ntmps35
  go_wp2_with (at_make; refine wpList_make_full _ rfl _ _ 41 rfl w.heap.size 47 r0 (.agg #[.slice none 0 0, .slice none 0 0]) 2 Tryz.underlying41 hr0 hrz hr1 .i64 .i64 _ _ n rfl rfl rfl rfl (by rw [hr2]; exact HM2.out) HM1.out (by simp) ?_)
  intro w1 ho hg
  have hg' : Below w.heap.size w w1 := (Below.refl _ _).grown hg (by simp) (by simp)
  have RM := heap_owns2 ho
  have R1 : Hid (RwL 47 5 w1 w.heap.size (.slice (some ⟨w.heap.size, 0, none⟩) n n) n (List.replicate n ([], []))) := RwL.made (by simpa using RM) (Nat.le_refl _) HM1.out
  have E1 := Lib.hid (HE.out.keep hg')
  have B1 := Lib.hid hg'
  rw [← HG.out] at R1 ⊢
  clear RM ho hg hg' f0 f1 f2 hr0 hrz hr1 hr2 HM1 HM2
  obtain ⟨f0, f1, f2⟩ := cells3 E1.out.box
  go_wp2
  clear f0 f1 f2
  go_loopw [19] (fun i wr => ∃ j : Nat, j ≤ n ∧ i = .int .i64 j ∧ Hid (RwL 47 5 wr g (.slice (some ⟨g, 0, none⟩) n n) n (K.take j ++ List.replicate (n - j) ([], []))) ∧ Hid (Below g w wr)) (fun i _ => n - (intOf i).toNat)
  case atStart => exact ⟨0, Nat.zero_le _, rfl, by show RwL _ _ _ _ _ _ _; simpa using R1.out, by show Below _ _ _; rw [HG.out]; exact B1.out⟩
  case round =>
    clear R1 E1 B1
    obtain ⟨j, hj, rfl, hR, hB⟩ := hrel
    have hE := Lib.hid (HE.out.keep (w' := wr) (by rw [← HG.out]; exact hB.out))
    by_cases hjl : j < n
    · have jn : (j : Int) < (n : Int) := by omega
      obtain ⟨gs, kk, a1, b1, d1, a2, b2, d2, rfl, e1, e2, hkk, t1, t2⟩ := hE.out.rows.at hjl
      have T1 := Lib.hid t1; have T2 := Lib.hid t2; have HK := Lib.hid hkk.out
      have HRR := Lib.hid (HR.out kk (List.mem_of_getElem? hkk.out))
      clear t1 t2 hkk
      go_wp2_with fail
      clear e1 e2
      refine use_w1 (fun W => Below wr.heap.size wr W) (al (Below.refl _ _) (Nat.le_refl _)) ?_
      rintro w7 b7
      refine Calls.mono (RClone_any a1 a2 b1 d1 b2 d2 kk.1 kk.2 w7 (T1.out.keep b7) (T2.out.keep b7) (by rw [← T1.out.len]; exact HRR.out.1) (by rw [← T2.out.len]; exact HRR.out.2)) ?_
      rintro e w8 ⟨q1, m1, g1, q2, m2, g2, l1, l2, rfl, o1, o2, hb⟩
      have hgs : g ≤ w7.heap.size := Nat.le_trans (by rw [HG.out]; exact hB.out.size) b7.size
      have B8' := Lib.hid (b7.trans (hb.mono b7.size))
      have Y1 : Hid (Bw 5 w8 g (.slice q1 m1 g1) kk.1) := Bw.mk (owns_mono o1 hgs) l1.out
      have Y2 : Hid (Bw 5 w8 g (.slice q2 m2 g2) kk.2) := Bw.mk (owns_mono o2 hgs) l2.out
      have R8 := Lib.hid (hR.out.keep B8'.out)
      have E8 := Lib.hid (hE.out.keep B8'.out)
      have B9 := Lib.hid (hB.out.trans (B8'.out.mono (by rw [HG.out]; exact hB.out.size)))
      obtain ⟨cur, hcur⟩ := R8.out.blk
      have z0 : w8.frozen? ⟨g, j * 2, none⟩ = false := frozen_of_row _ _ _ _ _ hcur
      have z1 : w8.frozen? ⟨g, j * 2 + 1, none⟩ = false := frozen_of_row _ _ _ _ _ hcur
      obtain ⟨gx, kx, x1, xb1, xd1, x2, xb2, xd2, hgx, c1, c2, -, -, -⟩ := R8.out.at hjl
      obtain rfl : g = gx := by injection hgx with h; injection h
      have HP := Lib.hid (R8.out.put (by decide) hjl Y1.out Y2.out)
      have hs8 : g ≤ w8.heap.size := Nat.le_trans hgs hb.size
      clear hcur hgx o1 o2 hb b7 hR hE hB T1 T2 l1 l2 B8' hgs
      rw [fill_step HK.out HLEN.out] at HP
      have BX : Hid (∀ o1 o2 v1 v2, Below g w ((w8.setCell ⟨g, o1, none⟩ v1).setCell ⟨g, o2, none⟩ v2)) := fun o1 o2 v1 v2 => (B9.out.setCell (Nat.le_refl _) _).setCell (Nat.le_refl _) _
      clear B9 E8 R8 hs8
      go_wp2
      go_roundw
      case rel => exact ⟨j + 1, by omega, by go_num, HP.out, BX.out _ _ _ _⟩
      case measure => simp [intOf]; omega
    · have hjn : j = n := by omega
      have hge : (n : Int) ≤ (j : Int) := by omega
      have HF := Lib.hid hR.out
      rw [List.take_of_length_le (by rw [HLEN.out]; omega), hjn, Nat.sub_self, List.replicate_zero, List.append_nil] at HF
      have BF := Lib.hid hB.out
      clear hR hE hB hjn
      go_wp2
      go_ret
      exact ⟨_, rfl, by rw [← HG.out]; exact HF.out, by rw [← HG.out]; exact BF.out⟩
end Go.Proofs.YtcfdopiponlboaaGreatDoor
namespace Go.By
open Go.RowKit
theorem RwL.mono {T2 T1 base b2 n : Nat} {w : World} {v : Value} {K : List (List UInt8 × List UInt8)} (h : RwL T2 T1 w base v n K) (hb : b2 ≤ base) : RwL T2 T1 w b2 v n K := by
  obtain ⟨vs, a, b, o, r⟩ := h
  refine ⟨vs, a, b, ?_, fun j u hj => by obtain ⟨k, hk, g1, g2⟩ := r j u hj; exact ⟨k, hk, g1.mono hb, g2.mono hb⟩⟩
  obtain ⟨q, c, rfl⟩ := owns_shape o
  exact owns_mono o hb
end Go.By
namespace Go.Proofs.YtcfdopiponlboaaGreatDoor
open Go.RowKit Go.By
end Go.Proofs.YtcfdopiponlboaaGreatDoor
namespace Go.By
open Go.RowKit
section
variable {T2 T1 : TypeId} {w w' : World} {base n : Nat} {v : Value} {xss : List (List UInt8)}
theorem Own2.mono {b2 : Nat} (h : Own2 T2 T1 w base v n xss) (hb : b2 ≤ base) : Own2 T2 T1 w b2 v n xss := by
  obtain ⟨vs, a, b, r⟩ := h
  obtain ⟨q, c, rfl⟩ := owns_shape a
  exact ⟨vs, owns_mono a hb, b, fun j u hj => by obtain ⟨xs, q', c', e1, e2, e3⟩ := r j u hj; exact ⟨xs, q', c', e1, e2, owns_mono e3 hb⟩⟩
theorem Own2.made {q : Value} (ho : w.ownsRow base T2 1 q n (madeCells #[Value.slice none 0 0] n).toList) : Own2 T2 T1 w base q n (List.replicate n []) := by
  have e : (madeCells #[Value.slice none 0 0] n).toList = List.replicate n (Value.slice none 0 0) := toList_madeCells_one _ _
  rw [e] at ho
  refine ⟨_, ho, by simp, fun j u hj => ?_⟩
  obtain ⟨h1, h2⟩ := List.getElem?_eq_some_iff.1 hj
  rw [List.length_replicate] at h1
  simp at h2
  exact ⟨[], none, 0, by rw [List.getElem?_replicate, if_pos h1], h2.symm, World.ownsRow_nil _ _ _ _⟩
theorem Own2.put {g c i m c3 : Nat} {q3 : Option Addr} {xs : List UInt8} (h : Own2 T2 T1 w base (.slice (some ⟨g, 0, none⟩) n c) n xss) (hT : T1 ≠ T2) (hi : i < n) (h1 : w.ownsRow base T1 1 (.slice q3 m c3) m (xs.map B8)) :
    Own2 T2 T1 (w.setCell ⟨g, i, none⟩ (.slice q3 m c3)) base (.slice (some ⟨g, 0, none⟩) n c) n (xss.set i xs) := by
  obtain ⟨vs, a, b, r⟩ := h
  have hml : m = xs.length := by have := h1.1; simp at this; exact this.symm
  subst hml
  have hvl : vs.length = n := by simpa using a.1
  have hst := a.stored i (.slice q3 xs.length c3)
  refine ⟨vs.set i (.slice q3 xs.length c3), hst.1, by simp [b], fun j u hj => ?_⟩
  rw [List.getElem?_set] at hj
  by_cases e : i = j
  · subst e
    rw [if_pos rfl, if_pos (by omega)] at hj
    cases hj
    exact ⟨xs, q3, c3, by rw [List.getElem?_set, if_pos rfl, if_pos (by omega)], rfl, owns_kept h1 hst.2 (owns_ne h1 a hT)⟩
  · rw [if_neg e] at hj
    obtain ⟨xs', q', c', e1, e2, e3⟩ := r j u hj
    exact ⟨xs', q', c', by rw [List.getElem?_set, if_neg e]; exact e1, e2, owns_kept e3 hst.2 (owns_ne e3 a hT)⟩
theorem Own2.blk {g c i : Nat} (h : Own2 T2 T1 w base (.slice (some ⟨g, 0, none⟩) n c) n xss) (hi : i < n) : (∃ u, w.cell? ⟨g, i, none⟩ = some u) ∧ w.frozen? ⟨g, i, none⟩ = false ∧ base ≤ g := by
  obtain ⟨vs, a, b, r⟩ := h
  have hvl : vs.length = n := by simpa using a.1
  exact ⟨⟨_, (a.cellAt i (by omega)).trans (List.getElem?_eq_getElem (by omega))⟩, a.frozenAt _, (a.lt g rfl).1⟩
end
end Go.By
namespace Go.Proofs.YtcfdopiponlboaaGreatDoor
open Go.RowKit Go.By
theorem snds_step {K : List Rw} {j n : Nat} {r : Rw} (hj : K[j]? = some r) (hn : K.length = n) : ((K.take j).map (fun x : Rw => x.2) ++ List.replicate (n - j) []).set j r.2 = (K.take (j + 1)).map (fun x : Rw => x.2) ++ List.replicate (n - (j + 1)) [] := by
  have e := fill_step (K := K.map (fun x : Rw => x.2)) (j := j) (n := n) (a := r.2) (z := []) (by rw [List.getElem?_map, hj]; rfl) (by rw [List.length_map]; exact hn)
  rw [List.map_take, List.map_take]; exact e
set_option maxRecDepth 100000 in
set_option maxHeartbeats 4000000 in
theorem ESolve_full (base be k t : Nat) (v : Value) (K : List Rw) (w : World) (hE : Elm w base be k t v k K) (hr : ∀ r, r ∈ K → Room r.2.length) (hk : k ≤ 4096) :
    Calls Tryz.prog 70 #[.pointer (some ⟨be, 0, none⟩)] w fun e w' => ∃ q c, e = .returned (.tuple #[.slice q k c, .int .i64 0]) ∧ Own2 36 5 w' w.heap.size (.slice q k c) k (K.map (·.2)) ∧ Below w.heap.size w w' := by
  obtain ⟨r0, hr0, hrz, hr1, hr2⟩ := info_parts info_rows
  obtain ⟨q, c, rfl⟩ := hE.rows.shape
  have HLEN := Lib.hid hE.rows.len; have HR := Lib.hid hr; have HE := Lib.hid hE
  have HM1 : Hid (k ≤ maxLen) := by show k ≤ maxLen; unfold maxLen; omega
  have HM2 : Hid (24 * k ≤ 281474976710656) := by show 24 * k ≤ _; omega
  obtain ⟨g, hg⟩ : ∃ g, g = w.heap.size := ⟨_, rfl⟩
  have HG := Lib.hid hg
  clear hg
  obtain ⟨n, hn⟩ : ∃ n, n = k := ⟨_, rfl⟩
  have hE' : Elm w base be k t (.slice q n c) n K := by rw [hn]; exact hE
  have hd : ((n : Int) < (k : Int)) = False := by simp; omega
  have hd2 : ¬ n < k := by omega
  have HN := Lib.hid hn
  obtain ⟨f0, f1, f2⟩ := cells3 hE'.box
  clear hE hr hE' hn
  go_enter Tryz.func70, Tryz.ntmps70
  go_wp2_with fail
  refine wp_region_shapes (fun ix => ([.val (.pointer (some ⟨be, 0, none⟩)), .val (.pointer (some ⟨be, 0, none⟩)), .val (.pointer (some ⟨be, 2, none⟩)), .val (.slice q n c), .val (.int .i64 (n : Nat)), .val (.pointer (some ⟨be, 0, none⟩)), .val (.pointer (some ⟨be, 0, none⟩)), .val (.pointer (some ⟨be, 0, none⟩)), .val (.int .i64 k), .val (.bool false)][ix]?).getD (.any)) 42 rfl (by kernel_rfl) (by decide) (by decide) (by decide) ?_ ?_
  · refine ⟨?_, ?_, ?_, ?_, ?_, ?_, ?_, ?_, ?_, ?_, trivial⟩
    · intro a W hb0 hs hp hi; have hb := undrew hb0; clear hb0
      have t0 : sl a 0 = .pointer (some ⟨be, 0, none⟩) := hi 0 (by decide)
      exact ite_y rfl (wp_val (sl a 0) rfl ⟨_, rfl, Below.refl _ _, t0⟩)
    · intro a W hb0 hs hp hi; have hb := undrew hb0; clear hb0
      have tt : sl a 9 = .pointer (some ⟨be, 0, none⟩) := hp 0 (by decide)
      refine ite_y rfl (wp_val (.pointer (some ⟨be, 0, none⟩)) ?_ ?_)
      · simp only [execOp, eval_tmp, tt]; simp [go_sem]
      · exact ⟨_, rfl, Below.refl _ _, rfl⟩
    · intro a W hb0 hs hp hi; have hb := undrew hb0; clear hb0
      have t10 : sl a 10 = .pointer (some ⟨be, 0, none⟩) := hp 1 (by decide)
      refine ite_y rfl (wp_val (.pointer (some ⟨be, 2, none⟩)) ?_ ?_)
      · simp only [execOp, eval_tmp, eval_const, t10]; simp [go_sem]
      · exact ⟨_, rfl, Below.refl _ _, rfl⟩
    · intro a W hb0 hs hp hi; have hb := undrew hb0; clear hb0
      have tt : sl a 11 = .pointer (some ⟨be, 2, none⟩) := hp 2 (by decide)
      have dd := (hb.cell (p := ⟨be, 2, none⟩) (lt_of_cell f2)).trans f2
      refine ite_y rfl (wp_val (.slice q n c) ?_ ?_)
      · simp only [execOp, eval_tmp, tt]; simp [go_sem, dd]
      · exact ⟨_, rfl, Below.refl _ _, rfl⟩
    · intro a W hb0 hs hp hi; have hb := undrew hb0; clear hb0
      have t12 : sl a 12 = .slice q n c := hp 3 (by decide)
      refine ite_y rfl (wp_val (.int .i64 (n : Nat)) ?_ ?_)
      · simp only [execOp, resolve, List.map_toArray, List.map, eval_tmp, eval_func, eval_const, t12]; simp [go_sem]
      · exact ⟨_, rfl, Below.refl _ _, rfl⟩
    · intro a W hb0 hs hp hi; have hb := undrew hb0; clear hb0
      have t0 : sl a 0 = .pointer (some ⟨be, 0, none⟩) := hi 0 (by decide)
      exact ite_y rfl (wp_val (sl a 0) rfl ⟨_, rfl, Below.refl _ _, t0⟩)
    · intro a W hb0 hs hp hi; have hb := undrew hb0; clear hb0
      have tt : sl a 14 = .pointer (some ⟨be, 0, none⟩) := hp 5 (by decide)
      refine ite_y rfl (wp_val (.pointer (some ⟨be, 0, none⟩)) ?_ ?_)
      · simp only [execOp, eval_tmp, tt]; simp [go_sem]
      · exact ⟨_, rfl, Below.refl _ _, rfl⟩
    · intro a W hb0 hs hp hi; have hb := undrew hb0; clear hb0
      have t15 : sl a 15 = .pointer (some ⟨be, 0, none⟩) := hp 6 (by decide)
      refine ite_y rfl (wp_val (.pointer (some ⟨be, 0, none⟩)) ?_ ?_)
      · simp only [execOp, eval_tmp, eval_const, t15]; simp [go_sem]
      · exact ⟨_, rfl, Below.refl _ _, rfl⟩
    · intro a W hb0 hs hp hi; have hb := undrew hb0; clear hb0
      have tt : sl a 16 = .pointer (some ⟨be, 0, none⟩) := hp 7 (by decide)
      have dd := (hb.cell (p := ⟨be, 0, none⟩) (lt_of_cell f0)).trans f0
      refine ite_y rfl (wp_val (.int .i64 k) ?_ ?_)
      · simp only [execOp, eval_tmp, tt]; simp [go_sem, dd]
      · exact ⟨_, rfl, Below.refl _ _, rfl⟩
    · intro a W hb0 hs hp hi; have hb := undrew hb0; clear hb0
      have t13 : sl a 13 = .int .i64 (n : Nat) := hp 4 (by decide)
      have t17 : sl a 17 = .int .i64 k := hp 8 (by decide)
      refine ite_y rfl (wp_val (.bool false) ?_ ?_)
      · simp only [execOp, eval_tmp, eval_const, t13, t17]; simp [go_sem, hd, hd2]
      · exact ⟨_, rfl, Below.refl _ _, rfl⟩
  intro a w3 hb hs hd hI ht
  have ha := act_is [9, 10, 11, 12, 13, 14, 15, 16, 17, 18] hs hd ht (by decide)
  have t18 : sl a 18 = .bool false := hI 9 (by decide)
  simp only [List.foldl, t18] at ha
  generalize sl a 9 = u9 at ha
  generalize sl a 10 = u10 at ha
  generalize sl a 11 = u11 at ha
  generalize sl a 12 = u12 at ha
  generalize sl a 13 = u13 at ha
  generalize sl a 14 = u14 at ha
  generalize sl a 15 = u15 at ha
  generalize sl a 16 = u16 at ha
  generalize sl a 17 = u17 at ha
  simp only [Act.put, List.setIfInBounds_toArray, List.set_cons_zero, List.set_cons_succ] at ha
  rw [ha]
  clear ha hI ht
  have HE3 := Lib.hid (HE.out.keep hb)
  have B3 := Lib.hid hb
  obtain rfl := HN.out
  clear hb f0 f1 f2 hd hd2 HE
  obtain ⟨f0, f1, f2⟩ := cells3 HE3.out.box
  obtain ⟨g, hg⟩ : ∃ g, g = w3.heap.size := ⟨_, rfl⟩
  have HG := Lib.hid hg
  clear hg
  go_wp2_with (at_make; refine wpList_make_full _ rfl _ _ 25 rfl w3.heap.size 36 r0 (.slice none 0 0) 1 Tryz.underlying25 hr0 hrz hr1 .i64 .i64 _ _ n rfl rfl rfl rfl (by rw [hr2]; exact HM2.out) HM1.out (by simp) ?_)
  intro w1 ho hg
  have hg' : Below w3.heap.size w3 w1 := (Below.refl _ _).grown hg (by simp) (by simp)
  have R1 : Hid (Own2 36 5 w1 w3.heap.size (.slice (some ⟨w3.heap.size, 0, none⟩) n n) n (List.replicate n [])) := Own2.made (by simpa using ho)
  have E1 := Lib.hid (HE3.out.keep hg')
  have B1 := Lib.hid hg'
  rw [← HG.out] at R1 ⊢
  clear ho hg hg' f0 f1 f2 hr0 hrz hr1 hr2 HM1 HM2
  obtain ⟨f0, f1, f2⟩ := cells3 E1.out.box
  go_wp2
  clear f0 f1 f2
  go_loopw [29] (fun i wr => ∃ j : Nat, j ≤ n ∧ i = .int .i64 j ∧ Hid (Own2 36 5 wr g (.slice (some ⟨g, 0, none⟩) n n) n ((K.take j).map (·.2) ++ List.replicate (n - j) [])) ∧ Hid (Below g w3 wr)) (fun i _ => n - (intOf i).toNat)
  case atStart => exact ⟨0, Nat.zero_le _, rfl, by show Own2 _ _ _ _ _ _ _; simpa using R1.out, by show Below _ _ _; rw [HG.out]; exact B1.out⟩
  case round =>
    clear R1 E1 B1
    obtain ⟨j, hj, rfl, hR, hB⟩ := hrel
    have hE := Lib.hid (HE3.out.keep (w' := wr) (by rw [← HG.out]; exact hB.out))
    by_cases hjl : j < n
    · have jn : (j : Int) < (n : Int) := by omega
      obtain ⟨gs, kk, a1, b1, d1, a2, b2, d2, rfl, e1, e2, hkk, t1, t2⟩ := hE.out.rows.at hjl
      have T2 := Lib.hid t2; have HK := Lib.hid hkk.out
      have HRR := Lib.hid (HR.out kk (List.mem_of_getElem? hkk.out))
      clear t1 t2 hkk
      go_wp2_with fail
      clear e1 e2
      refine use_w1 (fun W => Below wr.heap.size wr W) (al (Below.refl _ _) (Nat.le_refl _)) ?_
      rintro w7 b7
      refine Calls.mono (CloneB_any a2 b2 d2 kk.2 w7 (T2.out.keep b7) (by rw [← T2.out.len]; exact HRR.out)) ?_
      rintro e w8 ⟨q1, g1, rfl, o1, hb⟩
      have hgs : g ≤ w7.heap.size := Nat.le_trans (by rw [HG.out]; exact hB.out.size) b7.size
      have B8' := Lib.hid (b7.trans (hb.mono b7.size))
      have R8 := Lib.hid (hR.out.keep B8'.out)
      have B9 := Lib.hid (hB.out.trans (B8'.out.mono (by rw [HG.out]; exact hB.out.size)))
      obtain ⟨⟨cu, c1⟩, z0, -⟩ := R8.out.blk hjl
      have HP := Lib.hid (R8.out.put (by decide) hjl (owns_mono o1 hgs))
      have hs8 : g ≤ w8.heap.size := Nat.le_trans hgs hb.size
      clear o1 hb b7 hR hE hB T2 B8' hgs
      rw [snds_step HK.out HLEN.out] at HP
      have BX : Hid (∀ o1 v1, Below g w3 (w8.setCell ⟨g, o1, none⟩ v1)) := fun o1 v1 => B9.out.setCell (Nat.le_refl _) _
      clear B9 R8 hs8
      go_wp2
      go_roundw
      case rel => exact ⟨j + 1, by omega, by go_num, HP.out, BX.out _ _⟩
      case measure => simp [intOf]; omega
    · have hjn : j = n := by omega
      have hge : (n : Int) ≤ (j : Int) := by omega
      have HF := Lib.hid hR.out
      rw [List.take_of_length_le (by rw [HLEN.out]; omega), hjn, Nat.sub_self, List.replicate_zero, List.append_nil] at HF
      have BF : Hid (Below w.heap.size w wr) := B3.out.trans (hB.out.mono (by rw [HG.out]; exact B3.out.size))
      have hsg : w.heap.size ≤ g := by rw [HG.out]; exact B3.out.size
      clear hR hE hB hjn
      go_wp2
      go_ret2
      exact ⟨_, _, rfl, HF.out.mono hsg, BF.out⟩
end Go.Proofs.YtcfdopiponlboaaGreatDoor
namespace Go.By
open Go.RowKit Go.Proofs.YtcfdopiponlboaaGreatDoor
theorem owns_same {w w' : World} {base T k n : Nat} {v : Value} {L : List Value} (h : w.ownsRow base T k v n L) (hs : w.heap.size ≤ w'.heap.size) (hb : ∀ g, v.ownBlock = some g → w'.heap[g]? = w.heap[g]?) : w'.ownsRow base T k v n L := by
  have _ := hs
  refine ⟨h.1, ?_⟩
  rcases h.2 with h1 | ⟨g, cap, cur, e, h1, h2, h3⟩
  · exact .inl h1
  · exact .inr ⟨g, cap, cur, e, h1, (hb g (by rw [e]; rfl)).trans h2, h3⟩
section
variable {w w' : World} {base be k t n : Nat} {v : Value} {K : List Rw}
theorem Chg.blk (h : Chg w w' be v) (hE : Elm w base be k t v n K) {g T : Nat} {cs : Array Value} {fr : Nat × Nat} (hg : w.heap[g]? = some (.cells cs T fr)) (h1 : T ≠ 140) (h2 : v.ownBlock ≠ some g) : w'.heap[g]? = some (.cells cs T fr) := by
  refine (h.block g (blk_lt hg) (fun e => ?_) h2).trans hg
  subst e
  rw [hE.box] at hg; injection hg with hg; injection hg with _ hg _; exact h1 hg.symm
theorem Chg.blk2 (h : Chg w w' be v) (hE : Elm w base be k t v n K) {g T : Nat} {cs : Array Value} {fr : Nat × Nat} (hg : w.heap[g]? = some (.cells cs T fr)) (h1 : T ≠ 140) (h2 : 47 ≠ T) : w'.heap[g]? = some (.cells cs T fr) :=
  h.blk hE hg h1 (hE.rows.ne_box hg h2)
theorem Chg.bw (h : Chg w w' be v) (hE : Elm w base be k t v n K) {b : Nat} {u : Value} {xs : List UInt8} (hu : Bw 5 w b u xs) : Bw 5 w' b u xs := by
  obtain ⟨q, m, c, e, l, o⟩ := hu
  refine ⟨q, m, c, e, l, owns_same o h.size fun g hg => ?_⟩
  rcases o.2 with ⟨e1, _⟩ | ⟨g', cap, cur, e1, _, hh, _⟩
  · rw [e1] at hg; cases hg
  · rw [e1] at hg; cases hg
    rw [h.blk2 hE hh (by decide) (by decide), hh]
theorem Chg.rwl (h : Chg w w' be v) (hE : Elm w base be k t v n K) {b2 n2 : Nat} {v2 : Value} {K2 : List Rw} (h2 : RwL 47 5 w b2 v2 n2 K2) (hne : ∀ g, v2.ownBlock = some g → v.ownBlock ≠ some g) : RwL 47 5 w' b2 v2 n2 K2 := by
  obtain ⟨vs, a, b, o, r⟩ := h2
  refine ⟨vs, a, b, owns_same o h.size fun g hg => ?_, fun j u hj => by obtain ⟨x, hk, g1, g2⟩ := r j u hj; exact ⟨x, hk, h.bw hE g1, h.bw hE g2⟩⟩
  rcases o.2 with ⟨e1, _⟩ | ⟨g', cap, cur, e1, _, hh, _⟩
  · rw [e1] at hg; cases hg
  · have hn := hne g hg
    rw [e1] at hg; cases hg
    rw [h.blk hE hh (by decide) hn, hh]
theorem Chg.elm (h : Chg w w' be v) (hE : Elm w base be k t v n K) {b2 be2 n2 k2 t2 : Nat} {v2 : Value} {K2 : List Rw} (h2 : Elm w b2 be2 k2 t2 v2 n2 K2) (hbe : be2 ≠ be) (hne : ∀ g, v2.ownBlock = some g → v.ownBlock ≠ some g) : Elm w' b2 be2 k2 t2 v2 n2 K2 :=
  ⟨(h.block be2 (blk_lt h2.box) hbe (hE.rows.ne_box h2.box (by decide))).trans h2.box, h.rwl hE h2.rows hne, h2.old⟩
end
end Go.By
namespace Go.Proofs.YtcfdopiponlboaaGreatDoor
open Go.RowKit Go.By
/-- what comes of an equation that fits -/
def codeF (K : List Rw) (x : Rw) : Int := if leadS (restF K x).1 < 0 then (if zeroS (restF K x).2 = true then 1 else 2) else 0
def putK (K : List Rw) (x : Rw) : List Rw := if leadS (restF K x).1 < 0 then K else putF K x
def putD (K D : List Rw) (x : Rw) : List Rw := if leadS (restF K x).1 < 0 then D else D ++ [x]
theorem EPut_fit (base be k t n : Nat) (v : Value) (K : List Rw) (p1 p2 : Option Addr) (c1 c2 : Nat) (x : Rw) (w : World) (hE : Elm w base be k t v n K) (s1 : Sl B8 w p1 k c1 x.1) (s2 : Sl B8 w p2 t c2 x.2) (hR : Red k t K) (hk : k ≤ 4096) (ht : t ≤ 65535) (hnn : n ≤ 4096) :
    Calls Tryz.prog 33 #[.pointer (some ⟨be, 0, none⟩), .agg #[.slice p1 k c1, .slice p2 t c2]] w fun e w' => e = .returned (.tuple #[.int .i64 (codeF K x), .int .i64 0]) ∧
      ∃ v' n', Elm w' base be k t v' n' (putK K x) ∧ Chg w w' be v ∧ (v'.ownBlock = v.ownBlock ∨ ∀ b, v'.ownBlock = some b → w.heap.size ≤ b) := by
  by_cases hn : leadS (restF K x).1 < 0
  · refine (EPut_zero base be k t n v K p1 p2 c1 c2 x w hE s1 s2 hR.kept.rows hk ht hn).mono ?_
    rintro e w' ⟨rfl, hb⟩
    unfold codeF putK
    rw [if_pos hn, if_pos hn]
    exact ⟨rfl, v, n, hE.keep hb, Chg.of be v hb, .inl rfl⟩
  · refine (EPut_grown base be k t n v K p1 p2 c1 c2 x w hE s1 s2 hR hk ht hn hnn).mono ?_
    rintro e w' ⟨rfl, v', h1, h2, h3⟩
    unfold codeF putK
    rw [if_neg hn, if_neg hn]
    exact ⟨rfl, v', n + 1, h1, h2, h3⟩
theorem Sys.putK {n t : Nat} {D K : List Rw} {x : Rw} (h : Sys n t (kD D) K) (hx : Fit n t x) : Sys n t (kD (putD K D x)) (putK K x) := by
  unfold putD Go.Proofs.YtcfdopiponlboaaGreatDoor.putK
  by_cases hn : leadS (restF K x).1 < 0
  · rw [if_pos hn, if_pos hn]; exact h
  · rw [if_neg hn, if_neg hn, kD_snoc]; exact h.put hx hn
theorem incr_ge {l : List Nat} (h : l.Pairwise (· < ·)) : ∀ (i : Nat) (hi : i < l.length), i ≤ l[i]
  | 0, _ => Nat.zero_le _
  | i + 1, hi => by
    have h1 := incr_ge h i (by omega)
    have h2 := List.pairwise_iff_getElem.1 h i (i + 1) (by omega) hi (by omega)
    omega
theorem incr_le {l : List Nat} {B : Nat} (h : l.Pairwise (· < ·)) (hB : ∀ a, a ∈ l → a < B) : ∀ (d i : Nat) (hi : i < l.length), i + d + 1 = l.length → l[i] + d < B
  | 0, i, hi, _ => hB _ (List.getElem_mem hi)
  | d + 1, i, hi, he => by
    have h1 := incr_le h hB d (i + 1) (by omega) (by omega)
    have h2 := List.pairwise_iff_getElem.1 h i (i + 1) hi (by omega) (by omega)
    omega
theorem incr_len {l : List Nat} {B : Nat} (h : l.Pairwise (· < ·)) (hB : ∀ a, a ∈ l → a < B) : l.length ≤ B := by
  rcases Nat.eq_zero_or_pos l.length with h0 | h0
  · omega
  · have h1 := incr_ge h (l.length - 1) (by omega)
    have h2 := hB _ (List.getElem_mem (show l.length - 1 < l.length by omega))
    omega
theorem incr_range {l : List Nat} {B : Nat} (h : l.Pairwise (· < ·)) (hB : ∀ a, a ∈ l → a < B) (hl : l.length = B) : ∀ i, i < B → l[i]? = some i := fun i hi => by
  have hi' : i < l.length := by omega
  have h1 := incr_ge h i hi'
  have h2 := incr_le h hB (B - 1 - i) i hi' (by omega)
  rw [List.getElem?_eq_getElem hi']
  congr 1; omega
/-- a full system: its rows are units -/
theorem full_units {k t : Nat} {K : List Rw} (h : Red k t K) (hl : K.length = k) {i : Nat} {r : Rw} (hr : K[i]? = some r) : r.1 = (List.replicate k 0).set i 1 := by
  have hik : i < k := by have := (List.getElem?_eq_some_iff.1 hr).1; omega
  have hlead : ∀ j, j < k → (K.map leadN)[j]? = some j := incr_range h.leads (B := k) (fun a ha => by
    obtain ⟨x, hx, rfl⟩ := List.mem_map.1 ha
    obtain ⟨hf, hl⟩ := h.kept.rows x hx
    exact hl.at.lt hf) (by rw [List.length_map, hl])
  have hf := (h.kept.rows r (List.mem_of_getElem? hr)).1
  apply List.ext_getElem?
  intro j
  by_cases hj : j < k
  · obtain ⟨s, hs⟩ : ∃ s, K[j]? = some s := ⟨_, List.getElem?_eq_getElem (by omega)⟩
    have hd := h.delta hr hs
    have hls : leadN s = j := by
      have := hlead j hj
      rw [List.getElem?_map, hs] at this
      simpa using this
    rw [hls] at hd
    have e1 := vR_at (x := r) (l := j) hf hj
    rw [hd] at e1
    unfold atS at e1
    rw [if_pos (Int.natCast_nonneg _), Int.toNat_natCast, List.getD_eq_getElem?_getD, List.getElem?_eq_getElem (by rw [hf.1]; exact hj)] at e1
    rw [List.getElem?_eq_getElem (by rw [hf.1]; exact hj), List.getElem?_set]
    by_cases e : i = j
    · rw [if_pos e] at e1
      rw [if_pos e, if_pos (by simpa using hik)]
      simpa using e1
    · rw [if_neg e] at e1
      rw [if_neg e, List.getElem?_replicate, if_pos hj]
      simpa using e1
  · rw [List.getElem?_eq_none (by rw [hf.1]; omega), List.getElem?_eq_none (by simp; omega)]
theorem Red.le {k t : Nat} {K : List Rw} (h : Red k t K) : K.length ≤ k := by
  have := incr_len h.leads (B := k) (fun a ha => by
    obtain ⟨x, hx, rfl⟩ := List.mem_map.1 ha
    obtain ⟨hf, hl⟩ := h.kept.rows x hx
    exact hl.at.lt hf)
  rwa [List.length_map] at this
end Go.Proofs.YtcfdopiponlboaaGreatDoor
namespace Go.Proofs.YtcfdopiponlboaaGreatDoor
open Go.RowKit Go.By
theorem rowF_cons {wd : Nat} {x : List UInt8} {l : List (List UInt8)} (hx : x.length = wd) (i : Nat) : rowF wd (x :: l).flatten (i + 1) = rowF wd l.flatten i := by
  unfold rowF
  rw [List.flatten_cons, Nat.add_mul, Nat.one_mul, Nat.add_comm, ← List.drop_drop, ← hx, List.drop_left]
theorem rows_flat {wd : Nat} : ∀ {xss : List (List UInt8)}, (∀ x, x ∈ xss → x.length = wd) → (List.range xss.length).map (rowF wd xss.flatten) = xss
  | [], _ => rfl
  | x :: l, h => by
    have hx := h x (by simp)
    rw [List.length_cons, List.range_succ_eq_map, List.map_cons, List.map_map]
    congr 1
    · unfold rowF; rw [Nat.zero_mul, List.drop_zero, List.flatten_cons, ← hx, List.take_left]
    · have e : (rowF wd (x :: l).flatten ∘ Nat.succ) = rowF wd l.flatten := by funext i; exact rowF_cons hx i
      rw [e]; exact rows_flat (fun y hy => h y (by simp [hy]))
end Go.Proofs.YtcfdopiponlboaaGreatDoor
namespace Go.Proofs.YtcfdopiponlboaaGreatDoor
open Go.RowKit Go.By
end Go.Proofs.YtcfdopiponlboaaGreatDoor
namespace Go.Proofs.YtcfdopiponlboaaGreatDoor
open Go.RowKit Go.By
end Go.Proofs.YtcfdopiponlboaaGreatDoor
namespace Go.Proofs.YtcfdopiponlboaaGreatDoor
open Go.RowKit Go.By Gf
theorem vf_comb : ∀ (r : List UInt8) (R : List (List UInt8)) (m : Nat) (z : List UInt8), (∀ x, x ∈ R → x.length = m) → z.length = m → ∀ j, vf (combF z r R) j = vf z j ^^^ comb r (R.map vf) j
  | [], R, m, z, _, _, j => by simp [combF, comb_nil']
  | c :: cs, [], m, z, _, _, j => by simp [combF, comb_nil]
  | c :: cs, x :: l, m, z, h, hz, j => by
    have e : combF z (c :: cs) (x :: l) = combF (axpy c x z) cs l := rfl
    have hx : x.length = z.length := by rw [h x (by simp), hz]
    have hl : (axpy c x z).length = m := by
      have := combF_len [c] [x] m (fun y hy => by simp at hy; rw [hy]; exact h x (by simp)) z hz
      exact this
    rw [e, vf_comb cs l m _ (fun y hy => h y (by simp [hy])) hl j, vf_axpy hx, List.map_cons, comb_cons, UInt8.xor_assoc]
theorem range_vf (r : List UInt8) : (List.range r.length).map (vf r) = r := by
  apply List.ext_getElem?
  intro i
  by_cases hi : i < r.length
  · rw [List.getElem?_map, List.getElem?_range hi, List.getElem?_eq_getElem hi]
    simp [vf, hi]
  · rw [List.getElem?_eq_none (by simpa using hi), List.getElem?_eq_none (by simpa using hi)]
theorem vf_zeros (m j : Nat) : vf (List.replicate m 0) j = 0 := vf_zero (fun x hx => (List.mem_replicate.1 hx).2) j
theorem vf_mul {w2 : Nat} {R : List (List UInt8)} {r : List UInt8} (h : ∀ x, x ∈ R → x.length = w2) (hl : r.length = R.length) : vf (mulR w2 R r) = mulV R.length (R.map vf) (vf r) := by
  funext j
  unfold mulR mulV
  rw [vf_comb r R w2 _ h (by simp) j, vf_zeros, ← hl, range_vf, UInt8.zero_xor]
theorem rows_at {wd m : Nat} {L : List (List UInt8)} (h : ∀ x, x ∈ L → x.length = wd) (hm : L.length = m) : (List.range m).map (rowF wd L.flatten) = L := by rw [← hm]; exact rows_flat h
theorem kF_rank {wd m : Nat} {L : List (List UInt8)} (h : ∀ x, x ∈ L → x.length = wd) (hm : L.length = m) : (kF wd L.flatten m).length = (iK L).length := by
  unfold kF iK; rw [rows_at h hm]; exact rank_same L h
end Go.Proofs.YtcfdopiponlboaaGreatDoor
namespace Go.Proofs.YtcfdopiponlboaaGreatDoor
open Go.RowKit Go.By
end Go.Proofs.YtcfdopiponlboaaGreatDoor
namespace Go.Proofs.YtcfdopiponlboaaGreatDoor
open Go.RowKit Go.By
end Go.Proofs.YtcfdopiponlboaaGreatDoor
namespace Go.Proofs.YtcfdopiponlboaaGreatDoor
open Go.RowKit Go.By
end Go.Proofs.YtcfdopiponlboaaGreatDoor
namespace Go.Proofs.YtcfdopiponlboaaGreatDoor
open Go.RowKit Go.By
end Go.Proofs.YtcfdopiponlboaaGreatDoor
namespace Go.Proofs.YtcfdopiponlboaaGreatDoor
open Go.RowKit Go.By
end Go.Proofs.YtcfdopiponlboaaGreatDoor
namespace Go.Proofs.YtcfdopiponlboaaGreatDoor
open Go.RowKit Go.By
end Go.Proofs.YtcfdopiponlboaaGreatDoor
namespace Go.Proofs.YtcfdopiponlboaaGreatDoor
open Go.RowKit Go.By Gf
end Go.Proofs.YtcfdopiponlboaaGreatDoor
namespace Go.Proofs.YtcfdopiponlboaaGreatDoor
open Go.RowKit Go.By Gf
end Go.Proofs.YtcfdopiponlboaaGreatDoor
namespace Go.Proofs.YtcfdopiponlboaaGreatDoor
open Go.RowKit Go.By Gf
/-- the bytes behind the first k are those that the symbols give -/
def ConsV (k : Nat) (B : List V) (v : V) : Prop := ∀ j, v (k + j) = mulV k B v j
theorem mulV_congr {n : Nat} {B : List V} {u v : V} (h : ∀ i, i < n → u i = v i) : mulV n B u = mulV n B v := by
  unfold mulV
  have : (List.range n).map u = (List.range n).map v := List.map_congr_left fun i hi => h i (List.mem_range.1 hi)
  rw [this]
theorem mulV_nought (n : Nat) (B : List V) : mulV n B (fun _ => 0) = fun _ => 0 := lin_zero (mulV_scale n B)
theorem cons_zero (k : Nat) (B : List V) : ConsV k B (fun _ => 0) := fun j => by rw [mulV_nought]
theorem cons_add {k : Nat} {B : List V} {u v : V} (h : ConsV k B u) (g : ConsV k B v) : ConsV k B (fun j => u j ^^^ v j) := fun j => by
  rw [mulV_add]; show u (k + j) ^^^ v (k + j) = _; rw [h j, g j]
theorem cons_scale {k : Nat} {B : List V} {v : V} (x : UInt8) (h : ConsV k B v) : ConsV k B (fun j => gmul x (v j)) := fun j => by
  rw [mulV_scale]; show gmul x (v (k + j)) = _; rw [h j]
theorem cons_comb {k : Nat} {B : List V} : ∀ (c : List UInt8) (A : List V), (∀ a, a ∈ A → ConsV k B a) → ConsV k B (comb c A)
  | [], A, _ => by
    have : comb [] A = fun _ => 0 := by funext j; exact comb_nil' A j
    rw [this]; exact cons_zero k B
  | c :: cs, [], _ => by
    have : comb (c :: cs) [] = fun _ => 0 := by funext j; exact comb_nil _ j
    rw [this]; exact cons_zero k B
  | c :: cs, a :: A, h => by
    have : comb (c :: cs) (a :: A) = fun j => (fun j => gmul c (a j)) j ^^^ comb cs A j := by funext j; exact comb_cons c cs a A j
    rw [this]
    exact cons_add (cons_scale c (h a (by simp))) (cons_comb cs A fun b hb => h b (by simp [hb]))
theorem cons_sp {k : Nat} {B A : List V} {v : V} (h : ∀ a, a ∈ A → ConsV k B a) (hs : Sp A v) : ConsV k B v := by
  obtain ⟨c, _, rfl⟩ := hs; exact cons_comb c A h
/-- a row and what the symbols give of it -/
def rowC (n : Nat) (FX : List (List UInt8)) (w : List UInt8) : Rw := (w, mulR n FX w)
theorem rowC_fit {k n : Nat} {FX : List (List UInt8)} {w : List UInt8} (hF : ∀ x, x ∈ FX → x.length = n) (hw : w.length = k) : Fit k n (rowC n FX w) := ⟨hw, mulR_len hF w⟩
theorem vR_right {k n j : Nat} {r : Rw} (hf : Fit k n r) : vR r (k + j) = vf r.2 j := by
  unfold vR vf cat
  rw [List.getD_eq_getElem?_getD, List.getElem?_append_right (by rw [hf.1]; omega), hf.1, Nat.add_sub_cancel_left, List.getD_eq_getElem?_getD]
theorem vR_left {k n j : Nat} {r : Rw} (hf : Fit k n r) (hj : j < k) : vR r j = vf r.1 j := vf_app_left (by rw [hf.1]; exact hj)
theorem rowC_cons {k n : Nat} {FX : List (List UInt8)} {w : List UInt8} (hF : ∀ x, x ∈ FX → x.length = n) (hk : FX.length = k) (hw : w.length = k) : ConsV k (FX.map vf) (vR (rowC n FX w)) := fun j => by
  have hf := rowC_fit hF hw
  rw [vR_right hf]
  show vf (mulR n FX w) j = _
  rw [vf_mul hF (by rw [hw, hk]), hk]
  exact congrFun (mulV_congr fun i hi => (vR_left hf hi).symm) j
/-- what is left of a row that holds: it holds; without a first byte nothing is left -/
theorem rest_cons {k n : Nat} {B : List V} {K : List Rw} {x : Rw} (h : KeptS k n K) (hx : Fit k n x) (hK : ∀ r, r ∈ K → ConsV k B (vR r)) (hc : ConsV k B (vR x)) : ConsV k B (vR (restF K x)) := by
  have rK : vR (restF K x) = red (tri K) (vR x) := rest_red h.rows hx
  have s := red_span (tri K) (vR x)
  rw [tri_fst] at s
  have e : vR (restF K x) = fun j => vR x j ^^^ (vR x j ^^^ red (tri K) (vR x) j) := by
    funext j; rw [rK, ← xor_assoc, xor_self, zero_xor]
  rw [e]
  exact cons_add hc (cons_sp (fun a ha => by obtain ⟨r, hr, rfl⟩ := List.mem_map.1 ha; exact hK r hr) s)
theorem rest_nought {k n : Nat} {B : List V} {K : List Rw} {x : Rw} (h : KeptS k n K) (hx : Fit k n x) (hK : ∀ r, r ∈ K → ConsV k B (vR r)) (hc : ConsV k B (vR x)) (hl : leadS (restF K x).1 < 0) : (∀ j, vR (restF K x) j = 0) ∧ Sp (K.map vR) (vR x) := by
  have hf := hx.rest (fun r hr => (h.rows r hr).1)
  have h0 := vf_zero (leadS_neg hl)
  have hz : ∀ j, vR (restF K x) j = 0 := fun j => by
    by_cases hj : j < k
    · rw [vR_left hf hj]; exact h0 j
    · have h1 := rest_cons h hx hK hc (j - k)
      rw [show k + (j - k) = j by omega] at h1
      rw [h1, mulV_congr (v := fun _ => 0) (fun i hi => by rw [vR_left hf hi]; exact h0 i), mulV_nought]
  refine ⟨hz, ?_⟩
  have rK : vR (restF K x) = red (tri K) (vR x) := rest_red h.rows hx
  have s := red_span (tri K) (vR x)
  rw [tri_fst] at s
  have e : vR x = fun j => vR x j ^^^ red (tri K) (vR x) j := by
    funext j; rw [← rK, hz j, xor_zero]
  rw [e]; exact s
/-- the rows kept span those that came -/
structure Spn (k n : Nat) (B : List V) (X K0 : List Rw) : Prop where
  kept : KeptS k n K0
  fit : ∀ x, x ∈ X → Fit k n x
  cons : ∀ x, x ∈ X → ConsV k B (vR x)
  le : ∀ r, r ∈ K0 → Sp (X.map vR) (vR r)
  ge : ∀ x, x ∈ X → Sp (K0.map vR) (vR x)
theorem Spn.nil (k n : Nat) (B : List V) : Spn k n B [] [] := ⟨KeptS.nil k n, fun x h => by simp at h, fun x h => by simp at h, fun x h => by simp at h, fun x h => by simp at h⟩
theorem Spn.consK {k n : Nat} {B : List V} {X K0 : List Rw} (h : Spn k n B X K0) : ∀ r, r ∈ K0 → ConsV k B (vR r) := fun r hr =>
  cons_sp (fun a ha => by obtain ⟨x, hx, rfl⟩ := List.mem_map.1 ha; exact h.cons x hx) (h.le r hr)
theorem Spn.snoc {k n : Nat} {B : List V} {X K0 : List Rw} {x : Rw} (h : Spn k n B X K0) (hx : Fit k n x) (hc : ConsV k B (vR x)) : Spn k n B (X ++ [x]) (insF K0 x) := by
  have memX : ∀ a, a ∈ X.map vR → a ∈ (X ++ [x]).map vR := fun a ha => by rw [List.map_append]; exact List.mem_append.2 (.inl ha)
  have lastX : vR x ∈ (X ++ [x]).map vR := by simp
  refine ⟨h.kept.step hx, fun y hy => ?_, fun y hy => ?_, fun r hr => ?_, fun y hy => ?_⟩
  · rcases List.mem_append.1 hy with hy | hy
    · exact h.fit y hy
    · rw [List.mem_singleton] at hy; rw [hy]; exact hx
  · rcases List.mem_append.1 hy with hy | hy
    · exact h.cons y hy
    · rw [List.mem_singleton] at hy; rw [hy]; exact hc
  · by_cases hl : leadS (restF K0 x).1 < 0
    · have e : insF K0 x = K0 := by unfold insF; rw [norm_leadS, if_pos hl]
      rw [e] at hr
      exact Sp.sub memX (h.le r hr)
    · refine Sp.trans (fun a ha => ?_) ((insF_span h.kept hx hl).1 r hr)
      rcases List.mem_cons.1 ha with rfl | ha
      · exact Sp.mem lastX
      · obtain ⟨q, hq, rfl⟩ := List.mem_map.1 ha
        exact Sp.sub memX (h.le q hq)
  · by_cases hl : leadS (restF K0 x).1 < 0
    · have e : insF K0 x = K0 := by unfold insF; rw [norm_leadS, if_pos hl]
      rw [e]
      rcases List.mem_append.1 hy with hy | hy
      · exact h.ge y hy
      · rw [List.mem_singleton] at hy; rw [hy]; exact (rest_nought h.kept hx h.consK hc hl).2
    · obtain ⟨i1, i2, i3⟩ := insF_span h.kept hx hl
      rcases List.mem_append.1 hy with hy | hy
      · refine Sp.trans (fun a ha => ?_) (h.ge y hy)
        obtain ⟨q, hq, rfl⟩ := List.mem_map.1 ha
        exact i2 q hq
      · rw [List.mem_singleton] at hy; rw [hy]; exact i3
theorem Spn.all {k n : Nat} {B : List V} : ∀ (Y : List Rw) {X K0 : List Rw}, Spn k n B X K0 → (∀ x, x ∈ Y → Fit k n x ∧ ConsV k B (vR x)) → Spn k n B (X ++ Y) (Y.foldl insF K0)
  | [], X, K0, h, _ => by rw [List.append_nil]; exact h
  | y :: Y, X, K0, h, hy => by
    have := Spn.all Y (h.snoc (hy y (by simp)).1 (hy y (by simp)).2) (fun x hx => hy x (by simp [hx]))
    rw [List.append_assoc] at this
    exact this
theorem spn_kD {k n : Nat} {B : List V} {Y : List Rw} (h : ∀ x, x ∈ Y → Fit k n x ∧ ConsV k B (vR x)) : Spn k n B Y (kD Y) := by
  have := Spn.all Y (Spn.nil k n B) h
  rwa [List.nil_append] at this
/-- a system of all that came, also of what added nothing -/
theorem Sys.putX {k n : Nat} {D K : List Rw} {x : Rw} (h : Sys k n (kD D) K) (hx : Fit k n x) : Sys k n (kD (D ++ [x])) (Go.Proofs.YtcfdopiponlboaaGreatDoor.putK K x) := by
  rw [kD_snoc]
  unfold Go.Proofs.YtcfdopiponlboaaGreatDoor.putK
  by_cases hn : leadS (restF K x).1 < 0
  · have e : insF (kD D) x = kD D := by unfold insF; rw [norm_leadS, h.rest hx, if_pos hn]
    rw [if_pos hn, e]; exact h
  · rw [if_neg hn]; exact h.put hx hn
/-- equations that hold never clash -/
theorem sys_code {k n : Nat} {B : List V} {X K : List Rw} {x : Rw} (h : Sys k n (kD X) K) (hX : ∀ y, y ∈ X → Fit k n y ∧ ConsV k B (vR y)) (hx : Fit k n x) (hc : ConsV k B (vR x)) (hl : leadS (restF K x).1 < 0) : zeroS (restF K x).2 = true := by
  have s := spn_kD hX
  have e := h.rest hx
  rw [← e] at hl ⊢
  have hz := (rest_nought h.kept hx s.consK hc hl).1
  have hf := hx.rest (fun r hr => (h.kept.rows r hr).1)
  unfold zeroS
  rw [List.all_eq_true]
  intro b hb
  obtain ⟨j, hj, rfl⟩ := List.getElem_of_mem hb
  have h1 := hz (k + j)
  rw [vR_right hf] at h1
  unfold vf at h1
  rw [List.getD_eq_getElem?_getD, List.getElem?_eq_getElem hj] at h1
  simpa using h1
/-- rows without data -/
def prR (r : Rw) : Rw := (r.1, [])
theorem rest_pr : ∀ (K : List Rw) (x : Rw), restF (K.map prR) (prR x) = prR (restF K x)
  | [], _ => rfl
  | a :: K, x => by
    have h := rest_pr K (lessF x (atS x.1 (leadS a.1)) a)
    unfold restF at h ⊢
    rw [List.map_cons, List.foldl_cons, List.foldl_cons, ← h]
    rfl
theorem norm_pr (r : Rw) : normS (prR r) = prR (normS r) := by
  unfold normS prR
  simp only
  split <;> simp
theorem ins_pr (K : List Rw) (x : Rw) : insF (K.map prR) (prR x) = (insF K x).map prR := by
  unfold insF
  rw [rest_pr, norm_pr]
  show (if leadS (normS (restF K x)).1 < 0 then _ else _) = _
  by_cases hl : leadS (normS (restF K x)).1 < 0
  · rw [if_pos hl, if_pos hl]
  · rw [if_neg hl, if_neg hl, List.map_append, List.map_cons, List.takeWhile_map, List.dropWhile_map]
    rfl
theorem kD_pr : ∀ (X : List Rw) (K : List Rw), (X.map (fun x : Rw => x.1)).foldl (fun K r => insF K (r, [])) (K.map prR) = (X.foldl insF K).map prR
  | [], _ => rfl
  | x :: X, K => by
    rw [List.map_cons, List.foldl_cons, List.foldl_cons, ← kD_pr X (insF K x), ← ins_pr]
    rfl
theorem sys_rank {k n : Nat} {X K : List Rw} (h : Sys k n (kD X) K) : K.length = (iK (X.map (fun x : Rw => x.1))).length := by
  have h1 := kD_pr X []
  unfold iK
  rw [show ([] : List Rw) = ([] : List Rw).map prR from rfl, h1, List.length_map, h.same]
  unfold redL kD
  rw [List.length_map, List.length_range]
/-- a full system's data are the symbols -/
theorem sys_full {k n : Nat} {FX : List (List UInt8)} {X K : List Rw} (h : Sys k n (kD X) K) (hX : ∀ y, y ∈ X → Fit k n y ∧ ConsV k (FX.map vf) (vR y)) (hF : ∀ x, x ∈ FX → x.length = n) (hk : FX.length = k) (hl : K.length = k) {i : Nat} {r : Rw} {f : List UInt8} (hr : K[i]? = some r) (hf : FX[i]? = some f) : r.2 = f := by
  have hu := full_units h.red hl hr
  obtain ⟨hfit, -⟩ := h.red.kept.rows r (List.mem_of_getElem? hr)
  have s := spn_kD hX
  obtain ⟨-, r2, -, -⟩ := redL_red h.kept
  rw [← h.same] at r2
  have hc : ConsV k (FX.map vf) (vR r) := cons_sp (fun a ha => by obtain ⟨q, hq, rfl⟩ := List.mem_map.1 ha; exact s.consK q hq) (r2 r (List.mem_of_getElem? hr))
  have hik : i < k := by have := (List.getElem?_eq_some_iff.1 hr).1; omega
  refine vf_inj (by rw [hfit.2, hF f (List.mem_of_getElem? hf)]) fun j hj => ?_
  have h1 := hc j
  rw [vR_right hfit] at h1
  rw [h1, mulV_congr (v := unit i) (fun a ha => ?_), mulV_unit (b := vf f) (by rw [List.length_map, hk]) (by rw [List.getElem?_map, hf]; rfl)]
  rw [vR_left hfit ha, hu]
  unfold vf unit
  rw [List.getD_eq_getElem?_getD, List.getElem?_set]
  by_cases e : i = a
  · subst e; rw [if_pos rfl, if_pos (by simpa using hik), if_pos rfl]; rfl
  · rw [if_neg e, if_neg e, List.getElem?_replicate, if_pos ha]; rfl
end Go.Proofs.YtcfdopiponlboaaGreatDoor
namespace Go.By
open Go.RowKit
/-- all below m are waited for (by one at most m), and each behind m waits for the one ahead of it -/
def tailB (ops : Array Oper) (m : Nat) : Bool := decide (m < ops.size) && ((List.range m).all fun i => (List.range (m + 1)).any fun j => decide (i < j) && match ops[j]? with
  | some o => (preds o).contains i
  | none => false) && (List.range ops.size).all fun j => !decide (m < j) || match ops[j]? with
  | some o => (preds o).contains (j - 1)
  | none => false
theorem wpOp_of_list {P : Program} {ops : Array Oper} {Q : Exit → Act → World → Prop} {k : Nat} {a : Act} {w : World} {K : Act → World → Prop} (hk : k < ops.size) (h : wpList P ops Q (ops.toList.drop k) a w) (hK : ∀ a w, wpList P ops Q (ops.toList.drop (k + 1)) a w → K a w) : wpOp P ops Q k K a w := by
  have e : ops.toList.drop k = ops[k] :: ops.toList.drop (k + 1) := by
    rw [List.drop_eq_getElem_cons (by simpa using hk)]; simp
  rw [e] at h
  unfold wpOp
  rw [Array.getElem?_eq_getElem hk]
  show if Region.wanted ops[k] (yielded ops a.tmps) = true then _ else _
  unfold wpList at h
  split at h
  · rename_i hw; rw [if_pos hw]; exact h.imp (Oper.wp_mono hK) id
  · rename_i hw; rw [if_neg hw]; exact hK _ _ h
theorem getD_both {listed : Array Bool} {i : Nat} (h2 : listed.getD i true = false) : listed.getD i false ≠ true ∧ i < listed.size := by
  rcases Nat.lt_or_ge i listed.size with h | h
  · refine ⟨fun hx => ?_, h⟩
    simp [Array.getD_eq_getD_getElem?, h] at h2 hx; rw [h2] at hx; cases hx
  · simp [Array.getD_eq_getD_getElem?, Array.getElem?_eq_none h] at h2
theorem wpAny_tail {P : Program} {ops : Array Oper} {Q : Exit → Act → World → Prop} {m : Nat} (hback : backB ops = true)
    (hchain : ∀ j o, m < j → ops[j]? = some o → (preds o).contains (j - 1) = true) :
    ∀ (fuel k : Nat) (listed : Array Bool) (a : Act) (w : World), m ≤ k → unl ops.size listed ≤ fuel → (∀ j, j < k → j < ops.size → listed.getD j false = true ∧ listed.getD j true = true) → (∀ j, k ≤ j → j < ops.size → listed.getD j true = false) →
      wpList P ops Q (ops.toList.drop k) a w → wpAny P .any ops Q fuel listed a w := by
  intro fuel
  induction fuel with
  | zero =>
    intro k listed a w hmk hu hlo hhi h
    rcases Nat.lt_or_ge k ops.size with hk | hk
    · exfalso
      have h0 : unl ops.size listed = 0 := by omega
      unfold unl at h0
      have := List.countP_eq_zero.1 h0 k (List.mem_range.2 hk)
      simp [hhi k (Nat.le_refl _) hk] at this
    · rw [List.drop_eq_nil_of_le (by simpa using hk)] at h
      exact wpAny_done _ (fun j hj => (hlo j (by omega) hj).2) h
  | succ fuel ih =>
    intro k listed a w hmk hu hlo hhi h
    rcases Nat.lt_or_ge k ops.size with hk | hk
    · refine ⟨fun hr => ?_, fun i hi => ?_⟩
      · exfalso
        have : k ∈ Region.ready .any ops listed := mem_ready.2 ⟨hk, hhi k (Nat.le_refl _) hk, _, Array.getElem?_eq_getElem hk, fun q hq => by
          have hbk := List.all_eq_true.1 hback k (List.mem_range.2 hk)
          rw [Array.getElem?_eq_getElem hk] at hbk
          have hkj := of_decide_eq_true (List.all_eq_true.1 hbk q hq)
          exact (hlo q (by omega) (by omega)).1⟩
        rw [hr] at this; cases this
      · obtain ⟨h1, h2, o, ho, h3⟩ := mem_ready.1 hi
        obtain ⟨hnl, his⟩ := getD_both h2
        have hki : k ≤ i := by
          rcases Nat.lt_or_ge i k with hx | hx
          · exact absurd (hlo i hx h1).1 hnl
          · exact hx
        have hik : i = k := by
          rcases Nat.eq_or_lt_of_le hki with hx | hx
          · exact hx.symm
          · exfalso
            have := h3 (i - 1) (by simpa using hchain i o (by omega) ho)
            have h5 := hhi (i - 1) (by omega) (by omega)
            exact (getD_both h5).1 this
        subst hik
        have gset : ∀ j (d : Bool), (listed.setIfInBounds i true).getD j d = if i = j then true else listed.getD j d := by
          intro j d
          simp only [Array.getD_eq_getD_getElem?, Array.getElem?_setIfInBounds]
          by_cases e : i = j
          · subst e; simp [his]
          · simp [e]
        refine wpOp_of_list h1 h fun a' w' h' => ih (i + 1) _ a' w' (by omega) (by have := unl_set (n := ops.size) h1 h2; omega) (fun j hj hjs => ?_) (fun j hj hjs => ?_) h'
        · rw [gset, gset]
          by_cases e : i = j
          · rw [if_pos e, if_pos e]; exact ⟨rfl, rfl⟩
          · rw [if_neg e, if_neg e]; exact hlo j (by omega) hjs
        · rw [gset, if_neg (by omega)]; exact hhi j (by omega) hjs
    · rw [List.drop_eq_nil_of_le (by simpa using hk)] at h
      exact wpAny_done _ (fun j hj => (hlo j (by omega) hj).2) h
theorem wp_region_tail {P : Program} {ops : Array Oper} {Q : Exit → Act → World → Prop} {id : Nat} {a0 : Act} {w0 : World} (sh : Nat → Shp) (n m : Nat) (hn : a0.tmps.size = n) (hm : P.follows .mixedOrders = true) (hback : backB ops = true) (hdist : distB ops = true)
    (htail : tailB ops m = true) (hdsts : dstsB (ops.extract 0 m) n = true)
    (each : EachS P ops Q a0 w0.drew sh (ops.toList.take m) 0)
    (fin : ∀ a w, Below w0.heap.size w0 w → a.tmps.size = a0.tmps.size → a.defers = a0.defers → (∀ j, j < m → InvS ops sh j (sl a) w) → (∀ t, (ops.toList.all fun o => o.dst != some t) = true → sl a t = sl a0 t) → wpList P ops Q (ops.toList.drop m) a w) :
    (Code.region id ops true).wp P Q a0 w0 := by
  unfold tailB at htail
  simp only [Bool.and_eq_true, decide_eq_true_eq] at htail
  obtain ⟨⟨hm', htl⟩, hch⟩ := htail
  have hchain : ∀ j o, m < j → ops[j]? = some o → (preds o).contains (j - 1) = true := fun j o hj ho => by
    have := List.all_eq_true.1 hch j (List.mem_range.2 (Array.getElem?_eq_some_iff.1 ho).1)
    rw [ho] at this
    simpa [hj] using this
  have hpl : ∀ i, i < m → ∃ j o, i < j ∧ j ≤ m ∧ ops[j]? = some o ∧ i ∈ preds o := fun i hi => by
    obtain ⟨j, hj, h⟩ := List.any_eq_true.1 (List.all_eq_true.1 htl i (List.mem_range.2 hi))
    have hjm := List.mem_range.1 hj
    rw [Bool.and_eq_true] at h
    obtain ⟨oj, hoj⟩ : ∃ oj, ops[j]? = some oj := ⟨_, Array.getElem?_eq_getElem (by omega)⟩
    have h2 := h.2
    rw [hoj] at h2
    exact ⟨j, oj, of_decide_eq_true h.1, by omega, hoj, by simpa using h2⟩
  have hE := each_of (Q := Q) (P := P) (a0 := a0) (W0 := w0.drew) (sh := sh) hn (ops.toList.take m) 0 (fun j o hj => by
      rw [List.getElem?_take] at hj; split at hj
      · simpa using hj
      · cases hj) (by
      unfold dstsB at hdsts
      have e : (ops.extract 0 m).toList = ops.toList.take m := by simp
      rw [e] at hdsts; exact hdsts) each
  have stepAt : ∀ i o, i < m → ops[i]? = some o → StepOf P ops Q a0 w0.drew (fun W w => Below W.heap.size W w) (fun _ w w' => Below w.heap.size w w') (InvS ops sh) i o := fun i o hi ho => by
    have := Each.get _ 0 hE i o (by rw [List.getElem?_take, if_pos hi]; simpa using ho)
    rwa [Nat.zero_add] at this
  have stable : ∀ i j oi oj (σ σ' : Nat → Value) w w', i ≠ j → ops[i]? = some oi → ops[j]? = some oj → InvS ops sh j σ w → Below w.heap.size w w' → (∀ t, oi.dst ≠ some t → σ' t = σ t) → InvS ops sh j σ' w' := by
    intro i j oi oj σ σ' w w' hij hoi hoj hI hR hσ
    unfold InvS at hI ⊢
    cases hdj : dstOf ops j with
    | none => trivial
    | some d =>
      rw [hdj] at hI
      show (sh j).ok (σ' d) w'
      have hne : oi.dst ≠ some d := by
        intro e
        have hi' : i < ops.size := (Array.getElem?_eq_some_iff.1 hoi).1
        have hj' : j < ops.size := (Array.getElem?_eq_some_iff.1 hoj).1
        have := List.all_eq_true.1 (List.all_eq_true.1 hdist i (List.mem_range.2 hi')) j (List.mem_range.2 hj')
        rw [hoi, hoj] at this
        have hdj' : oj.dst = some d := by simpa [dstOf, hoj] using hdj
        simp [e, hdj', hij] at this
      rw [hσ d hne]
      exact (sh j).keep _ _ _ hI hR
  refine wp_region_any hm ?_
  show wpAny P .any ops Q ops.size (Array.replicate ops.size false) a0 w0.drew
  have main : ∀ (fuel : Nat) (listed : Array Bool) (a : Act) (w : World), unl ops.size listed ≤ fuel → listed.getD m true = false → Below w0.heap.size w0 w → a.tmps.size = a0.tmps.size → a.defers = a0.defers →
      (∀ j o, listed.getD j false = true → ops[j]? = some o → ∀ k, k ∈ preds o → listed.getD k false = true) →
      (∀ j, j < ops.size → listed.getD j true = true → listed.getD j false = true) →
      (∀ j, j < m → listed.getD j false = true → InvS ops sh j (sl a) w) →
      (∀ t, (∀ j o, j < m → listed.getD j false = true → ops[j]? = some o → o.dst ≠ some t) → sl a t = sl a0 t) → wpAny P .any ops Q fuel listed a w := by
    intro fuel
    induction fuel with
    | zero =>
      intro listed a w hu hlm
      exfalso
      have h0 : unl ops.size listed = 0 := by omega
      unfold unl at h0
      have := List.countP_eq_zero.1 h0 m (List.mem_range.2 hm')
      simp [hlm] at this
    | succ fuel ih =>
      intro listed a w hu hlm hEw hs hd hcl hlt hI ht
      have hup : ∀ d j, j = m + d → j < ops.size → listed.getD j false = true → False := by
        intro d
        induction d with
        | zero => intro j e hj hl; rw [show j = m by omega] at hl; exact (getD_both hlm).1 hl
        | succ d ihd =>
          intro j e hj hl
          have hoj : ops[j]? = some ops[j] := Array.getElem?_eq_getElem hj
          exact ihd (j - 1) (by omega) (by omega) (hcl j _ hl hoj (j - 1) (by simpa using hchain j _ (by omega) hoj))
      refine ⟨fun hr => ?_, fun i hi => ?_⟩
      · exfalso
        have hall : ∀ k j, j < k → j < ops.size → listed.getD j false = true := by
          intro k
          induction k with
          | zero => intro j hj; omega
          | succ k ihk =>
            intro j hj hjs
            refine hlt j hjs ?_
            cases hb : listed.getD j true with
            | true => rfl
            | false =>
              exfalso
              have ho : ops[j]? = some ops[j] := Array.getElem?_eq_getElem hjs
              have : j ∈ Region.ready .any ops listed := mem_ready.2 ⟨hjs, hb, _, ho, fun q hq => by
                have hbk := List.all_eq_true.1 hback j (List.mem_range.2 hjs)
                rw [ho] at hbk
                have hkj := of_decide_eq_true (List.all_eq_true.1 hbk q hq)
                exact ihk q (by omega) (by omega)⟩
              rw [hr] at this; cases this
        have hx := hall (m + 1) m (by omega) hm'
        rcases Nat.lt_or_ge m listed.size with h | h
        · simp [Array.getD_eq_getD_getElem?, h] at hlm hx; rw [hlm] at hx; cases hx
        · simp [Array.getD_eq_getD_getElem?, Array.getElem?_eq_none h] at hx
      · obtain ⟨h1, h2, o, ho, h3⟩ := mem_ready.1 hi
        have hnl : listed.getD i false ≠ true := by
          intro hx
          rcases Nat.lt_or_ge i listed.size with h | h
          · simp [Array.getD_eq_getD_getElem?, h] at h2 hx; rw [h2] at hx; cases hx
          · simp [Array.getD_eq_getD_getElem?, Array.getElem?_eq_none h] at hx
        have his : i < listed.size := by
          rcases Nat.lt_or_ge i listed.size with h | h
          · exact h
          · simp [Array.getD_eq_getD_getElem?, Array.getElem?_eq_none h] at h2
        have gset : ∀ j (d : Bool), (listed.setIfInBounds i true).getD j d = if i = j then true else listed.getD j d := by
          intro j d
          simp only [Array.getD_eq_getD_getElem?, Array.getElem?_setIfInBounds]
          by_cases e : i = j
          · subst e; simp [his]
          · simp [e]
        by_cases him : i = m
        · subst him
          have hol : ops[i]? = some o := ho
          have hdown : ∀ d j, i - j ≤ d → j < i → listed.getD j false = true := by
            intro d
            induction d with
            | zero => intro j h4 h5; omega
            | succ d ihd =>
              intro j h4 h5
              obtain ⟨j2, o2, g1, g2, g3, g4⟩ := hpl j h5
              by_cases e : j2 = i
              · subst e; rw [hol] at g3; cases g3; exact h3 j g4
              · exact hcl j2 o2 (ihd j2 (by omega) (by omega)) g3 j g4
          have hdn : ∀ j, j < i → listed.getD j false = true := fun j hj => hdown i j (by omega) hj
          have hf := fin a w hEw hs hd (fun j hj => hI j hj (hdn j hj)) (fun t htt => ht t (fun j oj hj _ hoj => by
            have := List.all_eq_true.1 htt oj (by rw [Array.mem_toList_iff]; exact Array.mem_of_getElem? hoj)
            simpa using this))
          refine wpOp_of_list h1 hf fun a' w' h' => wpAny_tail (m := i) hback hchain fuel (i + 1) _ a' w' (by omega) (by have := unl_set (n := ops.size) h1 h2; omega) (fun j hj hjs => ?_) (fun j hj hjs => ?_) h'
          · rw [gset, gset]
            by_cases e : i = j
            · rw [if_pos e, if_pos e]; exact ⟨rfl, rfl⟩
            · rw [if_neg e, if_neg e]
              have hjl := hdn j (by omega)
              refine ⟨hjl, ?_⟩
              cases hb : listed.getD j true with
              | true => rfl
              | false => exact absurd hjl (getD_both hb).1
          · rw [gset, if_neg (by omega)]
            cases hb : listed.getD j true with
            | false => rfl
            | true => exact (hup (j - i) j (by omega) hjs (hlt j hjs hb)).elim
        · have him' : i < m := by
            rcases Nat.lt_or_ge i m with hx | hx
            · exact hx
            · exact (hup (i - 1 - m) (i - 1) (by omega) (by omega) (h3 (i - 1) (by simpa using hchain i o (by omega) ho))).elim
          have hst := stepAt i o him' ho
          have hst' := hst a w ⟨hEw.os, hEw.tape, hEw.output, hEw.size, hEw.block⟩ hs (fun k hk => hI k (by
              have hbk := List.all_eq_true.1 hback i (List.mem_range.2 h1)
              rw [ho] at hbk
              have := of_decide_eq_true (List.all_eq_true.1 hbk k hk); omega) (h3 k hk)) (fun t hti => by
            refine ht t (fun j oj hj hlj hoj hdj => ?_)
            have := List.all_eq_true.1 hti j (List.mem_range.2 (by omega))
            rw [hoj] at this
            by_cases e : j = i
            · subst e; exact hnl hlj
            · simp [e, hdj] at this
              exact hnl (hcl j oj hlj hoj i this))
          have next : ∀ (v : Value) (w' : World), Below w.heap.size w w' → InvS ops sh i (sl (a.put o.dst v)) w' → wpAny P .any ops Q fuel (listed.setIfInBounds i true) (a.put o.dst v) w' := by
            intro v w' hR hIi
            refine ih _ _ _ (by have := unl_set (n := ops.size) h1 h2; omega) (by rw [gset, if_neg him]; exact hlm) (hEw.trans (hR.mono hEw.size)) ((put_size _ _ _).trans hs) ((put_defers _ _ _).trans hd) ?_ ?_ ?_ ?_
            · intro j oj hj hoj k hk
              rw [gset] at hj ⊢
              by_cases e : i = k
              · rw [if_pos e]
              · rw [if_neg e]
                by_cases e' : i = j
                · subst e'; rw [ho] at hoj; cases hoj; exact h3 k hk
                · rw [if_neg e'] at hj; exact hcl j oj hj hoj k hk
            · intro j hj hl
              rw [gset] at hl ⊢
              by_cases e : i = j
              · rw [if_pos e]
              · rw [if_neg e] at hl ⊢; exact hlt j hj hl
            · intro j hj hl
              rw [gset] at hl
              by_cases e : i = j
              · subst e; exact hIi
              · rw [if_neg e] at hl
                have hoj : ops[j]? = some ops[j] := Array.getElem?_eq_getElem (by omega)
                exact stable i j o _ (sl a) _ w w' e ho hoj (hI j hj hl) hR (fun t h => put_sl _ _ _ _ h)
            · intro t htt
              have hdt : o.dst ≠ some t := htt i o him' (by rw [gset, if_pos rfl]) ho
              rw [put_sl _ _ _ _ hdt]
              exact ht t (fun j oj hj hl hoj => htt j oj hj (by rw [gset]; split <;> simp [hl]) hoj)
          unfold wpOp
          rw [ho]
          show if Region.wanted o (yielded ops a.tmps) = true then _ else _
          split
          · rename_i hw
            rw [if_pos hw] at hst'
            exact .inl (Oper.wp_mono (fun a' w' ⟨v, e, hR, hIi⟩ => by rw [e] at hIi ⊢; exact next v w' hR hIi) hst')
          · rename_i hw
            rw [if_neg hw] at hst'
            exact next undef w hst'.1 hst'.2
  refine main ops.size _ a0 w0.drew ?_ ?_ ⟨rfl, rfl, rfl, Nat.le_refl _, fun _ _ => rfl⟩ rfl rfl ?_ ?_ ?_ ?_
  · unfold unl; exact Nat.le_trans List.countP_le_length (by simp)
  · simp [Array.getD_eq_getD_getElem?, Array.getElem?_replicate, hm']
  · intro j o hj; simp [Array.getD_eq_getD_getElem?, Array.getElem?_replicate] at hj
    split at hj <;> simp at hj
  · intro j hj hl; simp [Array.getD_eq_getD_getElem?, Array.getElem?_replicate, hj] at hl
  · intro j hj hl; simp [Array.getD_eq_getD_getElem?, Array.getElem?_replicate, show j < ops.size by omega] at hl
  · intro t _; rfl
end Go.By
namespace Go.By
def crcTab : List Nat := [0x00000000, 0x1DB71064, 0x3B6E20C8, 0x26D930AC, 0x76DC4190, 0x6B6B51F4, 0x4DB26158, 0x5005713C, 0xEDB88320, 0xF00F9344, 0xD6D6A3E8, 0xCB61B38C, 0x9B64C2B0, 0x86D3D2D4, 0xA00AE278, 0xBDBDF21C]
/-- half a byte shifted out -/
def crcHalf (r : Nat) : Nat := (r / 16) ^^^ (crcTab.getD (r % 16) 0)
/-- one byte more -/
def crcByte (r : Nat) (b : UInt8) : Nat := crcHalf (crcHalf (r ^^^ b.toNat))
def crcRun (r : Nat) (l : List UInt8) : Nat := l.foldl crcByte r
theorem crcRun_append (r : Nat) (a b : List UInt8) : crcRun r (a ++ b) = crcRun (crcRun r a) b := List.foldl_append ..
theorem crcTab_lt : ∀ t : Fin 16, crcTab.getD t.val 0 < 2 ^ 32 := by decide
theorem crcHalf_lt {r : Nat} (h : r < 2 ^ 32) : crcHalf r < 2 ^ 32 := by
  unfold crcHalf
  exact Nat.xor_lt_two_pow (by omega) (crcTab_lt ⟨r % 16, Nat.mod_lt _ (by omega)⟩)
theorem crcByte_lt {r : Nat} {b : UInt8} (h : r < 2 ^ 32) : crcByte r b < 2 ^ 32 := crcHalf_lt (crcHalf_lt (Nat.xor_lt_two_pow h (Nat.lt_trans b.toNat_lt (by decide))))
theorem crcRun_lt : ∀ {l : List UInt8} {r : Nat}, r < 2 ^ 32 → crcRun r l < 2 ^ 32
  | [], _, h => h
  | b :: l, r, h => crcRun_lt (l := l) (crcByte_lt h)
/-- the sum of bytes -/
def crcS (l : List UInt8) : Nat := 4294967295 - crcRun 4294967295 l
end Go.By
namespace Go.By
/-- a number as four bytes, its lowest eight bits first -/
def put4 (n : Nat) : List UInt8 := [UInt8.ofNat n, UInt8.ofNat (n / 256), UInt8.ofNat (n / 65536), UInt8.ofNat (n / 16777216)]
/-- the number that four bytes are -/
def get4 : List UInt8 → Nat
  | [a, b, c, d] => a.toNat + 256 * b.toNat + 65536 * c.toNat + 16777216 * d.toNat
  | _ => 0
theorem put4_len (n : Nat) : (put4 n).length = 4 := rfl
theorem get4_put4 {n : Nat} (h : n < 4294967296) : get4 (put4 n) = n := by
  show (UInt8.ofNat n).toNat + 256 * (UInt8.ofNat (n / 256)).toNat + 65536 * (UInt8.ofNat (n / 65536)).toNat + 16777216 * (UInt8.ofNat (n / 16777216)).toNat = n
  simp only [UInt8.toNat_ofNat']
  omega
theorem crcS_lt (l : List UInt8) : crcS l < 4294967296 := by unfold crcS; omega
end Go.By
namespace Go.Proofs.YtcfdopiponlboaaGreatDoor
end Go.Proofs.YtcfdopiponlboaaGreatDoor
namespace Go.Proofs.YtcfdopiponlboaaGreatDoor
open Go.RowKit Go.By
theorem u8_of (n : Nat) : ((n : Int) % 256) = ((UInt8.ofNat n).toNat : Int) := by
  rw [UInt8.toNat_ofNat']; omega
theorem put4_cells (n : Nat) (h : n < 4294967296) : ([.int .u8 ((n : Int) % 256), .int .u8 ((n : Int) / 256 % 256), .int .u8 ((n : Int) / 65536 % 256), .int .u8 ((n : Int) / 16777216)] : List Value) = (put4 n).map B8 := by
  have e0 := u8_of n
  have e1 := u8_of (n / 256)
  have e2 := u8_of (n / 65536)
  have e3 := u8_of (n / 16777216)
  have f3 : ((n / 16777216 : Nat) : Int) % 256 = (n : Int) / 16777216 := by omega
  rw [f3] at e3
  have f1 : ((n / 256 : Nat) : Int) = (n : Int) / 256 := by omega
  have f2 : ((n / 65536 : Nat) : Int) = (n : Int) / 65536 := by omega
  rw [f1] at e1
  rw [f2] at e2
  rw [e0, e1, e2, e3]
  rfl
set_option maxHeartbeats 1000000 in
theorem SPut_any (n : Nat) (h : n < 4294967296) (w : World) :
    Calls Tryz.prog 82 #[.int .u32 (n : Int)] w fun e w' => ∃ g, e = .returned (.slice (some ⟨g, 0, none⟩) 4 4) ∧ w.heap.size ≤ g ∧ w'.heap[g]? = some (.cells ((put4 n).map B8).toArray 5 (0, 0)) ∧ Below w.heap.size w w' := by
  have e0 := put4_cells n h
  go_enter Tryz.func82, Tryz.ntmps82
  go_wp2
  rw [← e0]
  go_ret
  exact ⟨w.heap.size, rfl, Nat.le_refl _, hnew rfl, al (Below.refl _ _) (Nat.le_refl _)⟩
end Go.Proofs.YtcfdopiponlboaaGreatDoor
namespace Go.By
open Go.RowKit
theorem bits_and32 {a b : Nat} (ha : a < 2 ^ 32) (hb : b < 2 ^ 32) : bits .and .u32 (a : Int) (b : Int) = ((a &&& b : Nat) : Int) :=
  (bits_nat .u32 32 (by decide) (fun n h1 h2 => by rw [IntKind.wrap_u32]; omega) a b ha hb).1
theorem bits_or32 {a b : Nat} (ha : a < 2 ^ 32) (hb : b < 2 ^ 32) : bits .or .u32 (a : Int) (b : Int) = ((a ||| b : Nat) : Int) :=
  (bits_nat .u32 32 (by decide) (fun n h1 h2 => by rw [IntKind.wrap_u32]; omega) a b ha hb).2
theorem bits_xor32 {a b : Nat} (ha : a < 2 ^ 32) (hb : b < 2 ^ 32) : bits .xor .u32 (a : Int) (b : Int) = ((a ^^^ b : Nat) : Int) :=
  bits_xor_nat .u32 32 (by decide) (fun n h1 h2 => by rw [IntKind.wrap_u32]; omega) a b ha hb
theorem or_add {a b k : Nat} (hb : b < 2 ^ k) (ha : a % 2 ^ k = 0) : a ||| b = a + b := by
  obtain ⟨q, rfl⟩ : ∃ q, a = 2 ^ k * q := ⟨a / 2 ^ k, by have := Nat.div_add_mod a (2 ^ k); rw [ha] at this; omega⟩
  exact (Nat.two_pow_add_eq_or_of_lt hb q).symm
theorem not32 {r : Nat} (h : r < 4294967296) : 4294967295 ^^^ r = 4294967295 - r := by
  apply Nat.eq_of_testBit_eq
  intro i
  rw [Nat.testBit_xor]
  have e1 := Nat.testBit_two_pow_sub_one 32 i
  have e2 := Nat.testBit_two_pow_sub_succ (n := 32) (x := r) h i
  rw [show 2 ^ 32 - (r + 1) = 4294967295 - r by omega] at e2
  rw [show 2 ^ 32 - 1 = 4294967295 by rfl] at e1
  rw [e1, e2]
  by_cases hi : i < 32
  · simp [hi]
  · have : r.testBit i = false := Nat.testBit_lt_two_pow (Nat.lt_of_lt_of_le h (by rw [show (4294967296 : Nat) = 2 ^ 32 by rfl]; exact Nat.pow_le_pow_right (by decide) (by omega)))
    simp [hi, this]
end Go.By
namespace Go.Proofs.YtcfdopiponlboaaGreatDoor
open Go.RowKit Go.By
/-- the table of halves lies there -/
def HalfT (w : World) : Prop := ∀ i, i < 16 → w.cell? ⟨0, i, none⟩ = some (.int .u32 (crcTab.getD i 0 : Nat))
theorem HalfT.keep {w w' : World} (h : HalfT w) (hb : Below w.heap.size w w') : HalfT w' := fun i hi => (hb.cell (p := ⟨0, i, none⟩) (lt_of_cell (h i hi))).trans (h i hi)
theorem HalfT.pos {w : World} (h : HalfT w) : 0 < w.heap.size := lt_of_cell (h 0 (by decide))
theorem info_run : (Tryz.prog.info? 155).map (·.size) = some 1 := by kernel_rfl
theorem SStart_any (w : World) : Calls Tryz.prog 91 #[] w fun e w' => e = .returned (.agg #[.int .u32 (4294967295 : Nat)]) ∧ Below w.heap.size w w' := by
  have hinfo := info_run
  go_enter Tryz.func91, Tryz.ntmps91
  go_wp2
  exact bodyPost_ret (results_cell_row rfl _ _ _ 155 #[.int .u32 (4294967295 : Nat)] (0, 0) _ rfl (hnew rfl) Tryz.underlying155 rfl hinfo) rfl ⟨rfl, ((Below.refl _ _).alloc (Nat.le_refl _) _)⟩
theorem SSum_any (r : Nat) (h : r < 4294967296) (w : World) : Calls Tryz.prog 93 #[.agg #[.int .u32 (r : Nat)]] w fun e w' => e = .returned (.int .u32 (4294967295 - r : Nat)) ∧ Below w.heap.size w w' := by
  have e0 : bits BinOp.xor IntKind.u32 IntKind.u32.max (r : Int) = ((4294967295 - r : Nat) : Int) := by
    rw [show IntKind.u32.max = ((4294967295 : Nat) : Int) by decide, bits_xor32 (by omega) (by omega)]
    congr 1
    exact not32 h
  go_enter Tryz.func93, Tryz.ntmps93
  go_wp2
  go_ret
  exact ⟨rfl, (Below.refl _ _).alloc (Nat.le_refl _) _⟩
/-- the register in its box, the result's cell -/
structure RS (T : TypeId) (w0 : World) (r : Nat) (wr : World) : Prop where
  b : wr.heap[w0.heap.size]? = some (.cells #[.int .u32 (r : Nat)] T (0, 0))
  c : wr.heap[w0.heap.size + 1]? = some (.cells #[.int .u32 0] T (0, 0))
  below : Below w0.heap.size w0 wr
theorem RS.set {T : TypeId} {w0 wr : World} {r : Nat} (h : RS T w0 r wr) (r' : Nat) : RS T w0 r' (wr.setCell ⟨w0.heap.size, 0, none⟩ (.int .u32 (r' : Nat))) :=
  ⟨hss h.b, hsc h.c (by show w0.heap.size + 1 ≠ w0.heap.size; omega), h.below.setCell (Nat.le_refl _) _⟩
theorem RS.cells {T : TypeId} {w0 wr : World} {r : Nat} (h : RS T w0 r wr) : wr.cell? ⟨w0.heap.size, 0, none⟩ = some (.int .u32 (r : Nat)) ∧ wr.frozen? ⟨w0.heap.size, 0, none⟩ = false ∧ wr.cell? ⟨w0.heap.size + 1, 0, none⟩ = some (.int .u32 0) ∧ wr.frozen? ⟨w0.heap.size + 1, 0, none⟩ = false :=
  ⟨cell_of_row _ _ 0 _ _ _ h.b, frozen_of_row _ _ 0 _ _ h.b, cell_of_row _ _ 0 _ _ _ h.c, frozen_of_row _ _ 0 _ _ h.c⟩
theorem RS.keep {T : TypeId} {w0 w1 w2 : World} {r : Nat} (h : RS T w0 r w1) (hb : Below w1.heap.size w1 w2) : RS T w0 r w2 :=
  ⟨(hb.block _ (lt_of_block h.b)).trans h.b, (hb.block _ (lt_of_block h.c)).trans h.c, bl h.below hb h.below.size⟩
set_option maxRecDepth 100000 in
set_option maxHeartbeats 4000000 in
theorem SWith_any (r : Nat) (hr : r < 4294967296) (p : Option Addr) (n c : Nat) (xss : List (List UInt8)) (w : World) (h : Sl2 w p n c xss) (hT : HalfT w) :
    Calls Tryz.prog 92 #[.agg #[.int .u32 (r : Nat)], .slice p n c] w fun e w' => e = .returned (.agg #[.int .u32 (crcRun r xss.flatten : Nat)]) ∧ Below w.heap.size w w' := by
  have hn := h.bound
  obtain ⟨F, hF⟩ : ∃ F : Nat → Nat, F = fun k => crcRun r (xss.take k).flatten := ⟨_, rfl⟩
  have HF : Hid (∀ k xs, xss[k]? = some xs → F (k + 1) = crcRun (F k) xs) := fun k xs hx => by
    subst hF
    obtain ⟨hk, hx⟩ := List.getElem?_eq_some_iff.1 hx
    show crcRun r (xss.take (k + 1)).flatten = crcRun (crcRun r (xss.take k).flatten) xs
    rw [← crcRun_append, List.take_succ_eq_append_getElem hk, hx, List.flatten_append]; simp
  have HL : Hid (∀ k, F k < 4294967296) := fun k => by subst hF; exact crcRun_lt hr
  have HN : Hid (F n = crcRun r xss.flatten) := by subst hF; show crcRun r (xss.take n).flatten = _; rw [List.take_of_length_le (by rw [h.len]; omega)]
  have H0 : F 0 = r := by subst hF; rfl
  have H := Lib.hid h
  have HT := Lib.hid hT
  have HP : Hid (0 < w.heap.size) := hT.pos
  clear h hF hT hr
  rw [← HN.out]
  go_enter Tryz.func92, Tryz.ntmps92
  go_wp2
  go_loopw [11] (fun i wr => ∃ k : Nat, k ≤ n ∧ i = .int .i64 k ∧ Hid (RS 155 w (F k) wr)) (fun i _ => n - (intOf i).toNat)
  case atStart =>
    refine ⟨0, Nat.zero_le _, rfl, ?_⟩
    rw [H0]
    refine ⟨hal (hnew rfl), hnew (by simp), al (al (Below.refl _ _) (Nat.le_refl _)) (by simp)⟩
  case round =>
    obtain ⟨k, hk, rfl, hS⟩ := hrel
    by_cases hlt : k < n
    · obtain ⟨b, o, q, m, c', xs, rfl, hc, hs, hx⟩ := H.out.at k hlt
      have hcw := (hS.out.below.cell (p := ⟨b, o + k, none⟩) (lt_of_cell hc)).trans hc
      have hm := hs.bound
      have HS := Lib.hid hs
      have E0 : F (k + 1) = crcRun (F k) xs := HF.out k xs hx.out
      have EL := HL.out k
      obtain ⟨G, hG⟩ : ∃ G : Nat → Nat, G = fun j => crcRun (F k) (xs.take j) := ⟨_, rfl⟩
      have G0 : Hid (G 0 = F k) := by subst hG; rfl
      have GN : Hid (G m = F (k + 1)) := by subst hG; rw [E0]; show crcRun _ (xs.take m) = _; rw [List.take_of_length_le (by rw [hs.len]; omega)]
      have GS : Hid (∀ j x, xs[j]? = some x → G (j + 1) = crcHalf (crcHalf (G j ^^^ x.toNat))) := fun j x hj => by
        subst hG
        obtain ⟨hj1, hj2⟩ := List.getElem?_eq_some_iff.1 hj
        show crcRun (F k) (xs.take (j + 1)) = crcByte (crcRun (F k) (xs.take j)) x
        rw [List.take_succ_eq_append_getElem hj1, hj2, crcRun_append]; rfl
      have GL : Hid (∀ j, G j < 4294967296) := fun j => by subst hG; exact crcRun_lt EL
      clear hs hG E0 EL
      go_wp2
      go_loopw [17] (fun i wr => ∃ j : Nat, j ≤ m ∧ i = .int .i64 j ∧ Hid (RS 155 w (G j) wr)) (fun i _ => m - (intOf i).toNat)
      case atStart => exact ⟨0, Nat.zero_le _, rfl, by rw [G0.out]; exact hS⟩
      case round =>
        obtain ⟨j, hj, rfl, hS2⟩ := hrel
        by_cases hjm : j < m
        · obtain ⟨bb, oo, x, rfl, hcx, hxx⟩ := HS.out.at j hjm
          have hcx2 := (hS2.out.below.cell (p := ⟨bb, oo + j, none⟩) (lt_of_cell hcx)).trans hcx
          have hx8 := x.toNat_lt
          have g1 := GL.out j
          have hxor := bits_xor32 (a := G j) (b := x.toNat) (by omega) (by omega)
          have hlt2 : G j ^^^ x.toNat < 4294967296 := Nat.xor_lt_two_pow (n := 32) (by omega) (by omega)
          obtain ⟨cb, zb, cr, zr⟩ := hS2.out.cells
          have hsz := hS2.out.below.size
          have HS3 := Lib.hid (hS2.out.set (G j ^^^ x.toNat))
          have GS2 := Lib.hid (GS.out j x hxx.out)
          generalize hV : G j ^^^ x.toNat = V at *
          clear hV
          go_wp2
          clear hxor
          go_loopw [27] (fun i wr => ∃ l v : Nat, l ≤ 2 ∧ i = .int .i64 l ∧ v < 4294967296 ∧ Hid (l = 0 ∧ v = V ∨ l = 1 ∧ v = crcHalf V ∨ l = 2 ∧ v = crcHalf (crcHalf V)) ∧ Hid (RS 155 w v wr)) (fun i _ => 2 - (intOf i).toNat)
          case atStart => exact ⟨0, V, by omega, rfl, hlt2, Or.inl ⟨rfl, rfl⟩, HS3⟩
          case round =>
            obtain ⟨l, v, hl, rfl, hv, hor, hS4⟩ := hrel
            clear cb zb cr zr
            obtain ⟨cb, zb, cr, zr⟩ := hS4.out.cells
            by_cases hl2 : l < 2
            · have hst := hS4.out.below.size
              have hTc := (HT.out.keep (hS4.out.below)) (v % 16) (Nat.mod_lt _ (by omega))
              have hand : bits .and .u32 (v : Int) (15 : Int) = ((v % 16 : Nat) : Int) := by
                rw [show (15 : Int) = ((15 : Nat) : Int) by rfl, bits_and32 hv (by decide), show (15 : Nat) = 2 ^ 4 - 1 by rfl, Nat.and_two_pow_sub_one_eq_mod]
              have htl : crcTab.getD (v % 16) 0 < 2 ^ 32 := crcTab_lt ⟨v % 16, Nat.mod_lt _ (by omega)⟩
              have hxo : bits .xor .u32 ((v : Int) / 16) (crcTab.getD (v % 16) 0 : Nat) = ((crcHalf v : Nat) : Int) := by
                have := bits_xor32 (a := v / 16) (b := crcTab.getD (v % 16) 0) (by omega) htl
                rw [show ((v / 16 : Nat) : Int) = (v : Int) / 16 by omega] at this
                exact this
              have hvl := crcHalf_lt hv
              have hm16 : ¬ (16 : Int) ≤ ((v % 16 : Nat) : Int) := by omega
              generalize hM : v % 16 = M at *
              generalize hU : crcTab.getD M 0 = U at *
              generalize hX : crcHalf v = X at *
              have hXe := Lib.hid hX
              clear hX hM hU
              go_wp2_with fail
              refine wp_region_last (fun ix => ([.val (.pointer (some ⟨w.heap.size, 0, none⟩)), .val (.int .u32 (v : Nat)), .val (.int .u32 ((v : Int) / 16)), .val (.pointer (some ⟨w.heap.size, 0, none⟩)), .val (.int .u32 (v : Nat)), .val (.int .u32 (M : Nat)), .val (.pointer (some ⟨0, M, none⟩)), .val (.int .u32 (U : Nat)), .val (.int .u32 (X : Nat)), .val (.pointer (some ⟨w.heap.size, 0, none⟩)), .any][ix]?).getD (.any)) 43 10 rfl (by kernel_rfl) (by decide) (by decide) (by decide) (by decide) ?_ ?_
              · refine ⟨?_, ?_, ?_, ?_, ?_, ?_, ?_, ?_, ?_, ?_, trivial⟩
                · intro a W hb0 hs hp hi; have hb := undrew hb0; clear hb0
                  have t2 : sl a 2 = .pointer (some ⟨w.heap.size, 0, none⟩) := hi 2 (by decide)
                  refine ite_y rfl (wp_val (.pointer (some ⟨w.heap.size, 0, none⟩)) ?_ ?_)
                  · simp only [execOp, eval_tmp, eval_const, t2]; simp [go_sem]
                  · exact ⟨_, rfl, Below.refl _ _, rfl⟩
                · intro a W hb0 hs hp hi; have hb := undrew hb0; clear hb0
                  have tt : sl a 29 = .pointer (some ⟨w.heap.size, 0, none⟩) := hp 0 (by decide)
                  have dd := (hb.cell (p := ⟨w.heap.size, 0, none⟩) (lt_of_cell cb)).trans cb
                  refine ite_y rfl (wp_val (.int .u32 (v : Nat)) ?_ ?_)
                  · simp only [execOp, eval_tmp, tt]; simp [go_sem, dd]
                  · exact ⟨_, rfl, Below.refl _ _, rfl⟩
                · intro a W hb0 hs hp hi; have hb := undrew hb0; clear hb0
                  have t30 : sl a 30 = .int .u32 (v : Nat) := hp 1 (by decide)
                  refine ite_y rfl (wp_val (.int .u32 ((v : Int) / 16)) ?_ ?_)
                  · simp only [execOp, eval_tmp, eval_const, t30]; simp [go_sem]
                  · exact ⟨_, rfl, Below.refl _ _, rfl⟩
                · intro a W hb0 hs hp hi; have hb := undrew hb0; clear hb0
                  have t2 : sl a 2 = .pointer (some ⟨w.heap.size, 0, none⟩) := hi 2 (by decide)
                  refine ite_y rfl (wp_val (.pointer (some ⟨w.heap.size, 0, none⟩)) ?_ ?_)
                  · simp only [execOp, eval_tmp, eval_const, t2]; simp [go_sem]
                  · exact ⟨_, rfl, Below.refl _ _, rfl⟩
                · intro a W hb0 hs hp hi; have hb := undrew hb0; clear hb0
                  have tt : sl a 32 = .pointer (some ⟨w.heap.size, 0, none⟩) := hp 3 (by decide)
                  have dd := (hb.cell (p := ⟨w.heap.size, 0, none⟩) (lt_of_cell cb)).trans cb
                  refine ite_y rfl (wp_val (.int .u32 (v : Nat)) ?_ ?_)
                  · simp only [execOp, eval_tmp, tt]; simp [go_sem, dd]
                  · exact ⟨_, rfl, Below.refl _ _, rfl⟩
                · intro a W hb0 hs hp hi; have hb := undrew hb0; clear hb0
                  have t33 : sl a 33 = .int .u32 (v : Nat) := hp 4 (by decide)
                  refine ite_y rfl (wp_val (.int .u32 (M : Nat)) ?_ ?_)
                  · simp only [execOp, eval_tmp, eval_const, t33]; simp [go_sem, hand]
                  · exact ⟨_, rfl, Below.refl _ _, rfl⟩
                · intro a W hb0 hs hp hi; have hb := undrew hb0; clear hb0
                  have tt : sl a 34 = .int .u32 (M : Nat) := hp 5 (by decide)
                  refine ite_y rfl (wp_val (.pointer (some ⟨0, M, none⟩)) ?_ ?_)
                  · simp only [execOp, eval_tmp, BigFrame.eval_global, tt]; simp [go_sem, hm16]
                  · exact ⟨_, rfl, Below.refl _ _, rfl⟩
                · intro a W hb0 hs hp hi; have hb := undrew hb0; clear hb0
                  have tt : sl a 35 = .pointer (some ⟨0, M, none⟩) := hp 6 (by decide)
                  have dd := (hb.cell (p := ⟨0, M, none⟩) (lt_of_cell hTc)).trans hTc
                  refine ite_y rfl (wp_val (.int .u32 (U : Nat)) ?_ ?_)
                  · simp only [execOp, eval_tmp, tt]; simp [go_sem, dd]
                  · exact ⟨_, rfl, Below.refl _ _, rfl⟩
                · intro a W hb0 hs hp hi; have hb := undrew hb0; clear hb0
                  have t31 : sl a 31 = .int .u32 ((v : Int) / 16) := hp 2 (by decide)
                  have t36 : sl a 36 = .int .u32 (U : Nat) := hp 7 (by decide)
                  refine ite_y rfl (wp_val (.int .u32 (X : Nat)) ?_ ?_)
                  · simp only [execOp, eval_tmp, eval_const, t31, t36]; simp [go_sem, hxo]
                  · exact ⟨_, rfl, Below.refl _ _, rfl⟩
                · intro a W hb0 hs hp hi; have hb := undrew hb0; clear hb0
                  have t2 : sl a 2 = .pointer (some ⟨w.heap.size, 0, none⟩) := hi 2 (by decide)
                  refine ite_y rfl (wp_val (.pointer (some ⟨w.heap.size, 0, none⟩)) ?_ ?_)
                  · simp only [execOp, eval_tmp, eval_const, t2]; simp [go_sem]
                  · exact ⟨_, rfl, Below.refl _ _, rfl⟩
              intro a w9 o ho hb hs hd hI ht
              have ha := act_is [29, 30, 31, 32, 33, 34, 35, 36, 37, 38] hs hd ht (by decide)
              simp at ho; subst ho
              have t37 : sl a 37 = .int .u32 (X : Nat) := hI 8 (by decide)
              have t38 : sl a 38 = .pointer (some ⟨w.heap.size, 0, none⟩) := hI 9 (by decide)
              have c9 := (hb.cell (p := ⟨w.heap.size, 0, none⟩) (lt_of_cell cb)).trans cb
              have z9 : w9.frozen? ⟨w.heap.size, 0, none⟩ = false := frozen_of_row _ _ 0 _ _ ((hb.block _ (lt_of_block hS4.out.b)).trans hS4.out.b)
              have HS5 : Hid (RS 155 w X (w9.setCell ⟨w.heap.size, 0, none⟩ (.int .u32 (X : Nat)))) := (hS4.out.keep hb).set X
              refine wp_skip_none rfl (w' := w9.setCell ⟨w.heap.size, 0, none⟩ (.int .u32 (X : Nat))) ?_ ?_
              · simp only [execOp, eval_tmp, t37, t38]; simp [go_sem, c9, z9]
              simp only [List.foldl, t37, t38] at ha
              generalize sl a 29 = u29 at ha
              generalize sl a 30 = u30 at ha
              generalize sl a 31 = u31 at ha
              generalize sl a 32 = u32 at ha
              generalize sl a 33 = u33 at ha
              generalize sl a 34 = u34 at ha
              generalize sl a 35 = u35 at ha
              generalize sl a 36 = u36 at ha
              simp only [Act.put, List.setIfInBounds_toArray, List.set_cons_zero, List.set_cons_succ] at ha
              rw [ha]; clear ha hI ht hs hd t37 t38 c9 z9 hb
              go_wp2
              go_roundw
              case rel => exact ⟨l + 1, X, by omega, by go_num, hvl, by
                rcases hor.out with ⟨rfl, rfl⟩ | ⟨rfl, rfl⟩ | ⟨rfl, rfl⟩
                · exact Or.inr (Or.inl ⟨rfl, hXe.out.symm⟩)
                · exact Or.inr (Or.inr ⟨rfl, hXe.out.symm⟩)
                · omega, HS5⟩
              case measure => simp [intOf]; omega
            · have hl2' : l = 2 := by omega
              subst hl2'
              have HV : v = G (j + 1) := by
                rcases hor.out with ⟨h1, _⟩ | ⟨h1, _⟩ | ⟨_, h1⟩
                · omega
                · omega
                · rw [GS2.out, h1]
              clear hor
              go_wp2
              go_roundw
              case rel => exact ⟨j + 1, by omega, by go_num, by rw [← HV]; exact hS4⟩
              case measure => simp [intOf]; omega
        · have hjm' : j = m := by omega
          subst hjm'
          go_wp2
          go_roundw
          case rel => exact ⟨k + 1, by omega, by go_num, by rw [← GN.out]; exact hS2⟩
          case measure => simp [intOf]; omega
    · have hkn : k = n := by omega
      subst hkn
      obtain ⟨cb, zb, cr, zr⟩ := hS.out.cells
      have hinfo := info_run
      go_wp2
      exact bodyPost_ret (results_cell_row rfl _ _ _ 155 #[.int .u32 (F k : Nat)] (0, 0) _ rfl (hss hS.out.c) Tryz.underlying155 rfl hinfo) rfl ⟨rfl, hS.out.below.setCell (Nat.le_succ _) _⟩
end Go.Proofs.YtcfdopiponlboaaGreatDoor
