/- A region with two appends of rows: what stays. The law's Rows: what its region leaves. The law's Rows. Whether chapter 9 is awake. SolveJudges: the walk. SolveJudges: sizes out of range. SolveJudges: sizes within bounds. SolveJudges: whole. Whether symbols hold for equations: Holds. Equations that symbols solve: there is a solution; how many: plain laws. The walk of the law SolveCounts. SolveCounts: whole. Arguments that came in, as bytes and slices of bytes. Arguments that came in: slices of byte slices. The table that the library's TrailingZeros reads, out of the row's condition. -/
import Derived.Test.YtbfmdfbnhakolaaDoorZo7
import Derived.OpenShut
import Derived.Deep.Matrix
import Derived.Test.YtbfmdfbnhakolaaDoorRows
import Derived.Lib.LaidTab
import Derived.Stop.LaidErr
namespace Go.By
open Go.RowKit
/-- a slice value that owns rows' headers, which read in an older world -/
def OwnP (T2 : TypeId) (wz w : World) (base : Nat) (v : Value) (n : Nat) (K : List (List UInt8 × List UInt8)) : Prop :=
  ∃ vs : List (Value × Value), vs.length = n ∧ K.length = n ∧ w.ownsRow base T2 2 v n (fl2 vs) ∧ ∀ (j : Nat) (u : Value × Value), vs[j]? = some u → ∃ k, K[j]? = some k ∧ RwP wz u k
theorem OwnP.nil (T2 : TypeId) (wz w : World) (base : Nat) : OwnP T2 wz w base (.slice none 0 0) 0 [] := ⟨[], rfl, rfl, World.ownsRow_nil _ _ _ _, fun j u h => by simp at h⟩
theorem OwnP.push {T2 : TypeId} {wz w1 : World} {base n : Nat} {v' u1 u2 : Value} {k : List UInt8 × List UInt8} {K : List (List UInt8 × List UInt8)} {vs : List (Value × Value)} (a : vs.length = n) (b : K.length = n)
    (r : ∀ (j : Nat) (u : Value × Value), vs[j]? = some u → ∃ k, K[j]? = some k ∧ RwP wz u k) (h : RwP wz (u1, u2) k) (ho : w1.ownsRow base T2 2 v' (n + 1) (fl2 vs ++ [u1, u2])) : OwnP T2 wz w1 base v' (n + 1) (K ++ [k]) := by
  refine ⟨vs ++ [(u1, u2)], by simp [a], by simp [b], by rw [fl2_append]; exact ho, ?_⟩
  intro j u hj
  by_cases hjn : j < vs.length
  · rw [List.getElem?_append_left hjn] at hj
    obtain ⟨k', hk, g1⟩ := r j u hj
    exact ⟨k', by rw [List.getElem?_append_left (by omega)]; exact hk, g1⟩
  · have hj2 := (List.getElem?_eq_some_iff.1 hj).1
    rw [List.length_append, List.length_singleton] at hj2
    obtain rfl : j = vs.length := by omega
    rw [List.getElem?_append_right (Nat.le_refl _), Nat.sub_self] at hj
    have hu : (u1, u2) = u := by simpa using hj
    subst hu
    exact ⟨k, by rw [a, ← b, List.getElem?_append_right (Nat.le_refl _), Nat.sub_self]; rfl, h⟩
theorem OwnP.keep {T2 : TypeId} {wz w w' : World} {base n : Nat} {v : Value} {K : List (List UInt8 × List UInt8)} (h : OwnP T2 wz w base v n K) (hb : Below w.heap.size w w') : OwnP T2 wz w' base v n K := by
  obtain ⟨vs, a, b, o, r⟩ := h; exact ⟨vs, a, b, owns_keepv o hb, r⟩
theorem OwnP.shape {T2 : TypeId} {wz w : World} {base n : Nat} {v : Value} {K : List (List UInt8 × List UInt8)} (h : OwnP T2 wz w base v n K) : ∃ q c, v = .slice q n c := by obtain ⟨vs, a, b, o, r⟩ := h; exact owns_shape o
theorem OwnP.rwS {T2 : TypeId} {wz w : World} {base n c : Nat} {q : Option Addr} {K : List (List UInt8 × List UInt8)} (h : OwnP T2 wz w base (.slice q n c) n K) (hb : Below wz.heap.size wz w) : RwS w q n c K := by
  obtain ⟨vs, a, b, o, r⟩ := h
  have hs : n ≤ c ∧ c ≤ maxLen ∧ (q = none → n = 0 ∧ c = 0) := by
    rcases o.2 with ⟨hv, hn⟩ | ⟨g, cap, cur, hv, _, _, h1, h2, _⟩
    · simp at hv; exact ⟨by omega, by unfold maxLen; omega, fun _ => ⟨by omega, by omega⟩⟩
    · simp at hv; exact ⟨by omega, by omega, fun e => by rw [hv.1] at e; cases e⟩
  refine ⟨b, hs.1, hs.2.1, hs.2.2, fun j k hj => ?_⟩
  have hjn : j < n := by rw [← b]; exact (List.getElem?_eq_some_iff.1 hj).1
  obtain ⟨u, hu⟩ : ∃ u, vs[j]? = some u := ⟨_, List.getElem?_eq_getElem (by omega)⟩
  obtain ⟨k', hk, q1, m1, c1, q2, m2, c2, e, s1, s2⟩ := r j u hu
  rw [hj] at hk; cases hk
  subst e
  rcases o.2 with ⟨hv, _⟩ | ⟨g, cap, cur, hv, _⟩
  · simp at hv; omega
  · obtain ⟨rfl, rfl⟩ : q = some ⟨g, 0, none⟩ ∧ c = cap := by simpa using hv
    obtain ⟨f1, f2⟩ := fl2_at hu
    refine ⟨g, 0, q1, m1, c1, q2, m2, c2, rfl, ?_, ?_, s1.keep hb, s2.keep hb⟩
    · rw [Nat.zero_add, o.cellAt _ (by omega), f1]
    · rw [Nat.zero_add, o.cellAt _ (by omega), f2]
/-- one row appended -/
theorem wp_append_row {P : Program} {o : Oper} {a : Act} {w : World} {K : Act → World → Prop} {Q : Exit → Act → World → Prop} (s x : Operand) (t : TypeId) (ho : o.op = .call { callee := .builtin .append, args := #[s, x], argTypes := #[t, t] })
    (base : Nat) (e : TypeId) (i : TypeInfo) (z : Value) (bytes : Nat) (ht : P.underlying t = some (.slice e)) (hi : P.info? e = some i) (hz : i.zero = some z) (hsize : i.size = 2) (hby : i.bytes = bytes) (hzs : z.cells.size = 2)
    (v : Value) (n : Nat) (vs : List (Value × Value)) (hs : a.eval s = v) (hown : w.ownsRow base e 2 v n (fl2 vs)) (g c : Nat) (u1 u2 : Value) (T : TypeId) (fr : Nat × Nat) (hx : a.eval x = .slice (some ⟨g, 0, none⟩) 1 c) (hg : w.heap[g]? = some (.cells #[u1, u2] T fr))
    (h1 : u1.oneCell' = true) (h2 : u2.oneCell' = true) (h63 : n + 1 ≤ maxLen) (hb : (n + 1) * bytes ≤ 140737488355328) (hbase : base ≤ w.heap.size)
    (h : ∀ v' w', w'.ownsRow base e 2 v' (n + 1) (fl2 vs ++ [u1, u2]) → w.grownBy w' v.ownBlock → K (a.put o.dst v') w') : o.wp P a w K Q := by
  obtain ⟨v', w', hrun, r1, r2, _⟩ := run_append_own (P := P) w base t o.type e i z 2 bytes ht hi hz hsize hby hzs (by decide) v n (fl2 vs) hown ⟨g, 0, none⟩ 1 c [u1, u2] rfl (fun j u hj => by
      rw [Addr.add_lit, Nat.zero_add, cell_of_row _ _ j _ _ _ hg]
      simpa using hj) (fun u hu => by
      simp at hu
      rcases hu with rfl | rfl
      · exact h1
      · exact h2) h63 hb hbase
  unfold Oper.wp
  simp [execOp, ho, resolve, invoke, builtin, hs, hx, hrun, Result.andThen]
  exact h v' w' r1 r2
/-- the blocks of a value's row are of one type -/
def tyS (T : TypeId) (w : World) (v : Value) : Prop := ∀ b, v.ownBlock = some b → ∀ (cs : Array Value) (T' : TypeId) fr, w.heap[b]? = some (.cells cs T' fr) → T' = T
theorem tyS_of {w : World} {base T s n : Nat} {v : Value} {L : List Value} (ho : w.ownsRow base T s v n L) : tyS T w v := fun b hs cs T' fr hh => by
  rcases ho.2 with ⟨e1, _⟩ | ⟨g', cap, cur, e1, _, hc, _⟩
  · rw [e1] at hs; cases hs
  · rw [e1] at hs; cases hs
    rw [hc] at hh; injection hh with hh; injection hh with _ hh _; exact hh.symm
/-- what an append leaves: old memory but for the row of v, which was of type T -/
def App (T : TypeId) (v : Value) (w w' : World) : Prop := w.grownBy w' v.ownBlock ∧ tyS T w v
section
variable {T T1 T2 : TypeId} {v : Value} {w w' : World}
theorem App.owns {base s n : Nat} {u : Value} {L : List Value} (h : App T v w w') (ho : w.ownsRow base T2 s u n L) (hT : T2 ≠ T) : w'.ownsRow base T2 s u n L :=
  owns_kept ho h.1 (fun k hk e => by
    rcases ho.2 with ⟨e1, _⟩ | ⟨g', cap, cur, e1, _, hc, _⟩
    · rw [e1] at hk; cases hk
    · rw [e1] at hk; cases hk
      exact hT (h.2 _ e.symm _ _ _ hc))
theorem App.bw {base : Nat} {u : Value} {xs : List UInt8} (h : App T v w w') (hb : Bw T1 w base u xs) (hT : T1 ≠ T) : Bw T1 w' base u xs := by
  obtain ⟨q, m, c, e, l, o⟩ := hb; exact ⟨q, m, c, e, l, h.owns o hT⟩
theorem App.rwL {base n : Nat} {u : Value} {K : List (List UInt8 × List UInt8)} (h : App T v w w') (hr : RwL T2 T1 w base u n K) (h2 : T2 ≠ T) (h1 : T1 ≠ T) : RwL T2 T1 w' base u n K := by
  obtain ⟨vs, a, b, o, r⟩ := hr
  exact ⟨vs, a, b, h.owns o h2, fun j x hj => by obtain ⟨k, hk, g1, g2⟩ := r j x hj; exact ⟨k, hk, h.bw g1 h1, h.bw g2 h1⟩⟩
theorem App.ownP {base n : Nat} {wz : World} {u : Value} {K : List (List UInt8 × List UInt8)} (h : App T v w w') (hr : OwnP T2 wz w base u n K) (h2 : T2 ≠ T) : OwnP T2 wz w' base u n K := by
  obtain ⟨vs, a, b, o, r⟩ := hr; exact ⟨vs, a, b, h.owns o h2, r⟩
theorem App.block {b : Nat} (h : App T v w w') (hb : b < w.heap.size) (hv : v.ownBlock ≠ some b) : w'.heap[b]? = w.heap[b]? := h.1.block b hb (fun e => hv e.symm)
theorem App.blockT {b : Nat} {cs : Array Value} {T' : TypeId} {fr : Nat × Nat} (h : App T v w w') (hb : w.heap[b]? = some (.cells cs T' fr)) (hT : T' ≠ T) : w'.heap[b]? = some (.cells cs T' fr) :=
  (h.block (blk_lt hb) (fun e => hT (h.2 _ e _ _ _ hb))).trans hb
end
end Go.By
namespace Go.Proofs.YtbfmdfbnhakolaaDoor
open Go.RowKit Go.By
/-- what an operation of the region leaves -/
def RJ (vA vB : Value) (i : Nat) (w w' : World) : Prop := (i = 4 ∧ App 63 vA w w') ∨ (i = 9 ∧ App 71 vB w w') ∨ (i ≠ 4 ∧ i ≠ 9 ∧ Below w.heap.size w w')
/-- what holds of the world -/
structure EJ (wz : World) (H b7 : Nat) (x7 y7 : Value) (vA vB : Value) (n : Nat) (K : List Rw) (dn : Nat → Bool) (w : World) : Prop where
  bel : Below wz.heap.size wz w
  hH : H ≤ w.heap.size
  box : w.heap[b7]? = some (.cells #[x7, y7] 54 (0, 0))
  a : dn 4 = false → RwL 63 5 w wz.heap.size vA n K
  b : dn 9 = false → OwnP 71 wz w wz.heap.size vB n K
def shJ (wz : World) (H : Nat) (x7 y7 : Value) (vA vB : Value) (n : Nat) (K : List Rw) (k : Rw) (j : Nat) (v : Value) (w : World) : Prop := match j with
  | 0 => v = vA
  | 1 => v = .agg #[x7, y7]
  | 2 => ∃ u1 u2, v = .agg #[u1, u2] ∧ Bw 5 w wz.heap.size u1 k.1 ∧ Bw 5 w wz.heap.size u2 k.2
  | 3 => ∃ g u1 u2, v = .slice (some ⟨g, 0, none⟩) 1 1 ∧ H ≤ g ∧ w.heap[g]? = some (.cells #[u1, u2] 63 (0, 0)) ∧ Bw 5 w wz.heap.size u1 k.1 ∧ Bw 5 w wz.heap.size u2 k.2
  | 4 => RwL 63 5 w wz.heap.size v (n + 1) (K ++ [k])
  | 5 => v = vB
  | 6 => v = .agg #[x7, y7]
  | 7 => v = .agg #[x7, y7]
  | 8 => ∃ g, v = .slice (some ⟨g, 0, none⟩) 1 1 ∧ H ≤ g ∧ w.heap[g]? = some (.cells #[x7, y7] 71 (0, 0))
  | 9 => OwnP 71 wz w wz.heap.size v (n + 1) (K ++ [k])
  | 10 => RwL 63 5 w wz.heap.size v (n + 1) (K ++ [k])
  | 11 => OwnP 71 wz w wz.heap.size v (n + 1) (K ++ [k])
  | _ => True
section
variable {wz w w' : World} {H b7 : Nat} {x7 y7 : Value} {vA vB : Value} {n : Nat} {K : List Rw} {k : Rw}
theorem RJ.bw {i base : Nat} {u : Value} {xs : List UInt8} (h : RJ vA vB i w w') (hb : Bw 5 w base u xs) : Bw 5 w' base u xs := by
  rcases h with ⟨_, h⟩ | ⟨_, h⟩ | ⟨_, _, h⟩
  · exact h.bw hb (by decide)
  · exact h.bw hb (by decide)
  · exact hb.keep h
theorem RJ.a {i base m : Nat} {u : Value} {L : List Rw} (h : RJ vA vB i w w') (hi : i ≠ 4) (hr : RwL 63 5 w base u m L) : RwL 63 5 w' base u m L := by
  rcases h with ⟨e, _⟩ | ⟨_, h⟩ | ⟨_, _, h⟩
  · exact absurd e hi
  · exact h.rwL hr (by decide) (by decide)
  · exact hr.keep h
theorem RJ.b {i base m : Nat} {u : Value} {L : List Rw} (h : RJ vA vB i w w') (hi : i ≠ 9) (hr : OwnP 71 wz w base u m L) : OwnP 71 wz w' base u m L := by
  rcases h with ⟨_, h⟩ | ⟨e, _⟩ | ⟨_, _, h⟩
  · exact h.ownP hr (by decide)
  · exact absurd e hi
  · exact hr.keep h
theorem RJ.new {i g : Nat} {o : Obj} (h : RJ vA vB i w w') (hA : ∀ b, vA.ownBlock = some b → b < H) (hB : ∀ b, vB.ownBlock = some b → b < H) (hg : H ≤ g) (ho : w.heap[g]? = some o) : w'.heap[g]? = some o := by
  have hl := blk_lt ho
  rcases h with ⟨_, h⟩ | ⟨_, h⟩ | ⟨_, _, h⟩
  · exact (h.block hl (fun e => by have := hA g e; omega)).trans ho
  · exact (h.block hl (fun e => by have := hB g e; omega)).trans ho
  · exact (h.block g hl).trans ho
theorem RJ.ej {i : Nat} {dn : Nat → Bool} (hE : EJ wz H b7 x7 y7 vA vB n K dn w) (h : RJ vA vB i w w') (hA : ∀ b, vA.ownBlock = some b → wz.heap.size ≤ b) (hB : ∀ b, vB.ownBlock = some b → wz.heap.size ≤ b) : EJ wz H b7 x7 y7 vA vB n K (fun j => if i = j then true else dn j) w' := by
  have hs := hE.bel.size
  refine ⟨?_, ?_, ?_, fun e => ?_, fun e => ?_⟩
  · rcases h with ⟨_, h⟩ | ⟨_, h⟩ | ⟨_, _, h⟩
    · exact hE.bel.grown h.1 hs (fun b hb => hA b hb)
    · exact hE.bel.grown h.1 hs (fun b hb => hB b hb)
    · exact bl hE.bel h hs
  · rcases h with ⟨_, h⟩ | ⟨_, h⟩ | ⟨_, _, h⟩
    · exact Nat.le_trans hE.hH h.1.size
    · exact Nat.le_trans hE.hH h.1.size
    · exact Nat.le_trans hE.hH h.size
  · rcases h with ⟨_, h⟩ | ⟨_, h⟩ | ⟨_, _, h⟩
    · exact h.blockT hE.box (by decide)
    · exact h.blockT hE.box (by decide)
    · exact (h.block _ (blk_lt hE.box)).trans hE.box
  · by_cases hi : i = 4
    · subst hi; simp at e
    · simp only [if_neg hi] at e
      exact h.a hi (hE.a e)
  · by_cases hi : i = 9
    · subst hi; simp at e
    · simp only [if_neg hi] at e
      exact h.b hi (hE.b e)
end
end Go.Proofs.YtbfmdfbnhakolaaDoor
namespace Go.Proofs.YtbfmdfbnhakolaaDoor
open Go.RowKit Go.By
set_option maxRecDepth 100000 in
set_option maxHeartbeats 4000000 in
theorem Rows9_any (p : Option Addr) (m c : Nat) (L : List Rw) (w : World) (h : RwS w p m c L) (hm : m ≤ 65536) (hL : ∀ x, x ∈ L → Room x.1.length ∧ Room x.2.length) :
    Calls Tryd.prog 19 #[.slice p m c] w fun e w' => ∃ q1 c1 q2 c2, e = .returned (.tuple #[.slice q1 m c1, .slice q2 m c2]) ∧ RwS w' q1 m c1 L ∧ RwS w' q2 m c2 L ∧ Below w.heap.size w w' := by
  obtain ⟨i0, hi0, hz0, hz1, hz2⟩ := info_parts info_vrow
  obtain ⟨r0, hr0, hrz, hr1, hr2⟩ := info_parts info_rrow
  have H := Lib.hid h; have HLEN := Lib.hid h.len; have HL := Lib.hid hL
  clear h hL
  go_enter Tryd.func19, Tryd.ntmps19
  go_wp2
  go_loopw [4, 5, 10] (fun va vb iv wr => ∃ (k : Nat) (qa : Option Addr) (ca : Nat) (qb : Option Addr) (cb : Nat), k ≤ m ∧ iv = .int .i64 k ∧ va = .slice qa k ca ∧ vb = .slice qb k cb ∧ Hid (RwL 63 5 wr w.heap.size (.slice qa k ca) k (L.take k)) ∧ Hid (OwnP 71 w wr w.heap.size (.slice qb k cb) k (L.take k)) ∧ Hid (Below w.heap.size w wr)) (fun _ _ iv _ => m - (intOf iv).toNat)
  case atStart => exact ⟨0, none, 0, none, 0, Nat.zero_le _, rfl, rfl, rfl, by show RwL _ _ _ _ _ _ (L.take 0); rw [List.take_zero]; exact RwL.nil _ _ _ _, by show OwnP _ _ _ _ _ _ (L.take 0); rw [List.take_zero]; exact OwnP.nil _ _ _ _, Below.refl _ _⟩
  case round =>
    obtain ⟨k, qa, ca, qb, cb, hk, rfl, rfl, rfl, hA, hP, hB⟩ := hrel
    by_cases hlt : k < m
    · have kn : (k : Int) < (m : Int) := by omega
      obtain ⟨x, hx⟩ : ∃ x, L[k]? = some x := ⟨_, List.getElem?_eq_getElem (by rw [HLEN.out]; exact hlt)⟩
      obtain ⟨b, o, q1, m1, c1, q2, m2, c2, rfl, d1, d2, s1, s2⟩ := H.out.row k x hx
      have hroom := HL.out x (List.mem_of_getElem? hx)
      have R1 : Hid (Room m1) := by rw [← s1.len]; exact hroom.1
      have R2 : Hid (Room m2) := by rw [← s2.len]; exact hroom.2
      have D1 := (hB.out.cell (p := ⟨b, o + k * 2, none⟩) (lt_of_cell d1)).trans d1
      have D2 := (hB.out.cell (p := ⟨b, o + k * 2 + 1, none⟩) (lt_of_cell d2)).trans d2
      have S1 := Lib.hid s1; have S2 := Lib.hid s2
      have htk : Hid (L.take (k + 1) = L.take k ++ [x]) := by show _ = _; rw [List.take_add_one, hx]; rfl
      obtain ⟨K, hK⟩ : ∃ K, K = L.take k := ⟨_, rfl⟩
      rw [← hK] at hA hP htk
      have hsz := hB.out.size
      obtain ⟨W, hW⟩ : ∃ W, W = wr.alloc (.cells #[.slice q1 m1 c1, .slice q2 m2 c2] 54) := ⟨_, rfl⟩
      have hW1 : Below wr.heap.size wr W := by rw [hW]; exact al (Below.refl _ _) (Nat.le_refl _)
      have hWd : Below wr.heap.size wr W.drew := ⟨hW1.os, hW1.tape, hW1.output, hW1.size, hW1.block⟩
      have EW : Hid (EJ w W.heap.size wr.heap.size (.slice q1 m1 c1) (.slice q2 m2 c2) (.slice qa k ca) (.slice qb k cb) k K (fun _ => false) W.drew) :=
        ⟨(bl hB.out hWd hsz), Nat.le_refl _, by show W.heap[wr.heap.size]? = _; rw [hW]; exact hnew rfl, fun _ => (hA.out.keep hWd), fun _ => (hP.out.keep hWd)⟩
      have hA0 : Hid (∀ g, (Value.slice qa k ca).ownBlock = some g → w.heap.size ≤ g ∧ g < W.heap.size) := fun g hg => by
        have := hA.out.lt g hg; have := hW1.size; omega
      have hB0 : Hid (∀ g, (Value.slice qb k cb).ownBlock = some g → w.heap.size ≤ g ∧ g < W.heap.size) := fun g hg => by
        obtain ⟨vs, _, _, ho, _⟩ := hP.out
        have := ho.lt g hg; have := hW1.size; omega
      have HW := Lib.hid hW
      clear d1 d2 s1 s2 hx hroom hW1 hWd hK hW hA hP
      go_wp2
      rw [← HW.out]
      refine wp_region_dones (EJ w W.heap.size wr.heap.size (.slice q1 m1 c1) (.slice q2 m2 c2) (.slice qa k ca) (.slice qb k cb) k K) (RJ (.slice qa k ca) (.slice qb k cb)) (shJ w W.heap.size (.slice q1 m1 c1) (.slice q2 m2 c2) (.slice qa k ca) (.slice qb k cb) k K x) 27 rfl (by kernel_rfl) (by decide) (by decide) (by decide) EW.out (fun dn i w1 w2 _ hE hR => hR.ej hE (fun g hg => (hA0.out g hg).1) (fun g hg => (hB0.out g hg).1)) ?_ ⟨?_, ?_, ?_, ?_, ?_, ?_, ?_, ?_, ?_, ?_, ?_, ?_, trivial⟩ ?_
      · intro i j v w1 w2 hij hp hs hR
        match j, hij, hp, hs with
        | 0, _, _, hs => exact hs
        | 1, _, _, hs => exact hs
        | 2, _, _, hs => obtain ⟨u1, u2, e, g1, g2⟩ := hs; exact ⟨u1, u2, e, hR.bw g1, hR.bw g2⟩
        | 3, _, _, hs => obtain ⟨g, u1, u2, e, hg, hh, g1, g2⟩ := hs; exact ⟨g, u1, u2, e, hg, hR.new (fun b hb => (hA0.out b hb).2) (fun b hb => (hB0.out b hb).2) hg hh, hR.bw g1, hR.bw g2⟩
        | 4, hij, _, hs => exact RJ.a hR hij hs
        | 5, _, _, hs => exact hs
        | 6, _, _, hs => exact hs
        | 7, _, _, hs => exact hs
        | 8, _, _, hs => obtain ⟨g, e, hg, hh⟩ := hs; exact ⟨g, e, hg, hR.new (fun b hb => (hA0.out b hb).2) (fun b hb => (hB0.out b hb).2) hg hh⟩
        | 9, hij, _, hs => exact RJ.b hR hij hs
        | 10, _, hp, hs => exact RJ.a hR (fun e => by subst e; exact absurd hp (by decide)) hs
        | 11, _, hp, hs => exact RJ.b hR (fun e => by subst e; exact absurd hp (by decide)) hs
        | j + 12, _, _, _ => exact trivial
      · intro a W2 dn hdn hE hs hp hi
        exact ite_y rfl (wp_val (sl a 4) rfl ⟨_, rfl, .inr (.inr ⟨by decide, by decide, Below.refl _ _⟩), hi 4 (by decide)⟩)
      · intro a W2 dn hdn hE hs hp hi
        have tt : sl a 7 = .pointer (some ⟨wr.heap.size, 0, none⟩) := hi 7 (by decide)
        have e0 := cell_of_row _ _ 0 _ _ _ hE.box
        have e1 := cell_of_row _ _ 1 _ _ _ hE.box
        refine ite_y rfl (wp_val (.agg #[.slice q1 m1 c1, .slice q2 m2 c2]) ?_ ⟨_, rfl, .inr (.inr ⟨by decide, by decide, Below.refl _ _⟩), rfl⟩)
        simp only [execOp, eval_tmp, tt]; simp [go_sem, e0, e1]
      · intro a W2 dn hdn hE hs hp hi
        have tt : sl a 15 = .agg #[.slice q1 m1 c1, .slice q2 m2 c2] := hp 1 (by decide)
        refine ite_y rfl (wp_enter 29 #[.agg #[.slice q1 m1 c1, .slice q2 m2 c2]] ?_ (OMake_any q1 q2 m1 c1 m2 c2 x.1 x.2 W2 (S1.out.keep hE.bel) (S2.out.keep hE.bel) R1.out R2.out) ?_)
        · simp only [execOp, resolve, List.map_toArray, List.map, eval_tmp, eval_func, eval_const, tt]; simp [go_sem]
        · rintro e W3 ⟨p1, n1, d1, p2, n2, d2, g1, g2, rfl, o1, o2, hb⟩
          exact ⟨_, rfl, _, rfl, .inr (.inr ⟨by decide, by decide, hb⟩), _, _, rfl, ⟨_, _, _, rfl, g1.out, owns_mono o1 hE.bel.size⟩, ⟨_, _, _, rfl, g2.out, owns_mono o2 hE.bel.size⟩⟩
      · intro a W2 dn hdn hE hs hp hi
        have tt : ∃ u1 u2, sl a 16 = .agg #[u1, u2] ∧ Bw 5 W2 w.heap.size u1 x.1 ∧ Bw 5 W2 w.heap.size u2 x.2 := hp 2 (by decide)
        obtain ⟨u1, u2, tt, ⟨p1, n1, d1, rfl, l1, o1⟩, ⟨p2, n2, d2, rfl, l2, o2⟩⟩ := tt
        refine ite_y rfl (wp_val' (w' := W2.alloc (.cells #[.slice p1 n1 d1, .slice p2 n2 d2] 63)) (.slice (some ⟨W2.heap.size, 0, none⟩) 1 1) ?_ ⟨_, rfl, .inr (.inr ⟨by decide, by decide, al (Below.refl _ _) (Nat.le_refl _)⟩), W2.heap.size, _, _, rfl, hE.hH, hnew rfl, Bw.keep ⟨p1, n1, d1, rfl, l1, o1⟩ (al (Below.refl _ _) (Nat.le_refl _)), Bw.keep ⟨p2, n2, d2, rfl, l2, o2⟩ (al (Below.refl _ _) (Nat.le_refl _))⟩)
        simp only [execOp, List.map_toArray, List.map, eval_tmp, tt]; simp [go_sem, tt]
      · intro a W2 dn hdn hE hs hp hi
        have t14 : sl a 14 = .slice qa k ca := hp 0 (by decide)
        have tt : ∃ g u1 u2, sl a 17 = .slice (some ⟨g, 0, none⟩) 1 1 ∧ W.heap.size ≤ g ∧ W2.heap[g]? = some (.cells #[u1, u2] 63 (0, 0)) ∧ Bw 5 W2 w.heap.size u1 x.1 ∧ Bw 5 W2 w.heap.size u2 x.2 := hp 3 (by decide)
        obtain ⟨g, u1, u2, t17, _, hg, b1, b2⟩ := tt
        have c1' : u1.oneCell' = true := by obtain ⟨_, _, _, rfl, _⟩ := b1; rfl
        have c2' : u2.oneCell' = true := by obtain ⟨_, _, _, rfl, _⟩ := b2; rfl
        obtain ⟨vs, la, lb, ho, hr⟩ := hE.a hdn
        refine ite_y rfl (wp_append_row (.tmp 14) (.tmp 17) 43 rfl w.heap.size 63 i0 _ 48 Tryd.underlying43 hi0 hz0 hz1 hz2 rfl (.slice qa k ca) k vs t14 ho g 1 u1 u2 _ _ t17 hg c1' c2' (by unfold maxLen; omega) (by omega) hE.bel.size ?_)
        intro v' w' ho' hg'
        exact ⟨v', rfl, .inl ⟨rfl, hg', tyS_of ho⟩, RwL.push la lb ho hr (by decide) b1 b2 ho' hg'⟩
      · intro a W2 dn hdn hE hs hp hi
        exact ite_y rfl (wp_val (sl a 5) rfl ⟨_, rfl, .inr (.inr ⟨by decide, by decide, Below.refl _ _⟩), hi 5 (by decide)⟩)
      · intro a W2 dn hdn hE hs hp hi
        have tt : sl a 7 = .pointer (some ⟨wr.heap.size, 0, none⟩) := hi 7 (by decide)
        have e0 := cell_of_row _ _ 0 _ _ _ hE.box
        have e1 := cell_of_row _ _ 1 _ _ _ hE.box
        refine ite_y rfl (wp_val (.agg #[.slice q1 m1 c1, .slice q2 m2 c2]) ?_ ⟨_, rfl, .inr (.inr ⟨by decide, by decide, Below.refl _ _⟩), rfl⟩)
        simp only [execOp, eval_tmp, tt]; simp [go_sem, e0, e1]
      · intro a W2 dn hdn hE hs hp hi
        have tt : sl a 20 = .agg #[.slice q1 m1 c1, .slice q2 m2 c2] := hp 6 (by decide)
        refine ite_y rfl (wp_enter 40 #[.agg #[.slice q1 m1 c1, .slice q2 m2 c2]] ?_ (ORef_any q1 q2 m1 c1 m2 c2 W2) ?_)
        · simp only [execOp, resolve, List.map_toArray, List.map, eval_tmp, eval_func, eval_const, tt]; simp [go_sem]
        · rintro e W3 ⟨rfl, hb⟩
          exact ⟨_, rfl, _, rfl, .inr (.inr ⟨by decide, by decide, hb⟩), rfl⟩
      · intro a W2 dn hdn hE hs hp hi
        have tt : sl a 21 = .agg #[.slice q1 m1 c1, .slice q2 m2 c2] := hp 7 (by decide)
        refine ite_y rfl (wp_val' (w' := W2.alloc (.cells #[.slice q1 m1 c1, .slice q2 m2 c2] 71)) (.slice (some ⟨W2.heap.size, 0, none⟩) 1 1) ?_ ⟨_, rfl, .inr (.inr ⟨by decide, by decide, al (Below.refl _ _) (Nat.le_refl _)⟩), W2.heap.size, rfl, hE.hH, hnew rfl⟩)
        simp only [execOp, List.map_toArray, List.map, eval_tmp, tt]; simp [go_sem, tt]
      · intro a W2 dn hdn hE hs hp hi
        have t19 : sl a 19 = .slice qb k cb := hp 5 (by decide)
        have tt : ∃ g, sl a 22 = .slice (some ⟨g, 0, none⟩) 1 1 ∧ W.heap.size ≤ g ∧ W2.heap[g]? = some (.cells #[.slice q1 m1 c1, .slice q2 m2 c2] 71 (0, 0)) := hp 8 (by decide)
        obtain ⟨g, t22, _, hg⟩ := tt
        obtain ⟨vs, la, lb, ho, hr⟩ := hE.b hdn
        refine ite_y rfl (wp_append_row (.tmp 19) (.tmp 22) 44 rfl w.heap.size 71 r0 _ 48 Tryd.underlying44 hr0 hrz hr1 hr2 rfl (.slice qb k cb) k vs t19 ho g 1 _ _ _ _ t22 hg rfl rfl (by unfold maxLen; omega) (by omega) hE.bel.size ?_)
        intro v' w' ho' hg'
        exact ⟨v', rfl, .inr (.inl ⟨rfl, hg', tyS_of ho⟩), OwnP.push la lb hr ⟨_, _, _, _, _, _, rfl, S1.out, S2.out⟩ ho'⟩
      · intro a W2 dn hdn hE hs hp hi
        exact ite_y rfl (wp_val (sl a 18) rfl ⟨_, rfl, .inr (.inr ⟨by decide, by decide, Below.refl _ _⟩), hp 4 (by decide)⟩)
      · intro a W2 dn hdn hE hs hp hi
        exact ite_y rfl (wp_val (sl a 23) rfl ⟨_, rfl, .inr (.inr ⟨by decide, by decide, Below.refl _ _⟩), hp 9 (by decide)⟩)
      · intro a W2 dn hE hs hd hI ht
        have ha := act_is [14, 15, 16, 17, 18, 19, 20, 21, 22, 23, 4, 5] hs hd ht (by decide)
        have hA4 : RwL 63 5 W2 w.heap.size (sl a 4) (k + 1) (K ++ [x]) := hI 10 (by decide)
        have hB5 : OwnP 71 w W2 w.heap.size (sl a 5) (k + 1) (K ++ [x]) := hI 11 (by decide)
        obtain ⟨qa', ca', t4⟩ := hA4.shape
        obtain ⟨qb', cb', t5⟩ := hB5.shape
        rw [t4] at hA4; rw [t5] at hB5
        rw [← htk.out] at hA4 hB5
        have HA4 := Lib.hid hA4; have HB5 := Lib.hid hB5
        have HB2 := Lib.hid hE.bel
        simp only [List.foldl, t4, t5] at ha
        clear hA4 hB5 hI t4 t5 hE ht
        generalize sl a 14 = u14 at ha
        generalize sl a 15 = u15 at ha
        generalize sl a 16 = u16 at ha
        generalize sl a 17 = u17 at ha
        generalize sl a 18 = u18 at ha
        generalize sl a 19 = u19 at ha
        generalize sl a 20 = u20 at ha
        generalize sl a 21 = u21 at ha
        generalize sl a 22 = u22 at ha
        generalize sl a 23 = u23 at ha
        simp only [Act.put, List.setIfInBounds_toArray, List.set_cons_zero, List.set_cons_succ] at ha
        rw [ha]
        clear ha hs hd S1 S2 R1 R2 D1 D2 hA0 hB0 EW HW htk hsz hB
        go_wp2
        go_roundw
        case rel => exact ⟨k + 1, qa', ca', qb', cb', by omega, by go_num, rfl, rfl, HA4.out, HB5.out, HB2.out⟩
        case measure => simp [intOf]; omega
    · obtain rfl : k = m := by omega
      have e : L.take k = L := List.take_of_length_le (by rw [HLEN.out]; exact Nat.le_refl _)
      rw [e] at hA hP
      have F1 : Hid (RwS wr qa k ca L) := hA.out.rwS
      have F2 : Hid (RwS wr qb k cb L) := hP.out.rwS hB.out
      clear hA hP e
      go_wp2
      go_ret2
      exact ⟨qa, ca, qb, cb, rfl, F1.out, F2.out, hB.out⟩
end Go.Proofs.YtbfmdfbnhakolaaDoor
namespace Go.By
open Go.RowKit
theorem rwS_one {W : World} {g T : Nat} {fr : Nat × Nat} {p1 p2 : Option Addr} {n1 n2 c1 c2 : Nat} {x : List UInt8 × List UInt8} (hW : W.heap[g]? = some (.cells #[.slice p1 n1 c1, .slice p2 n2 c2] T fr)) (h1 : Sl B8 W p1 n1 c1 x.1) (h2 : Sl B8 W p2 n2 c2 x.2) : RwS W (some ⟨g, 0, none⟩) 1 1 [x] := by
  refine ⟨rfl, Nat.le_refl _, by simp [maxLen], fun h => by simp at h, fun j k hj => ?_⟩
  match j, hj with
  | 0, hj =>
    have e : x = k := by simpa using hj
    subst e
    exact ⟨g, 0, p1, n1, c1, p2, n2, c2, rfl, cell_of_row _ _ 0 _ _ _ hW, cell_of_row _ _ 1 _ _ _ hW, h1, h2⟩
  | j + 1, hj => simp at hj
end Go.By
namespace Go.Proofs.YtbfmdfbnhakolaaDoor
open Go.RowKit Go.By
theorem hex256 : hexText 256 = [49, 48, 48] := by
  rw [hexText_big (by decide), show 256 / 16 = 16 from rfl, hexText_big (by decide), show 16 / 16 = 1 from rfl, hexText_small (by decide)]; rfl
theorem kD_awake : (kD [(([1, 1] : List UInt8), ([3] : List UInt8))]).length = 1 ∧ clashI [(([1, 1] : List UInt8), ([3] : List UInt8))] 1 = -1 := by
  refine ⟨by decide +kernel, by decide +kernel⟩
end Go.Proofs.YtbfmdfbnhakolaaDoor
namespace Go.Proofs.YtbfmdfbnhakolaaDoor
open Go.RowKit Go.By
end Go.Proofs.YtbfmdfbnhakolaaDoor
namespace Go.Proofs.YtbfmdfbnhakolaaDoor
open Go.RowKit Go.By
end Go.Proofs.YtbfmdfbnhakolaaDoor
namespace Go.Proofs.YtbfmdfbnhakolaaDoor
open Go.RowKit Go.By
theorem valB_pow (n : Nat) : valB (List.replicate n 0 ++ [1]) = 256 ^ n := by
  unfold valB
  rw [List.map_append, valD_append, List.map_replicate]
  show valD 256 (List.replicate n 0) + 256 ^ (List.replicate n (0 : Nat)).length * (1 + 256 * 0) = _
  rw [valD_zeros, List.length_replicate]; omega
theorem len_any_bytes (N : Nat) : ((bytesN N).length = 0) ↔ N = 0 := by
  constructor
  · intro h
    have : bytesN N = [] := List.eq_nil_of_length_eq_zero h
    rw [← bytesN_zero] at this
    exact bytesN_inj this
  · rintro rfl; rw [bytesN_zero]; rfl
end Go.Proofs.YtbfmdfbnhakolaaDoor
namespace Go.Proofs.YtbfmdfbnhakolaaDoor
open Go.RowKit Go.By
theorem few8_parts {m : Nat} {L : List Rw} (h : few8 m L = true) : m ≤ 30 ∧ ∀ x, x ∈ L → x.1.length ≤ 20 ∧ x.2.length ≤ 20 := by
  unfold few8 at h
  rw [Bool.and_eq_true, List.all_eq_true] at h
  refine ⟨of_decide_eq_true h.2, fun x hx => ?_⟩
  have := h.1 x hx
  rw [Bool.and_eq_true] at this
  exact ⟨of_decide_eq_true this.1, of_decide_eq_true this.2⟩
theorem kD_wide {k t : Nat} {L : List Rw} (h : ∀ x, x ∈ L → Fit k t x) : (kD L).length ≤ k := by
  rw [← vecs_rank]; exact rank_wide (vecs_len h)
theorem Ret0.ws {w w' : World} {code : Int} {e : Ending} (h : Ret0 w code e w') : ∃ q n d, e = .returned (.tuple #[.agg #[.slice q n d], .int .i64 code]) ∧ Ws 34 w' q n d 0 ∧ Below w.heap.size w w' :=
  ⟨none, 0, 0, h.1, Ws.zero _ _, h.2⟩
end Go.Proofs.YtbfmdfbnhakolaaDoor
namespace Go.Proofs.YtbfmdfbnhakolaaDoor
open Go.RowKit Go.By
/-- do these symbols hold for this equation? -/
def hold1 (S : List (List UInt8)) (x : Rw) : Bool := S.all (fun s => decide (s.length = x.2.length)) && (decide ((combS x.1 S).2 = 0) && decide ((combS x.1 S).1 = x.2))
theorem combS_code (cs : List UInt8) (S : List (List UInt8)) : (combS cs S).2 = 0 ∨ (combS cs S).2 = 4 := by
  unfold combS; split
  · split <;> simp
  · simp
theorem enters_holds : Enters Tryd.prog 79 := enters_of Tryd.func79 (by kernel_rfl) rfl
theorem enters_fails : Enters Tryd.prog 54 := enters_of Tryd.func54 (by kernel_rfl) rfl
set_option maxHeartbeats 400000 in
theorem holds1_any (q q2 : Option Addr) (m c B s d : Nat) (w : World) (hB : w.cell? ⟨B, 1, none⟩ = some (.slice q2 s d)) :
    Calls Tryd.prog 79 #[.slice q m c, .pointer (some ⟨B, 0, none⟩)] w fun e w' => e = .returned (.bool ((m : Int) != s)) ∧ w = w' := by
  go_enter Tryd.func79, Tryd.ntmps79
  go_wp2
  go_ret
  exact ⟨rfl, rfl⟩
set_option maxRecDepth 100000 in
set_option maxHeartbeats 2000000 in
theorem holds_any (p q1 q2 : Option Addr) (k c m1 c1 m2 c2 : Nat) (S : List (List UInt8)) (x : Rw) (w : World) (h : Sl2 w p k c S) (h1 : Sl B8 w q1 m1 c1 x.1) (h2 : Sl B8 w q2 m2 c2 x.2) (hR : ∀ s, s ∈ S → Room s.length) :
    Calls Tryd.prog 55 #[.slice p k c, .agg #[.slice q1 m1 c1, .slice q2 m2 c2]] w fun e w' => e = .returned (.bool (hold1 S x)) ∧ Below w.heap.size w w' := by
  obtain ⟨R, hRd⟩ : ∃ R : Bool, R = hold1 S x := ⟨_, rfl⟩
  rw [← hRd]
  obtain ⟨vs, hvs, hvv⟩ := h.vals
  have hax := any_vals (n := m2) (hvs.len.trans h.len.symm) hvv
  have H := Lib.hid h; have H1 := Lib.hid h1; have H2 := Lib.hid h2; have HV := Lib.hid hvs; have HVV := Lib.hid hvv; have HA := Lib.hid hax; have HR := Lib.hid hR; have HRD := Lib.hid hRd; have L2 := Lib.hid h2.len
  clear h h1 h2 hvs hvv hax hR hRd
  go_enter Tryd.func55, Tryd.ntmps55
  go_wp2_with fail
  have K0 : Hid (BlkIs w.heap.size (.cells #[.slice q1 m1 c1, .slice q2 m2 c2] 63) (w.alloc (.cells #[.slice q1 m1 c1, .slice q2 m2 c2] 63))) := hnew rfl
  refine (ContainsFuncBB_any id (lenNe m2) 79 _ enters_holds p k c vs _ (HV.out.keep (ba1 _ _)) ?_).mono ?_
  · intro v hv
    obtain ⟨i, hi, e⟩ := List.getElem_of_mem hv
    obtain ⟨xs, q, c', hx, rfl, hs⟩ := HVV.out i v (by rw [List.getElem?_eq_getElem hi, e])
    exact holds1_any q _ _ c' _ m2 _ _ (cell_of_row _ _ 1 _ _ _ K0.out)
  rintro e w' ⟨rfl, rfl⟩
  rw [HA.out]
  clear HV HVV HA
  by_cases ha : S.all (fun y => decide (y.length = m2)) = true
  · have HAL := Lib.hid ha
    rw [ha]
    clear ha
    go_wp2_with fail
    refine Calls.mono (Comb_any q1 p m1 k c1 c x.1 S _ (H1.out.keep (ba1 _ _)) (H.out.keep (ba1 _ _)) HR.out) ?_
    rintro e w1 ⟨q, m, d, hm, rfl, ho, hb⟩
    have B1 : Hid (Below w.heap.size w w1) := bl (ba1 w _) hb (ba1 w _).size
    have K1 : Hid (BlkIs w.heap.size (.cells #[.slice q1 m1 c1, .slice q2 m2 c2] 63) w1) := K0.out.keep hb
    have S1 := Lib.hid (Sl.of_owns ho)
    have S2 := Lib.hid (H2.out.keep B1.out)
    clear ho hb K0 hm
    have c1' : w1.cell? ⟨w.heap.size, 1, none⟩ = some (.slice q2 m2 c2) := cell_of_row _ _ 1 _ _ _ K1.out
    rcases combS_code x.1 S with hc | hc
    · rw [hc]
      have HC := Lib.hid hc
      clear hc
      go_wp2_with fail
      refine Calls.mono (EqualB_d q q2 m m2 d c2 _ x.2 _ S1.out S2.out) ?_
      rintro e w2 ⟨rfl, qq, rfl⟩
      have B2 : Hid (Below w.heap.size w (w1.drewN qq)) := bl B1.out (bdn (Below.refl _ _)) B1.out.size
      have HE : Hid (decide ((combS x.1 S).1 = x.2) = R) := by
        show _ = _
        rw [HRD.out]; unfold hold1
        rw [L2.out, HAL.out, decide_eq_true HC.out, Bool.true_and, Bool.true_and]
      rw [HE.out]
      clear c1' K1 S1 S2 HE HC B1
      go_wp2
      go_ret
      exact ⟨rfl, B2.out⟩
    · rw [hc]
      have HE : Hid (R = false) := by
        show _ = _
        rw [HRD.out]; unfold hold1
        rw [decide_eq_false (by omega), Bool.false_and, Bool.and_false]
      clear hc c1' K1 S1 S2
      go_wp2
      go_ret
      exact ⟨by rw [HE.out]; rfl, B1.out⟩
  · have ha' := eq_false_of_ne_true ha
    rw [ha']
    have HE : Hid (R = false) := by
      show _ = _
      rw [HRD.out]; unfold hold1
      rw [L2.out, ha', Bool.false_and]
    clear ha ha' K0
    go_wp2
    go_ret
    exact ⟨by rw [HE.out]; rfl, ba1 _ _⟩
set_option maxHeartbeats 400000 in
theorem IndexRow2_any (f : Rw → Bool) (g : Nat) (lb : Array Value) (eg : Enters Tryd.prog g) (p : Option Addr) (n c : Nat) (K : List Rw) (w : World) (h : RwS w p n c K)
    (hf : ∀ (W : World) (q1 q2 : Option Addr) (m1 c1 m2 c2 : Nat) (x : Rw), Below w.heap.size w W → Sl B8 W q1 m1 c1 x.1 → Sl B8 W q2 m2 c2 x.2 → Calls Tryd.prog g (#[.agg #[.slice q1 m1 c1, .slice q2 m2 c2]] ++ lb) W fun e w' => e = .returned (.bool (f x)) ∧ Below W.heap.size W w') :
    Calls Tryd.prog 81 #[.slice p n c, .func (.func g) #[] lb] w fun e w' => e = .returned (.int .i64 (idxf f K)) ∧ Below w.heap.size w w' := by
  have hn := Nat.le_trans h.le h.max
  unfold maxLen at hn
  have H := Lib.hid h; clear h
  have HF := Lib.hid hf; clear hf
  have eg' : ∀ args w, (callFunc g args).run Tryd.prog w = .ok (.enter g args) w := eg
  clear eg
  go_enter Tryd.func81, Tryd.ntmps81
  go_wp2
  go_loopw [8] (fun i wr => ∃ k : Nat, k ≤ n ∧ i = .int .i64 k ∧ Hid (∀ j y, j < k → K[j]? = some y → f y = false) ∧ Hid (Below w.heap.size w wr)) (fun i _ => n - (intOf i).toNat)
  case atStart => exact ⟨0, Nat.zero_le _, rfl, fun j y hj => by omega, Below.refl _ _⟩
  case round =>
    obtain ⟨k, hk, rfl, hr, hB⟩ := hrel
    by_cases hlt : k < n
    · obtain ⟨x, hx⟩ : ∃ x, K[k]? = some x := ⟨_, List.getElem?_eq_getElem (by rw [H.out.len]; exact hlt)⟩
      obtain ⟨b, o, q1, m1, c1, q2, m2, c2, rfl, h1, h2, h3, h4⟩ := H.out.row k x hx
      have d1 := (hB.out.cell (p := ⟨b, o + k * 2, none⟩) (lt_of_cell h1)).trans h1
      have d2 := (hB.out.cell (p := ⟨b, o + k * 2 + 1, none⟩) (lt_of_cell h2)).trans h2
      have HX := Lib.hid hx
      have HS : Hid (Sl B8 wr q1 m1 c1 x.1) := h3.keep hB.out
      have HS2 : Hid (Sl B8 wr q2 m2 c2 x.2) := h4.keep hB.out
      have kn : (k : Int) < (n : Int) := by omega
      clear h1 h2 h3 h4 hx
      cases hfx : f x with
      | false =>
        have HQ := Lib.hid hfx; clear hfx
        go_wp2_with fail
        refine (HF.out wr q1 q2 m1 c1 m2 c2 x hB.out HS.out HS2.out).mono ?_; rintro e w2 ⟨rfl, hb2⟩
        have B2 : Hid (Below w.heap.size w w2) := bl hB.out hb2 hB.out.size
        rw [HQ.out]
        clear hb2 d1 d2 hB HS HS2
        go_wp2
        go_roundw
        case rel =>
          refine ⟨k + 1, by omega, by go_num, fun j y hj hy => ?_, B2.out⟩
          by_cases e : j = k
          · subst e; have := HX.out.symm.trans hy; cases this; exact HQ.out
          · exact hr.out j y (by omega) hy
        case measure => simp [intOf]; omega
      | true =>
        have HQ := Lib.hid hfx; clear hfx
        go_wp2_with fail
        refine (HF.out wr q1 q2 m1 c1 m2 c2 x hB.out HS.out HS2.out).mono ?_; rintro e w2 ⟨rfl, hb2⟩
        have B2 : Hid (Below w.heap.size w w2) := bl hB.out hb2 hB.out.size
        rw [HQ.out]
        clear hb2 d1 d2 hB HS HS2
        go_wp2
        go_ret
        exact ⟨by rw [idxf_found HX.out HQ.out hr.out]; rfl, B2.out⟩
    · go_wp2
      go_ret
      exact ⟨by rw [idxf_none (k := k) (by have := H.out.len; omega) hr.out]; rfl, hB.out⟩
set_option maxHeartbeats 400000 in
theorem ContainsRow_any (f : Rw → Bool) (g : Nat) (lb : Array Value) (eg : Enters Tryd.prog g) (p : Option Addr) (n c : Nat) (K : List Rw) (w : World) (h : RwS w p n c K)
    (hf : ∀ (W : World) (q1 q2 : Option Addr) (m1 c1 m2 c2 : Nat) (x : Rw), Below w.heap.size w W → Sl B8 W q1 m1 c1 x.1 → Sl B8 W q2 m2 c2 x.2 → Calls Tryd.prog g (#[.agg #[.slice q1 m1 c1, .slice q2 m2 c2]] ++ lb) W fun e w' => e = .returned (.bool (f x)) ∧ Below W.heap.size W w') :
    Calls Tryd.prog 56 #[.slice p n c, .func (.func g) #[] lb] w fun e w' => e = .returned (.bool (K.any f)) ∧ Below w.heap.size w w' := by
  have H := Lib.hid h; clear h
  have HF := Lib.hid hf; clear hf
  have HE := Lib.hid eg; clear eg
  go_enter Tryd.func56, Tryd.ntmps56
  go_wp2_with fail
  refine (IndexRow2_any f g lb HE.out p n c K w H.out HF.out).mono ?_; rintro e w' ⟨rfl, hb⟩
  have HB := Lib.hid hb
  clear hb
  go_wp2
  go_ret
  exact ⟨by rw [← idxf_ge]; rfl, HB.out⟩
set_option maxHeartbeats 400000 in
theorem fails_any (p q1 q2 : Option Addr) (k c m1 c1 m2 c2 g : Nat) (S : List (List UInt8)) (x : Rw) (w : World) (hg : w.cell? ⟨g, 0, none⟩ = some (.slice p k c)) (h : Sl2 w p k c S) (h1 : Sl B8 w q1 m1 c1 x.1) (h2 : Sl B8 w q2 m2 c2 x.2) (hR : ∀ s, s ∈ S → Room s.length) :
    Calls Tryd.prog 54 (#[.agg #[.slice q1 m1 c1, .slice q2 m2 c2]] ++ #[.pointer (some ⟨g, 0, none⟩)]) w fun e w' => e = .returned (.bool (!hold1 S x)) ∧ Below w.heap.size w w' := by
  have H := Lib.hid h; have H1 := Lib.hid h1; have H2 := Lib.hid h2; have HR := Lib.hid hR; have HG := Lib.hid hg
  clear h h1 h2 hR hg
  obtain ⟨R, hRd⟩ : ∃ R : Bool, R = hold1 S x := ⟨_, rfl⟩
  rw [← hRd]
  have HC : Hid (∀ W, Below w.heap.size w W → Calls Tryd.prog 55 #[.slice p k c, .agg #[.slice q1 m1 c1, .slice q2 m2 c2]] W fun e w' => e = .returned (.bool R) ∧ Below W.heap.size W w') := fun W hb => by
    rw [hRd]; exact holds_any p q1 q2 k c m1 c1 m2 c2 S x W (H.out.keep hb) (H1.out.keep hb) (H2.out.keep hb) HR.out
  clear hRd
  have hgc := ((ba1 w (.cells #[.slice q1 m1 c1, .slice q2 m2 c2] 63)).cell (p := ⟨g, 0, none⟩) (lt_of_cell HG.out)).trans HG.out
  go_enter Tryd.func54, Tryd.ntmps54
  go_wp2_with fail
  refine Calls.mono (HC.out _ (ba1 _ _)) ?_
  rintro e w1 ⟨rfl, hb⟩
  have B1 : Hid (Below w.heap.size w w1) := bl (ba1 w _) hb (ba1 w _).size
  clear hb hgc
  go_wp2
  go_ret
  exact ⟨rfl, B1.out⟩
set_option maxHeartbeats 400000 in
theorem Holds_any (p q : Option Addr) (k c m d : Nat) (S : List (List UInt8)) (K : List Rw) (w : World) (h : Sl2 w p k c S) (hK : RwS w q m d K) (hR : ∀ s, s ∈ S → Room s.length) :
    Calls Tryd.prog 27 #[.slice p k c, .slice q m d] w fun e w' => e = .returned (.bool (K.all (hold1 S))) ∧ Below w.heap.size w w' := by
  have H := Lib.hid h; have HK := Lib.hid hK; have HR := Lib.hid hR
  clear h hK hR
  obtain ⟨R, hRd⟩ : ∃ R : Bool, R = K.any (fun x => !hold1 S x) := ⟨_, rfl⟩
  have HRD : Hid (K.all (hold1 S) = !R) := by
    show _ = _
    rw [hRd, List.all_eq_not_any_not]
  rw [HRD.out]
  have HC : Hid (∀ W, Below w.heap.size w W → W.cell? ⟨w.heap.size, 0, none⟩ = some (.slice p k c) → Calls Tryd.prog 56 #[.slice q m d, .func (.func 54) #[] #[.pointer (some ⟨w.heap.size, 0, none⟩)]] W fun e w' => e = .returned (.bool R) ∧ Below W.heap.size W w') := fun W hb hc => by
    rw [hRd]
    exact ContainsRow_any (fun x => !hold1 S x) _ _ enters_fails q m d K W (HK.out.keep hb) (fun W2 q1 q2 m1 c1 m2 c2 x hb2 s1 s2 => fails_any p q1 q2 k c m1 c1 m2 c2 w.heap.size S x W2 ((hb2.cell (p := ⟨w.heap.size, 0, none⟩) (lt_of_cell hc)).trans hc) ((H.out.keep hb).keep hb2) s1 s2 HR.out)
  clear hRd HRD
  go_enter Tryd.func27, Tryd.ntmps27
  go_wp2_with fail
  refine Calls.mono (HC.out _ (ba1 _ _) (cell_of_row _ _ 0 _ _ _ (hnew rfl))) ?_
  rintro e w1 ⟨rfl, hb⟩
  have B1 : Hid (Below w.heap.size w w1) := bl (ba1 w _) hb (ba1 w _).size
  clear hb
  go_wp2
  go_ret
  exact ⟨rfl, B1.out⟩
end Go.Proofs.YtbfmdfbnhakolaaDoor
namespace Go.Proofs.YtbfmdfbnhakolaaDoor
open Go.RowKit Go.By Gf
theorem fits_calm {k n : Nat} {B : List V} {X : List Rw} (hX : ∀ y, y ∈ X → Fit k n y ∧ ConsV k B (vR y)) (m : Nat) : calm X m := by
  intro i x _ hx
  have hk : KeptS k n (kD (X.take i)) := kD_kept (fun r hr => (hX r hr).1) i
  have hs : Sys k n (kD (X.take i)) (redL (kD (X.take i))) := ⟨hk, rfl⟩
  have hm := hX x (List.mem_of_getElem? hx)
  rw [sys_clash hs hm.1]
  unfold clashB
  by_cases hl : leadS (restF (redL (kD (X.take i))) x).1 < 0
  · rw [sys_code hs (fun y hy => hX y (List.mem_of_mem_take hy)) hm.1 hm.2 hl]; simp
  · rw [decide_eq_false hl]; rfl
theorem fits_clash {k n : Nat} {B : List V} {X : List Rw} (hX : ∀ y, y ∈ X → Fit k n y ∧ ConsV k B (vR y)) (m : Nat) : clashI X m = -1 := calm_clashI m (fits_calm hX m)
theorem ins_ge (K : List Rw) (x : Rw) : K.length ≤ (insF K x).length := by
  rw [(ins_perm K x).length_eq]
  unfold keepF
  split
  · exact Nat.le_refl _
  · rw [List.length_append]; exact Nat.le_add_right _ _
theorem kD_more (X : List Rw) (y : Rw) : (kD X).length ≤ (kD (X ++ [y])).length := by rw [kD_snoc]; exact ins_ge _ _
/-- so many solutions -/
def cntI (k t : Nat) (X : List Rw) (m : Nat) : Nat := if clashI X m < 0 then 256 ^ (t * (k - (kD X).length)) else 0
theorem cntQ_le {k t m : Nat} {X : List Rw} {y : Rw} : cntI k t (X ++ [y]) m ≤ 256 ^ (t * (k - (kD X).length)) := by
  unfold cntI
  split
  · refine Nat.pow_le_pow_right (by decide) (Nat.mul_le_mul_left _ ?_)
    have := kD_more X y
    omega
  · exact Nat.zero_le _
theorem cntQ_one {k t r : Nat} (h : r ≤ k) : 256 ^ (t * (k - r)) = 1 ↔ r = k ∨ t = 0 := by
  constructor
  · intro e
    rcases Nat.eq_zero_or_pos (t * (k - r)) with h0 | h0
    · rcases Nat.mul_eq_zero.1 h0 with h1 | h1
      · exact .inr h1
      · exact .inl (by omega)
    · have := Nat.pow_le_pow_right (show 0 < 256 by decide) h0
      rw [e] at this
      exact absurd this (by decide)
  · rintro (rfl | rfl)
    · rw [Nat.sub_self, Nat.mul_zero]
    · rw [Nat.zero_mul]
/-- rows made of the symbols hold -/
theorem hold_rowC {k n : Nat} {FX : List (List UInt8)} {w : List UInt8} (hF : ∀ x, x ∈ FX → x.length = n) (hk : FX.length = k) (hk1 : 1 ≤ k) (hw : w.length = k) : hold1 FX (rowC n FX w) = true := by
  have hc : combS w FX = (mulR n FX w, 0) := by
    rw [comb_ok hF (hw.trans hk.symm), if_neg (fun e => by rw [e] at hk; simp at hk; omega)]
  unfold hold1 rowC
  rw [Bool.and_eq_true, Bool.and_eq_true, List.all_eq_true]
  refine ⟨fun s hs => decide_eq_true ?_, decide_eq_true ?_, decide_eq_true ?_⟩
  · rw [hF s hs, mulR_len hF]
  · show (combS w FX).2 = 0; rw [hc]
  · show (combS w FX).1 = mulR n FX w; rw [hc]
theorem cmpN_one (M : Nat) : (cmpN M 1 == 0) = decide (M = 1) := by
  unfold cmpN
  by_cases h : M = 1
  · subst h; rfl
  · rw [decide_eq_false h]
    by_cases h1 : M < 1
    · rw [if_pos h1]; rfl
    · rw [if_neg h1, if_pos (by omega)]; rfl
theorem cmpN_le {M N : Nat} (h : M ≤ N) : cmpN M N ≤ 0 := by
  unfold cmpN
  split
  · omega
  · rw [if_neg (by omega)]; omega
end Go.Proofs.YtbfmdfbnhakolaaDoor
namespace Go.Proofs.YtbfmdfbnhakolaaDoor
open Go.RowKit Go.By
theorem fitR_fill9 (n : Nat) (row : List UInt8) : fillS (List.replicate n 0) row = fitR n row := by
  unfold fillS fitR
  rw [List.length_replicate, List.drop_replicate]
theorem take_map_succ9 {α β : Type} {f : α → β} {xs : List α} {k : Nat} {a : α} (h : xs[k]? = some a) : (xs.take (k + 1)).map f = (xs.take k).map f ++ [f a] := by
  rw [List.take_add_one, h, List.map_append]; rfl
theorem own_kind {w : World} {base T s n : Nat} {v : Value} {L : List Value} (ho : w.ownsRow base T s v n L) : ∀ b, v.ownBlock = some b → ∃ (cs : Array Value) (fr : Nat × Nat), w.heap[b]? = some (.cells cs T fr) := fun b hs => by
  rcases ho.2 with ⟨e1, _⟩ | ⟨g', cap, cur, e1, _, hc, _⟩
  · rw [e1] at hs; cases hs
  · rw [e1] at hs; cases hs
    exact ⟨_, _, hc⟩
theorem own_other {w : World} {base T s n : Nat} {v : Value} {L : List Value} (ho : w.ownsRow base T s v n L) {T' b : Nat} {cs : Array Value} {fr : Nat × Nat} (hb : w.heap[b]? = some (.cells cs T' fr)) (hT : T' ≠ T) : some b ≠ v.ownBlock := fun e => by
  obtain ⟨cs', fr', h⟩ := own_kind ho b e.symm
  rw [hb] at h; cases h; exact hT rfl
theorem Ws.grow {w w' : World} {base T U s n m : Nat} {v : Value} {L : List Value} (ho : w.ownsRow base T s v m L) (hg : w.grownBy w' v.ownBlock) {q : Option Addr} {c N : Nat} (h : Ws U w q n c N) (hT : U ≠ T) : Ws U w' q n c N := by
  obtain ⟨ws, hs, hn, hv⟩ := h.ex
  have hq : ∀ a, q = some a → some a.block ≠ v.ownBlock := fun a ha => by
    obtain ⟨cs, fr, hh⟩ := h.lies a ha
    exact own_other ho hh hT
  refine ⟨⟨ws, hs.grown hg hq, hn, hv⟩, h.le, fun a ha => ?_⟩
  obtain ⟨cs, fr, hh⟩ := h.lies a ha
  exact ⟨cs, fr, (hg.block _ (lt_of_block hh) (hq a ha)).trans hh⟩
end Go.Proofs.YtbfmdfbnhakolaaDoor
namespace Go.Proofs.YtbfmdfbnhakolaaDoor
open Go.RowKit Go.By
end Go.Proofs.YtbfmdfbnhakolaaDoor
namespace Go.By
open Go.RowKit
theorem byte_of_wf {a : Int} (h : (Lit.int .u8 a).wf = true) : ∃ x : UInt8, Value.int .u8 a = B8 x ∧ a = (x.toNat : Int) := by
  have hb := bounds_u8 h
  have e : a = ((UInt8.ofNat a.toNat).toNat : Int) := by simp; omega
  exact ⟨UInt8.ofNat a.toNat, B8_congr e, e⟩
theorem sl_of_row {w : World} {a : Option Addr} {len cap : Nat} {zs : List Int}
    (h : (a = none ∧ len = 0 ∧ cap = 0 ∧ zs = []) ∨ ∃ x, a = some x ∧ len ≤ cap ∧ cap ≤ maxLen ∧ zs.length = cap ∧ (∀ i, i < zs.length → w.cell? (x.add i) = some (.int .u8 (zs.getD i 0))) ∧ ∀ n ∈ zs, (Lit.int .u8 n).wf = true) :
    ∃ xs, Sl B8 w a len cap xs := by
  rcases h with ⟨rfl, rfl, rfl, _⟩ | ⟨x, rfl, hl, hm, hz, hc, hw⟩
  · exact ⟨[], Sl.nil0 _ _⟩
  · refine ⟨(zs.take len).map fun z => UInt8.ofNat z.toNat, ⟨by simp; omega, hl, hm, fun h => by simp at h, ?_⟩⟩
    intro i hi
    have hi' : i < zs.length := by simp at hi; omega
    obtain ⟨b, o, hx, hc'⟩ := ints_at hc (by omega)
    refine ⟨b, o, by rw [hx], ?_⟩
    have hh := hc i hi'
    rw [hx, Addr.add_lit] at hh
    rw [hh]
    have e : zs.getD i 0 = zs[i] := by simp [hi']
    rw [e]
    have hb := bounds_u8 (hw _ (List.getElem_mem hi'))
    simp
    omega
end Go.By
namespace Go.By
open Go.RowKit
theorem spot_none {w : World} {x : Addr} {v : Value} (h : w.cell? (x.add 0) = some v) : ∃ b o, x = ⟨b, o, none⟩ := by
  obtain ⟨b, off, spot⟩ := x
  have hspot : spot = none := by simpa [Addr.add] using World.cell?_spot h
  subst hspot
  exact ⟨b, off, rfl⟩
theorem sl2_of_rows {w : World} {a : Option Addr} {len cap : Nat} (hl : len ≤ cap) (hm : cap ≤ maxLen) (hn : a = none → len = 0 ∧ cap = 0) (A : Nat → Option Addr) (L C : Nat → Nat) (Z : Nat → List Int)
    (h : ∀ x, a = some x → ∀ r, r < cap → w.cell? (x.add r) = some (.slice (A r) (L r) (C r)) ∧ L r ≤ C r ∧ C r ≤ maxLen ∧ (Z r).length = C r ∧ (∀ n ∈ Z r, (Lit.int .u8 n).wf = true) ∧ (A r = none → C r = 0) ∧
        ∀ a', A r = some a' → ∀ c, c < C r → w.cell? (a'.add c) = some (.int .u8 ((Z r).getD c 0))) : ∃ xss, Sl2 w a len cap xss := by
  have each : ∀ r, ∃ xs, r < len → Sl B8 w (A r) (L r) (C r) xs := by
    intro r
    by_cases hr : r < len
    · cases ha : a with
      | none => have := hn ha; omega
      | some x =>
        obtain ⟨_, h1, h2, h3, h4, h5, h6⟩ := h x ha r (by omega)
        cases hA : A r with
        | none =>
          have := h5 hA
          have hL : L r = 0 := by omega
          exact ⟨[], fun _ => by rw [hL, this]; exact Sl.nil0 _ _⟩
        | some a' =>
          obtain ⟨xs, hx⟩ := sl_of_row (w := w) (a := some a') (len := L r) (cap := C r) (zs := Z r) (.inr ⟨a', rfl, h1, h2, h3, fun i hi => h6 a' hA i (by omega), h4⟩)
          exact ⟨xs, fun _ => hx⟩
    · exact ⟨[], fun h => absurd h hr⟩
  refine ⟨(List.range len).map fun r => Classical.choose (each r), ⟨by simp, hl, hm, hn, ?_⟩⟩
  intro i xs hi
  obtain ⟨hi', e⟩ := List.getElem?_eq_some_iff.1 hi
  simp at hi' e
  have hs := Classical.choose_spec (each i) hi'
  rw [e] at hs
  cases ha : a with
  | none => have := hn ha; omega
  | some x =>
    obtain ⟨hc, _⟩ := h x ha i (by omega)
    obtain ⟨b, o, rfl⟩ := spot_none (h x ha 0 (by omega)).1
    rw [Addr.add_lit] at hc
    exact ⟨b, o, A i, C i, rfl, by rw [hs.len]; exact hc, by rw [hs.len]; exact hs⟩
end Go.By
namespace Go.Proofs.YtbfmdfbnhakolaaDoor
open Go.RowKit Go.By
theorem tab_of {d32 : DataW Unit} {rest : List (String × DataW Unit)} {W : World} (h : laidMet Tryd.prog (("math/bits.deBruijn32tab", d32) :: ("math/bits.deBruijn64tab", Rows.laid_math_bits_deBruijn64tab) :: rest) W) : Tab W := by
  obtain ⟨zs, hz⟩ : ∃ zs : List Int, (Rows.laid_math_bits_deBruijn64tab : DataW Unit) = Lib.tabData .u8 zs ∧ zs.length = 64 ∧ zs.getD 15 0 = 4 := ⟨[0, 1, 56, 2, 57, 49, 28, 3, 61, 58, 42, 50, 38, 29, 17, 4, 62, 47, 59, 36, 45, 43, 51, 22, 53, 39, 33, 30, 24, 18, 12, 5, 63, 55, 48, 27, 60, 41, 37, 16, 46, 35, 44, 21, 52, 32, 23, 11, 54, 26, 40, 15, 34, 20, 31, 10, 25, 14, 19, 9, 13, 8, 7, 6], rfl, rfl, rfl⟩
  have h2 := laidMet.tail h
  rw [hz.1] at h2
  have h3 := Lib.tabIs_of_head (g := 3) (t := 168) (e := 5) (n := 64) (by kernel_rfl) (by kernel_rfl) (by kernel_rfl) (by kernel_rfl) (by kernel_rfl) (by kernel_rfl) h2
  have := h3.cell (g := 3) (by kernel_rfl) 15 (by omega)
  rw [hz.2.2] at this
  exact this
end Go.Proofs.YtbfmdfbnhakolaaDoor
