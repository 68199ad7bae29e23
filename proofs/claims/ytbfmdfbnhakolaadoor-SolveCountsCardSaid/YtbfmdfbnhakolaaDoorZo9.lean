/- The law's Rows: what its region leaves. The law's Rows. Whether chapter 9 is awake. SolveJudges: the walk. SolveJudges: sizes out of range. SolveJudges: sizes within bounds. SolveJudges: whole. Whether symbols hold for equations: Holds. Equations that symbols solve: there is a solution; how many: plain laws. -/
import Derived.Test.YtbfmdfbnhakolaaDoorZo8
namespace Go.Proofs.YtbfmdfbnhakolaaDoor
open Go.RowKit Go.By
/-- what an operation of the region leaves -/
def RJ (vA vB : Value) (i : Nat) (w w' : World) : Prop := (i = 4 ∧ App 63 vA w w') ∨ (i = 9 ∧ App 71 vB w w') ∨ (i ≠ 4 ∧ i ≠ 9 ∧ Below w.heap.size w w')
/-- what holds of the world -/
structure EJ (wz : World) (H b7 : Nat) (x7 y7 : Value) (vA vB : Value) (n : Nat) (K : List Rw) (dn : Nat → Bool) (w : World) : Prop where
  bel : Below wz.heap.size wz w
  hH : H ≤ w.heap.size
  box : w.heap[b7]? = some (.cells #[x7, y7] 54 (0, 0))
  a : dn 4 = false → RwL 63 5 w wz.heap.size vA n K
  b : dn 9 = false → OwnP 71 wz w wz.heap.size vB n K
def shJ (wz : World) (H : Nat) (x7 y7 : Value) (vA vB : Value) (n : Nat) (K : List Rw) (k : Rw) (j : Nat) (v : Value) (w : World) : Prop := match j with
  | 0 => v = vA
  | 1 => v = .agg #[x7, y7]
  | 2 => ∃ u1 u2, v = .agg #[u1, u2] ∧ Bw 5 w wz.heap.size u1 k.1 ∧ Bw 5 w wz.heap.size u2 k.2
  | 3 => ∃ g u1 u2, v = .slice (some ⟨g, 0, none⟩) 1 1 ∧ H ≤ g ∧ w.heap[g]? = some (.cells #[u1, u2] 63 (0, 0)) ∧ Bw 5 w wz.heap.size u1 k.1 ∧ Bw 5 w wz.heap.size u2 k.2
  | 4 => RwL 63 5 w wz.heap.size v (n + 1) (K ++ [k])
  | 5 => v = vB
  | 6 => v = .agg #[x7, y7]
  | 7 => v = .agg #[x7, y7]
  | 8 => ∃ g, v = .slice (some ⟨g, 0, none⟩) 1 1 ∧ H ≤ g ∧ w.heap[g]? = some (.cells #[x7, y7] 71 (0, 0))
  | 9 => OwnP 71 wz w wz.heap.size v (n + 1) (K ++ [k])
  | 10 => RwL 63 5 w wz.heap.size v (n + 1) (K ++ [k])
  | 11 => OwnP 71 wz w wz.heap.size v (n + 1) (K ++ [k])
  | _ => True
section
variable {wz w w' : World} {H b7 : Nat} {x7 y7 : Value} {vA vB : Value} {n : Nat} {K : List Rw} {k : Rw}
theorem RJ.bw {i base : Nat} {u : Value} {xs : List UInt8} (h : RJ vA vB i w w') (hb : Bw 5 w base u xs) : Bw 5 w' base u xs := by
  rcases h with ⟨_, h⟩ | ⟨_, h⟩ | ⟨_, _, h⟩
  · exact h.bw hb (by decide)
  · exact h.bw hb (by decide)
  · exact hb.keep h
theorem RJ.a {i base m : Nat} {u : Value} {L : List Rw} (h : RJ vA vB i w w') (hi : i ≠ 4) (hr : RwL 63 5 w base u m L) : RwL 63 5 w' base u m L := by
  rcases h with ⟨e, _⟩ | ⟨_, h⟩ | ⟨_, _, h⟩
  · exact absurd e hi
  · exact h.rwL hr (by decide) (by decide)
  · exact hr.keep h
theorem RJ.b {i base m : Nat} {u : Value} {L : List Rw} (h : RJ vA vB i w w') (hi : i ≠ 9) (hr : OwnP 71 wz w base u m L) : OwnP 71 wz w' base u m L := by
  rcases h with ⟨_, h⟩ | ⟨e, _⟩ | ⟨_, _, h⟩
  · exact h.ownP hr (by decide)
  · exact absurd e hi
  · exact hr.keep h
theorem RJ.new {i g : Nat} {o : Obj} (h : RJ vA vB i w w') (hA : ∀ b, vA.ownBlock = some b → b < H) (hB : ∀ b, vB.ownBlock = some b → b < H) (hg : H ≤ g) (ho : w.heap[g]? = some o) : w'.heap[g]? = some o := by
  have hl := blk_lt ho
  rcases h with ⟨_, h⟩ | ⟨_, h⟩ | ⟨_, _, h⟩
  · exact (h.block hl (fun e => by have := hA g e; omega)).trans ho
  · exact (h.block hl (fun e => by have := hB g e; omega)).trans ho
  · exact (h.block g hl).trans ho
theorem RJ.ej {i : Nat} {dn : Nat → Bool} (hE : EJ wz H b7 x7 y7 vA vB n K dn w) (h : RJ vA vB i w w') (hA : ∀ b, vA.ownBlock = some b → wz.heap.size ≤ b) (hB : ∀ b, vB.ownBlock = some b → wz.heap.size ≤ b) : EJ wz H b7 x7 y7 vA vB n K (fun j => if i = j then true else dn j) w' := by
  have hs := hE.bel.size
  refine ⟨?_, ?_, ?_, fun e => ?_, fun e => ?_⟩
  · rcases h with ⟨_, h⟩ | ⟨_, h⟩ | ⟨_, _, h⟩
    · exact hE.bel.grown h.1 hs (fun b hb => hA b hb)
    · exact hE.bel.grown h.1 hs (fun b hb => hB b hb)
    · exact bl hE.bel h hs
  · rcases h with ⟨_, h⟩ | ⟨_, h⟩ | ⟨_, _, h⟩
    · exact Nat.le_trans hE.hH h.1.size
    · exact Nat.le_trans hE.hH h.1.size
    · exact Nat.le_trans hE.hH h.size
  · rcases h with ⟨_, h⟩ | ⟨_, h⟩ | ⟨_, _, h⟩
    · exact h.blockT hE.box (by decide)
    · exact h.blockT hE.box (by decide)
    · exact (h.block _ (blk_lt hE.box)).trans hE.box
  · by_cases hi : i = 4
    · subst hi; simp at e
    · simp only [if_neg hi] at e
      exact h.a hi (hE.a e)
  · by_cases hi : i = 9
    · subst hi; simp at e
    · simp only [if_neg hi] at e
      exact h.b hi (hE.b e)
end
end Go.Proofs.YtbfmdfbnhakolaaDoor
namespace Go.Proofs.YtbfmdfbnhakolaaDoor
open Go.RowKit Go.By
set_option maxRecDepth 100000 in
set_option maxHeartbeats 4000000 in
theorem Rows9_any (p : Option Addr) (m c : Nat) (L : List Rw) (w : World) (h : RwS w p m c L) (hm : m ≤ 65536) (hL : ∀ x, x ∈ L → Room x.1.length ∧ Room x.2.length) :
    Calls Tryd.prog 19 #[.slice p m c] w fun e w' => ∃ q1 c1 q2 c2, e = .returned (.tuple #[.slice q1 m c1, .slice q2 m c2]) ∧ RwS w' q1 m c1 L ∧ RwS w' q2 m c2 L ∧ Below w.heap.size w w' := by
  obtain ⟨i0, hi0, hz0, hz1, hz2⟩ := info_parts info_vrow
  obtain ⟨r0, hr0, hrz, hr1, hr2⟩ := info_parts info_rrow
  have H := Lib.hid h; have HLEN := Lib.hid h.len; have HL := Lib.hid hL
  clear h hL
  go_enter Tryd.func19, Tryd.ntmps19
  go_wp2
  go_loopw [4, 5, 10] (fun va vb iv wr => ∃ (k : Nat) (qa : Option Addr) (ca : Nat) (qb : Option Addr) (cb : Nat), k ≤ m ∧ iv = .int .i64 k ∧ va = .slice qa k ca ∧ vb = .slice qb k cb ∧ Hid (RwL 63 5 wr w.heap.size (.slice qa k ca) k (L.take k)) ∧ Hid (OwnP 71 w wr w.heap.size (.slice qb k cb) k (L.take k)) ∧ Hid (Below w.heap.size w wr)) (fun _ _ iv _ => m - (intOf iv).toNat)
  case atStart => exact ⟨0, none, 0, none, 0, Nat.zero_le _, rfl, rfl, rfl, by show RwL _ _ _ _ _ _ (L.take 0); rw [List.take_zero]; exact RwL.nil _ _ _ _, by show OwnP _ _ _ _ _ _ (L.take 0); rw [List.take_zero]; exact OwnP.nil _ _ _ _, Below.refl _ _⟩
  case round =>
    obtain ⟨k, qa, ca, qb, cb, hk, rfl, rfl, rfl, hA, hP, hB⟩ := hrel
    by_cases hlt : k < m
    · have kn : (k : Int) < (m : Int) := by omega
      obtain ⟨x, hx⟩ : ∃ x, L[k]? = some x := ⟨_, List.getElem?_eq_getElem (by rw [HLEN.out]; exact hlt)⟩
      obtain ⟨b, o, q1, m1, c1, q2, m2, c2, rfl, d1, d2, s1, s2⟩ := H.out.row k x hx
      have hroom := HL.out x (List.mem_of_getElem? hx)
      have R1 : Hid (Room m1) := by rw [← s1.len]; exact hroom.1
      have R2 : Hid (Room m2) := by rw [← s2.len]; exact hroom.2
      have D1 := (hB.out.cell (p := ⟨b, o + k * 2, none⟩) (lt_of_cell d1)).trans d1
      have D2 := (hB.out.cell (p := ⟨b, o + k * 2 + 1, none⟩) (lt_of_cell d2)).trans d2
      have S1 := Lib.hid s1; have S2 := Lib.hid s2
      have htk : Hid (L.take (k + 1) = L.take k ++ [x]) := by show _ = _; rw [List.take_add_one, hx]; rfl
      obtain ⟨K, hK⟩ : ∃ K, K = L.take k := ⟨_, rfl⟩
      rw [← hK] at hA hP htk
      have hsz := hB.out.size
      obtain ⟨W, hW⟩ : ∃ W, W = wr.alloc (.cells #[.slice q1 m1 c1, .slice q2 m2 c2] 54) := ⟨_, rfl⟩
      have hW1 : Below wr.heap.size wr W := by rw [hW]; exact al (Below.refl _ _) (Nat.le_refl _)
      have hWd : Below wr.heap.size wr W.drew := ⟨hW1.os, hW1.tape, hW1.output, hW1.size, hW1.block⟩
      have EW : Hid (EJ w W.heap.size wr.heap.size (.slice q1 m1 c1) (.slice q2 m2 c2) (.slice qa k ca) (.slice qb k cb) k K (fun _ => false) W.drew) :=
        ⟨(bl hB.out hWd hsz), Nat.le_refl _, by show W.heap[wr.heap.size]? = _; rw [hW]; exact hnew rfl, fun _ => (hA.out.keep hWd), fun _ => (hP.out.keep hWd)⟩
      have hA0 : Hid (∀ g, (Value.slice qa k ca).ownBlock = some g → w.heap.size ≤ g ∧ g < W.heap.size) := fun g hg => by
        have := hA.out.lt g hg; have := hW1.size; omega
      have hB0 : Hid (∀ g, (Value.slice qb k cb).ownBlock = some g → w.heap.size ≤ g ∧ g < W.heap.size) := fun g hg => by
        obtain ⟨vs, _, _, ho, _⟩ := hP.out
        have := ho.lt g hg; have := hW1.size; omega
      have HW := Lib.hid hW
      clear d1 d2 s1 s2 hx hroom hW1 hWd hK hW hA hP
      go_wp2
      rw [← HW.out]
      refine wp_region_dones (EJ w W.heap.size wr.heap.size (.slice q1 m1 c1) (.slice q2 m2 c2) (.slice qa k ca) (.slice qb k cb) k K) (RJ (.slice qa k ca) (.slice qb k cb)) (shJ w W.heap.size (.slice q1 m1 c1) (.slice q2 m2 c2) (.slice qa k ca) (.slice qb k cb) k K x) 27 rfl (by kernel_rfl) (by decide) (by decide) (by decide) EW.out (fun dn i w1 w2 _ hE hR => hR.ej hE (fun g hg => (hA0.out g hg).1) (fun g hg => (hB0.out g hg).1)) ?_ ⟨?_, ?_, ?_, ?_, ?_, ?_, ?_, ?_, ?_, ?_, ?_, ?_, trivial⟩ ?_
      · intro i j v w1 w2 hij hp hs hR
        match j, hij, hp, hs with
        | 0, _, _, hs => exact hs
        | 1, _, _, hs => exact hs
        | 2, _, _, hs => obtain ⟨u1, u2, e, g1, g2⟩ := hs; exact ⟨u1, u2, e, hR.bw g1, hR.bw g2⟩
        | 3, _, _, hs => obtain ⟨g, u1, u2, e, hg, hh, g1, g2⟩ := hs; exact ⟨g, u1, u2, e, hg, hR.new (fun b hb => (hA0.out b hb).2) (fun b hb => (hB0.out b hb).2) hg hh, hR.bw g1, hR.bw g2⟩
        | 4, hij, _, hs => exact RJ.a hR hij hs
        | 5, _, _, hs => exact hs
        | 6, _, _, hs => exact hs
        | 7, _, _, hs => exact hs
        | 8, _, _, hs => obtain ⟨g, e, hg, hh⟩ := hs; exact ⟨g, e, hg, hR.new (fun b hb => (hA0.out b hb).2) (fun b hb => (hB0.out b hb).2) hg hh⟩
        | 9, hij, _, hs => exact RJ.b hR hij hs
        | 10, _, hp, hs => exact RJ.a hR (fun e => by subst e; exact absurd hp (by decide)) hs
        | 11, _, hp, hs => exact RJ.b hR (fun e => by subst e; exact absurd hp (by decide)) hs
        | j + 12, _, _, _ => exact trivial
      · intro a W2 dn hdn hE hs hp hi
        exact ite_y rfl (wp_val (sl a 4) rfl ⟨_, rfl, .inr (.inr ⟨by decide, by decide, Below.refl _ _⟩), hi 4 (by decide)⟩)
      · intro a W2 dn hdn hE hs hp hi
        have tt : sl a 7 = .pointer (some ⟨wr.heap.size, 0, none⟩) := hi 7 (by decide)
        have e0 := cell_of_row _ _ 0 _ _ _ hE.box
        have e1 := cell_of_row _ _ 1 _ _ _ hE.box
        refine ite_y rfl (wp_val (.agg #[.slice q1 m1 c1, .slice q2 m2 c2]) ?_ ⟨_, rfl, .inr (.inr ⟨by decide, by decide, Below.refl _ _⟩), rfl⟩)
        simp only [execOp, eval_tmp, tt]; simp [go_sem, e0, e1]
      · intro a W2 dn hdn hE hs hp hi
        have tt : sl a 15 = .agg #[.slice q1 m1 c1, .slice q2 m2 c2] := hp 1 (by decide)
        refine ite_y rfl (wp_enter 29 #[.agg #[.slice q1 m1 c1, .slice q2 m2 c2]] ?_ (OMake_any q1 q2 m1 c1 m2 c2 x.1 x.2 W2 (S1.out.keep hE.bel) (S2.out.keep hE.bel) R1.out R2.out) ?_)
        · simp only [execOp, resolve, List.map_toArray, List.map, eval_tmp, eval_func, eval_const, tt]; simp [go_sem]
        · rintro e W3 ⟨p1, n1, d1, p2, n2, d2, g1, g2, rfl, o1, o2, hb⟩
          exact ⟨_, rfl, _, rfl, .inr (.inr ⟨by decide, by decide, hb⟩), _, _, rfl, ⟨_, _, _, rfl, g1.out, owns_mono o1 hE.bel.size⟩, ⟨_, _, _, rfl, g2.out, owns_mono o2 hE.bel.size⟩⟩
      · intro a W2 dn hdn hE hs hp hi
        have tt : ∃ u1 u2, sl a 16 = .agg #[u1, u2] ∧ Bw 5 W2 w.heap.size u1 x.1 ∧ Bw 5 W2 w.heap.size u2 x.2 := hp 2 (by decide)
        obtain ⟨u1, u2, tt, ⟨p1, n1, d1, rfl, l1, o1⟩, ⟨p2, n2, d2, rfl, l2, o2⟩⟩ := tt
        refine ite_y rfl (wp_val' (w' := W2.alloc (.cells #[.slice p1 n1 d1, .slice p2 n2 d2] 63)) (.slice (some ⟨W2.heap.size, 0, none⟩) 1 1) ?_ ⟨_, rfl, .inr (.inr ⟨by decide, by decide, al (Below.refl _ _) (Nat.le_refl _)⟩), W2.heap.size, _, _, rfl, hE.hH, hnew rfl, Bw.keep ⟨p1, n1, d1, rfl, l1, o1⟩ (al (Below.refl _ _) (Nat.le_refl _)), Bw.keep ⟨p2, n2, d2, rfl, l2, o2⟩ (al (Below.refl _ _) (Nat.le_refl _))⟩)
        simp only [execOp, List.map_toArray, List.map, eval_tmp, tt]; simp [go_sem, tt]
      · intro a W2 dn hdn hE hs hp hi
        have t14 : sl a 14 = .slice qa k ca := hp 0 (by decide)
        have tt : ∃ g u1 u2, sl a 17 = .slice (some ⟨g, 0, none⟩) 1 1 ∧ W.heap.size ≤ g ∧ W2.heap[g]? = some (.cells #[u1, u2] 63 (0, 0)) ∧ Bw 5 W2 w.heap.size u1 x.1 ∧ Bw 5 W2 w.heap.size u2 x.2 := hp 3 (by decide)
        obtain ⟨g, u1, u2, t17, _, hg, b1, b2⟩ := tt
        have c1' : u1.oneCell' = true := by obtain ⟨_, _, _, rfl, _⟩ := b1; rfl
        have c2' : u2.oneCell' = true := by obtain ⟨_, _, _, rfl, _⟩ := b2; rfl
        obtain ⟨vs, la, lb, ho, hr⟩ := hE.a hdn
        refine ite_y rfl (wp_append_row (.tmp 14) (.tmp 17) 43 rfl w.heap.size 63 i0 _ 48 Tryd.underlying43 hi0 hz0 hz1 hz2 rfl (.slice qa k ca) k vs t14 ho g 1 u1 u2 _ _ t17 hg c1' c2' (by unfold maxLen; omega) (by omega) hE.bel.size ?_)
        intro v' w' ho' hg'
        exact ⟨v', rfl, .inl ⟨rfl, hg', tyS_of ho⟩, RwL.push la lb ho hr (by decide) b1 b2 ho' hg'⟩
      · intro a W2 dn hdn hE hs hp hi
        exact ite_y rfl (wp_val (sl a 5) rfl ⟨_, rfl, .inr (.inr ⟨by decide, by decide, Below.refl _ _⟩), hi 5 (by decide)⟩)
      · intro a W2 dn hdn hE hs hp hi
        have tt : sl a 7 = .pointer (some ⟨wr.heap.size, 0, none⟩) := hi 7 (by decide)
        have e0 := cell_of_row _ _ 0 _ _ _ hE.box
        have e1 := cell_of_row _ _ 1 _ _ _ hE.box
        refine ite_y rfl (wp_val (.agg #[.slice q1 m1 c1, .slice q2 m2 c2]) ?_ ⟨_, rfl, .inr (.inr ⟨by decide, by decide, Below.refl _ _⟩), rfl⟩)
        simp only [execOp, eval_tmp, tt]; simp [go_sem, e0, e1]
      · intro a W2 dn hdn hE hs hp hi
        have tt : sl a 20 = .agg #[.slice q1 m1 c1, .slice q2 m2 c2] := hp 6 (by decide)
        refine ite_y rfl (wp_enter 40 #[.agg #[.slice q1 m1 c1, .slice q2 m2 c2]] ?_ (ORef_any q1 q2 m1 c1 m2 c2 W2) ?_)
        · simp only [execOp, resolve, List.map_toArray, List.map, eval_tmp, eval_func, eval_const, tt]; simp [go_sem]
        · rintro e W3 ⟨rfl, hb⟩
          exact ⟨_, rfl, _, rfl, .inr (.inr ⟨by decide, by decide, hb⟩), rfl⟩
      · intro a W2 dn hdn hE hs hp hi
        have tt : sl a 21 = .agg #[.slice q1 m1 c1, .slice q2 m2 c2] := hp 7 (by decide)
        refine ite_y rfl (wp_val' (w' := W2.alloc (.cells #[.slice q1 m1 c1, .slice q2 m2 c2] 71)) (.slice (some ⟨W2.heap.size, 0, none⟩) 1 1) ?_ ⟨_, rfl, .inr (.inr ⟨by decide, by decide, al (Below.refl _ _) (Nat.le_refl _)⟩), W2.heap.size, rfl, hE.hH, hnew rfl⟩)
        simp only [execOp, List.map_toArray, List.map, eval_tmp, tt]; simp [go_sem, tt]
      · intro a W2 dn hdn hE hs hp hi
        have t19 : sl a 19 = .slice qb k cb := hp 5 (by decide)
        have tt : ∃ g, sl a 22 = .slice (some ⟨g, 0, none⟩) 1 1 ∧ W.heap.size ≤ g ∧ W2.heap[g]? = some (.cells #[.slice q1 m1 c1, .slice q2 m2 c2] 71 (0, 0)) := hp 8 (by decide)
        obtain ⟨g, t22, _, hg⟩ := tt
        obtain ⟨vs, la, lb, ho, hr⟩ := hE.b hdn
        refine ite_y rfl (wp_append_row (.tmp 19) (.tmp 22) 44 rfl w.heap.size 71 r0 _ 48 Tryd.underlying44 hr0 hrz hr1 hr2 rfl (.slice qb k cb) k vs t19 ho g 1 _ _ _ _ t22 hg rfl rfl (by unfold maxLen; omega) (by omega) hE.bel.size ?_)
        intro v' w' ho' hg'
        exact ⟨v', rfl, .inr (.inl ⟨rfl, hg', tyS_of ho⟩), OwnP.push la lb hr ⟨_, _, _, _, _, _, rfl, S1.out, S2.out⟩ ho'⟩
      · intro a W2 dn hdn hE hs hp hi
        exact ite_y rfl (wp_val (sl a 18) rfl ⟨_, rfl, .inr (.inr ⟨by decide, by decide, Below.refl _ _⟩), hp 4 (by decide)⟩)
      · intro a W2 dn hdn hE hs hp hi
        exact ite_y rfl (wp_val (sl a 23) rfl ⟨_, rfl, .inr (.inr ⟨by decide, by decide, Below.refl _ _⟩), hp 9 (by decide)⟩)
      · intro a W2 dn hE hs hd hI ht
        have ha := act_is [14, 15, 16, 17, 18, 19, 20, 21, 22, 23, 4, 5] hs hd ht (by decide)
        have hA4 : RwL 63 5 W2 w.heap.size (sl a 4) (k + 1) (K ++ [x]) := hI 10 (by decide)
        have hB5 : OwnP 71 w W2 w.heap.size (sl a 5) (k + 1) (K ++ [x]) := hI 11 (by decide)
        obtain ⟨qa', ca', t4⟩ := hA4.shape
        obtain ⟨qb', cb', t5⟩ := hB5.shape
        rw [t4] at hA4; rw [t5] at hB5
        rw [← htk.out] at hA4 hB5
        have HA4 := Lib.hid hA4; have HB5 := Lib.hid hB5
        have HB2 := Lib.hid hE.bel
        simp only [List.foldl, t4, t5] at ha
        clear hA4 hB5 hI t4 t5 hE ht
        generalize sl a 14 = u14 at ha
        generalize sl a 15 = u15 at ha
        generalize sl a 16 = u16 at ha
        generalize sl a 17 = u17 at ha
        generalize sl a 18 = u18 at ha
        generalize sl a 19 = u19 at ha
        generalize sl a 20 = u20 at ha
        generalize sl a 21 = u21 at ha
        generalize sl a 22 = u22 at ha
        generalize sl a 23 = u23 at ha
        simp only [Act.put, List.setIfInBounds_toArray, List.set_cons_zero, List.set_cons_succ] at ha
        rw [ha]
        clear ha hs hd S1 S2 R1 R2 D1 D2 hA0 hB0 EW HW htk hsz hB
        go_wp2
        go_roundw
        case rel => exact ⟨k + 1, qa', ca', qb', cb', by omega, by go_num, rfl, rfl, HA4.out, HB5.out, HB2.out⟩
        case measure => simp [intOf]; omega
    · obtain rfl : k = m := by omega
      have e : L.take k = L := List.take_of_length_le (by rw [HLEN.out]; exact Nat.le_refl _)
      rw [e] at hA hP
      have F1 : Hid (RwS wr qa k ca L) := hA.out.rwS
      have F2 : Hid (RwS wr qb k cb L) := hP.out.rwS hB.out
      clear hA hP e
      go_wp2
      go_ret2
      exact ⟨qa, ca, qb, cb, rfl, F1.out, F2.out, hB.out⟩
end Go.Proofs.YtbfmdfbnhakolaaDoor
namespace Go.By
open Go.RowKit
theorem rwS_one {W : World} {g T : Nat} {fr : Nat × Nat} {p1 p2 : Option Addr} {n1 n2 c1 c2 : Nat} {x : List UInt8 × List UInt8} (hW : W.heap[g]? = some (.cells #[.slice p1 n1 c1, .slice p2 n2 c2] T fr)) (h1 : Sl B8 W p1 n1 c1 x.1) (h2 : Sl B8 W p2 n2 c2 x.2) : RwS W (some ⟨g, 0, none⟩) 1 1 [x] := by
  refine ⟨rfl, Nat.le_refl _, by simp [maxLen], fun h => by simp at h, fun j k hj => ?_⟩
  match j, hj with
  | 0, hj =>
    have e : x = k := by simpa using hj
    subst e
    exact ⟨g, 0, p1, n1, c1, p2, n2, c2, rfl, cell_of_row _ _ 0 _ _ _ hW, cell_of_row _ _ 1 _ _ _ hW, h1, h2⟩
  | j + 1, hj => simp at hj
end Go.By
namespace Go.Proofs.YtbfmdfbnhakolaaDoor
open Go.RowKit Go.By
theorem hex256 : hexText 256 = [49, 48, 48] := by
  rw [hexText_big (by decide), show 256 / 16 = 16 from rfl, hexText_big (by decide), show 16 / 16 = 1 from rfl, hexText_small (by decide)]; rfl
theorem kD_awake : (kD [(([1, 1] : List UInt8), ([3] : List UInt8))]).length = 1 ∧ clashI [(([1, 1] : List UInt8), ([3] : List UInt8))] 1 = -1 := by
  refine ⟨by decide +kernel, by decide +kernel⟩
set_option maxRecDepth 100000 in
set_option maxHeartbeats 1000000 in
theorem awake09 (w : World) (hT : Tab w) : Calls Tryd.prog 17 #[] w fun e w' => e = .returned (.bool true) ∧ Below w.heap.size w w' := by
  have HT := Lib.hid hT
  have HC : Hid (∀ (W : World) p, RwS W p 1 1 [(([1, 1] : List UInt8), ([3] : List UInt8))] → Calls Tryd.prog 21 #[.int .i64 2, .int .i64 1, .slice p 1 1] W (RetN 34 W 256)) := fun W p h => by
    have hj := fun (W2 : World) (hb : Below W.heap.size W W2) => Judge_fit 2 1 p 1 1 _ W2 (h.keep hb) (by decide) (by decide) (by decide) (by decide) (fun x hx => by simp at hx; subst hx; exact ⟨rfl, rfl⟩)
    rw [kD_awake.1, kD_awake.2] at hj
    have := Count_ok 2 1 p 1 1 1 W (by decide) (by decide) (by decide) hj
    rwa [show (256 : Nat) ^ (1 * (2 - 1)) = 256 from rfl] at this
  clear hT
  go_enter Tryd.func17, Tryd.ntmps17
  go_wp2_with fail
  have b2 := ba2 w (.cells #[.int .u8 1, .int .u8 1] 5) (.cells #[.int .u8 3] 5)
  refine Calls.mono (Of_any _ _ _ _ _ _ [1, 1] [3] _ (sl_block [1, 1] 2 (hal (hnew rfl)) rfl rfl (by simp [maxLen])) (sl_block [3] 1 (hnew (by simp)) rfl rfl (by simp [maxLen])) (by unfold Room; omega) (by unfold Room; omega)) ?_
  rintro e w1 ⟨p1, n1, c1, p2, n2, c2, g1, g2, rfl, o1, o2, hb⟩
  have B1 : Hid (Below w.heap.size w w1) := bl b2 hb b2.size
  have S1 := Lib.hid (Sl.of_owns o1); have S2 := Lib.hid (Sl.of_owns o2)
  clear b2 hb o1 o2
  go_wp2_with fail
  refine Calls.mono (HC.out _ _ (rwS_one (hnew rfl) (S1.out.keep (ba1 _ _)) (S2.out.keep (ba1 _ _)))) ?_
  rintro e w2 ⟨q, n, c, rfl, hw, hb⟩
  have B2 : Hid (Below w.heap.size w w2) := bl (bl B1.out (ba1 w1 _) B1.out.size) hb (by have := B1.out.size; simp; omega)
  have HW := Lib.hid hw
  clear hb hw B1 S1 S2
  go_wp2_with fail
  refine Calls.mono (Text_nat q n c 256 _ (HW.out.keep (ba1 _ _)) ((HT.out.keep B2.out).keep (ba1 _ _))) ?_
  rintro e w3 ⟨rfl, hb⟩
  rw [hex256]
  have B3 : Hid (Below w.heap.size w w3) := bl (bl B2.out (ba1 w2 _) B2.out.size) hb (by have := B2.out.size; simp; omega)
  clear hb HW
  have hs1 : ((strB [49, 48, 48]).toList == [49, 48, 48]) = true := by rw [strB_toList]; rfl
  go_wp2
  go_ret
  exact ⟨rfl, B3.out⟩
end Go.Proofs.YtbfmdfbnhakolaaDoor
namespace Go.Proofs.YtbfmdfbnhakolaaDoor
open Go.RowKit Go.By
set_option maxRecDepth 100000 in
set_option maxHeartbeats 2000000 in
theorem SolveJudges_few (k t : Int) (p : Option Addr) (m c : Nat) (L : List Rw) (w : World) (h : RwS w p m c L) (hT : Tab w) (hf : few8 m L = false ∨ 20 < k ∧ k ≤ 4096 ∨ 20 < t ∧ t ≤ 65535) :
    Calls Tryd.prog 5 #[.int .i64 k, .int .i64 t, .slice p m c] w fun e w' => e = .returned (.bool true) ∧ Below w.heap.size w w' := by
  have H := Lib.hid h; have HT := Lib.hid hT
  clear h hT
  obtain ⟨F, hF⟩ : ∃ F, F = few8 m L := ⟨_, rfl⟩
  have HF := Lib.hid hF
  rw [← hF] at hf
  clear hF
  go_enter Tryd.func5, Tryd.ntmps5
  go_wp2_with fail
  refine Calls.mono (awake09 _ HT.out) ?_
  rintro e w1 ⟨rfl, hb⟩
  have B1 := Lib.hid hb
  clear hb
  go_wp2_with fail
  refine Calls.mono (Few8_any p m c L _ (H.out.keep B1.out)) ?_
  rintro e w2 ⟨rfl, hb⟩
  have B2 : Hid (Below w.heap.size w w2) := bl B1.out hb B1.out.size
  rw [← HF.out]
  clear hb B1 H HF HT
  cases F with
  | false =>
    clear hf
    go_wp2
    go_ret
    exact ⟨rfl, B2.out⟩
  | true =>
    have hf' : (20 < k ∧ k ≤ 4096) ∨ (20 < t ∧ t ≤ 65535) := hf.resolve_left (by decide)
    clear hf
    by_cases h1 : 20 < k
    · by_cases h2 : k ≤ 4096
      · clear hf'
        go_wp2
        go_ret
        exact ⟨rfl, B2.out⟩
      · have h3 : 20 < t ∧ t ≤ 65535 := hf'.resolve_left (fun g => h2 g.2)
        obtain ⟨h4, h5⟩ := h3
        clear hf'
        go_wp2
        go_ret
        exact ⟨rfl, B2.out⟩
    · have h3 : 20 < t ∧ t ≤ 65535 := hf'.resolve_left (fun g => h1 g.1)
      obtain ⟨h4, h5⟩ := h3
      clear hf'
      go_wp2
      go_ret
      exact ⟨rfl, B2.out⟩
end Go.Proofs.YtbfmdfbnhakolaaDoor
namespace Go.Proofs.YtbfmdfbnhakolaaDoor
open Go.RowKit Go.By
set_option maxRecDepth 100000 in
set_option maxHeartbeats 4000000 in
theorem SolveJudges_bad (k t : Int) (p : Option Addr) (m c : Nat) (L : List Rw) (w : World) (h : RwS w p m c L) (hT : Tab w) (hf : few8 m L = true) (hm : m ≤ 65536) (hL : ∀ x, x ∈ L → Room x.1.length ∧ Room x.2.length) (hk : k ≤ 20 ∨ 4096 < k) (ht : t ≤ 20 ∨ 65535 < t) (hbad : k < 1 ∨ 4096 < k ∨ t < 0 ∨ 65535 < t) :
    Calls Tryd.prog 5 #[.int .i64 k, .int .i64 t, .slice p m c] w fun e w' => e = .returned (.bool true) ∧ Below w.heap.size w w' := by
  have H := Lib.hid h; have HT := Lib.hid hT; have HF := Lib.hid hf; have HL := Lib.hid hL
  have HJ : Hid (∀ W p' c', Calls Tryd.prog 20 #[.int .i64 k, .int .i64 t, .slice p' m c'] W (RetVd W 0 0 2)) := fun W p' c' => Judge_bad k t p' m c' W hbad
  have HC : Hid (∀ W p' c', Calls Tryd.prog 21 #[.int .i64 k, .int .i64 t, .slice p' m c'] W (Ret0 W 2)) := fun W p' c' => Count_err k t p' m c' 2 W (by decide) (fun W2 _ => HJ.out W2 p' c')
  have HB9 : bytesN 0 = [] := by unfold bytesN; rw [digs_zero]; rfl
  clear h hT hf hL
  go_enter Tryd.func5, Tryd.ntmps5
  go_wp2_with fail
  refine Calls.mono (awake09 _ HT.out) ?_
  rintro e w1 ⟨rfl, hb⟩
  have B1 := Lib.hid hb
  clear hb
  go_wp2_with fail
  refine Calls.mono (Few8_any p m c L _ (H.out.keep B1.out)) ?_
  rintro e w2 ⟨rfl, hb⟩
  have B2 : Hid (Below w.heap.size w w2) := bl B1.out hb B1.out.size
  rw [HF.out]
  clear hb B1 HF HT
  by_cases h1 : k < 1
  · have h2 : ¬ 20 < k := by omega
    by_cases h3 : 20 < t
    · have h4 : ¬ t ≤ 65535 := by omega
      clear hk ht hbad
      go_wp2_with fail
      refine Calls.mono (Rows9_any p m c L _ (H.out.keep B2.out) hm HL.out) ?_
      rintro e w3 ⟨qa, ca, qb, cb, rfl, _, _, hb⟩
      have B3 : Hid (Below w.heap.size w w3) := bl B2.out hb B2.out.size
      clear hb B2
      go_wp2_with fail
      refine Calls.mono (HJ.out _ _ _) ?_
      rintro e w4 ⟨rfl, hb⟩
      have B4 : Hid (Below w.heap.size w w4) := bl B3.out hb B3.out.size
      clear hb B3
      go_wp2_with fail
      refine Calls.mono (HC.out _ _ _) ?_
      rintro e w5 ⟨rfl, hb⟩
      have V5 : Hid (BlkIs w4.heap.size (.cells #[.int .i64 0, .int .i64 0] 48) w5) := BlkIs.keep (hnew rfl) hb
      have B5 : Hid (Below w.heap.size w w5) := bl (bl B4.out (ba1 w4 _) B4.out.size) hb (by have := B4.out.size; simp; omega)
      clear hb B4
      have v0 : ∀ o, (w5.alloc o).cell? ⟨w4.heap.size, 0, none⟩ = some (.int .i64 0) := fun o => cell_of_row _ _ 0 _ _ _ (hal V5.out)
      have v1 : ∀ o, (w5.alloc o).cell? ⟨w4.heap.size, 1, none⟩ = some (.int .i64 0) := fun o => cell_of_row _ _ 1 _ _ _ (hal V5.out)
      go_wp2_with fail
      refine Calls.mono (Len_any none 0 0 0 _ (Ws.zero _ _)) ?_
      rintro e w6 ⟨rfl, hb⟩
      have B6 : Hid (Below w.heap.size w w6) := bl (bl B5.out (ba1 w5 _) B5.out.size) hb (by have := B5.out.size; simp; omega)
      rw [HB9]
      clear hb B5 V5 v0 v1
      go_wp2
      go_ret
      exact ⟨rfl, B6.out⟩
    · clear hk ht hbad
      go_wp2_with fail
      refine Calls.mono (Rows9_any p m c L _ (H.out.keep B2.out) hm HL.out) ?_
      rintro e w3 ⟨qa, ca, qb, cb, rfl, _, _, hb⟩
      have B3 : Hid (Below w.heap.size w w3) := bl B2.out hb B2.out.size
      clear hb B2
      go_wp2_with fail
      refine Calls.mono (HJ.out _ _ _) ?_
      rintro e w4 ⟨rfl, hb⟩
      have B4 : Hid (Below w.heap.size w w4) := bl B3.out hb B3.out.size
      clear hb B3
      go_wp2_with fail
      refine Calls.mono (HC.out _ _ _) ?_
      rintro e w5 ⟨rfl, hb⟩
      have V5 : Hid (BlkIs w4.heap.size (.cells #[.int .i64 0, .int .i64 0] 48) w5) := BlkIs.keep (hnew rfl) hb
      have B5 : Hid (Below w.heap.size w w5) := bl (bl B4.out (ba1 w4 _) B4.out.size) hb (by have := B4.out.size; simp; omega)
      clear hb B4
      have v0 : ∀ o, (w5.alloc o).cell? ⟨w4.heap.size, 0, none⟩ = some (.int .i64 0) := fun o => cell_of_row _ _ 0 _ _ _ (hal V5.out)
      have v1 : ∀ o, (w5.alloc o).cell? ⟨w4.heap.size, 1, none⟩ = some (.int .i64 0) := fun o => cell_of_row _ _ 1 _ _ _ (hal V5.out)
      go_wp2_with fail
      refine Calls.mono (Len_any none 0 0 0 _ (Ws.zero _ _)) ?_
      rintro e w6 ⟨rfl, hb⟩
      have B6 : Hid (Below w.heap.size w w6) := bl (bl B5.out (ba1 w5 _) B5.out.size) hb (by have := B5.out.size; simp; omega)
      rw [HB9]
      clear hb B5 V5 v0 v1
      go_wp2
      go_ret
      exact ⟨rfl, B6.out⟩
  · by_cases h2 : 20 < k
    · have h5 : ¬ k ≤ 4096 := by omega
      by_cases h3 : 20 < t
      · have h4 : ¬ t ≤ 65535 := by omega
        clear hk ht hbad
        go_wp2_with fail
        refine Calls.mono (Rows9_any p m c L _ (H.out.keep B2.out) hm HL.out) ?_
        rintro e w3 ⟨qa, ca, qb, cb, rfl, _, _, hb⟩
        have B3 : Hid (Below w.heap.size w w3) := bl B2.out hb B2.out.size
        clear hb B2
        go_wp2_with fail
        refine Calls.mono (HJ.out _ _ _) ?_
        rintro e w4 ⟨rfl, hb⟩
        have B4 : Hid (Below w.heap.size w w4) := bl B3.out hb B3.out.size
        clear hb B3
        go_wp2_with fail
        refine Calls.mono (HC.out _ _ _) ?_
        rintro e w5 ⟨rfl, hb⟩
        have V5 : Hid (BlkIs w4.heap.size (.cells #[.int .i64 0, .int .i64 0] 48) w5) := BlkIs.keep (hnew rfl) hb
        have B5 : Hid (Below w.heap.size w w5) := bl (bl B4.out (ba1 w4 _) B4.out.size) hb (by have := B4.out.size; simp; omega)
        clear hb B4
        have v0 : ∀ o, (w5.alloc o).cell? ⟨w4.heap.size, 0, none⟩ = some (.int .i64 0) := fun o => cell_of_row _ _ 0 _ _ _ (hal V5.out)
        have v1 : ∀ o, (w5.alloc o).cell? ⟨w4.heap.size, 1, none⟩ = some (.int .i64 0) := fun o => cell_of_row _ _ 1 _ _ _ (hal V5.out)
        go_wp2_with fail
        refine Calls.mono (Len_any none 0 0 0 _ (Ws.zero _ _)) ?_
        rintro e w6 ⟨rfl, hb⟩
        have B6 : Hid (Below w.heap.size w w6) := bl (bl B5.out (ba1 w5 _) B5.out.size) hb (by have := B5.out.size; simp; omega)
        rw [HB9]
        clear hb B5 V5 v0 v1
        go_wp2
        go_ret
        exact ⟨rfl, B6.out⟩
      · clear hk ht hbad
        go_wp2_with fail
        refine Calls.mono (Rows9_any p m c L _ (H.out.keep B2.out) hm HL.out) ?_
        rintro e w3 ⟨qa, ca, qb, cb, rfl, _, _, hb⟩
        have B3 : Hid (Below w.heap.size w w3) := bl B2.out hb B2.out.size
        clear hb B2
        go_wp2_with fail
        refine Calls.mono (HJ.out _ _ _) ?_
        rintro e w4 ⟨rfl, hb⟩
        have B4 : Hid (Below w.heap.size w w4) := bl B3.out hb B3.out.size
        clear hb B3
        go_wp2_with fail
        refine Calls.mono (HC.out _ _ _) ?_
        rintro e w5 ⟨rfl, hb⟩
        have V5 : Hid (BlkIs w4.heap.size (.cells #[.int .i64 0, .int .i64 0] 48) w5) := BlkIs.keep (hnew rfl) hb
        have B5 : Hid (Below w.heap.size w w5) := bl (bl B4.out (ba1 w4 _) B4.out.size) hb (by have := B4.out.size; simp; omega)
        clear hb B4
        have v0 : ∀ o, (w5.alloc o).cell? ⟨w4.heap.size, 0, none⟩ = some (.int .i64 0) := fun o => cell_of_row _ _ 0 _ _ _ (hal V5.out)
        have v1 : ∀ o, (w5.alloc o).cell? ⟨w4.heap.size, 1, none⟩ = some (.int .i64 0) := fun o => cell_of_row _ _ 1 _ _ _ (hal V5.out)
        go_wp2_with fail
        refine Calls.mono (Len_any none 0 0 0 _ (Ws.zero _ _)) ?_
        rintro e w6 ⟨rfl, hb⟩
        have B6 : Hid (Below w.heap.size w w6) := bl (bl B5.out (ba1 w5 _) B5.out.size) hb (by have := B5.out.size; simp; omega)
        rw [HB9]
        clear hb B5 V5 v0 v1
        go_wp2
        go_ret
        exact ⟨rfl, B6.out⟩
    · have h5 : ¬ 4096 < k := by omega
      by_cases h3 : 20 < t
      · have h4 : ¬ t ≤ 65535 := by omega
        have h6 : ¬ t < 0 := by omega
        clear hk ht hbad
        go_wp2_with fail
        refine Calls.mono (Rows9_any p m c L _ (H.out.keep B2.out) hm HL.out) ?_
        rintro e w3 ⟨qa, ca, qb, cb, rfl, _, _, hb⟩
        have B3 : Hid (Below w.heap.size w w3) := bl B2.out hb B2.out.size
        clear hb B2
        go_wp2_with fail
        refine Calls.mono (HJ.out _ _ _) ?_
        rintro e w4 ⟨rfl, hb⟩
        have B4 : Hid (Below w.heap.size w w4) := bl B3.out hb B3.out.size
        clear hb B3
        go_wp2_with fail
        refine Calls.mono (HC.out _ _ _) ?_
        rintro e w5 ⟨rfl, hb⟩
        have V5 : Hid (BlkIs w4.heap.size (.cells #[.int .i64 0, .int .i64 0] 48) w5) := BlkIs.keep (hnew rfl) hb
        have B5 : Hid (Below w.heap.size w w5) := bl (bl B4.out (ba1 w4 _) B4.out.size) hb (by have := B4.out.size; simp; omega)
        clear hb B4
        have v0 : ∀ o, (w5.alloc o).cell? ⟨w4.heap.size, 0, none⟩ = some (.int .i64 0) := fun o => cell_of_row _ _ 0 _ _ _ (hal V5.out)
        have v1 : ∀ o, (w5.alloc o).cell? ⟨w4.heap.size, 1, none⟩ = some (.int .i64 0) := fun o => cell_of_row _ _ 1 _ _ _ (hal V5.out)
        go_wp2_with fail
        refine Calls.mono (Len_any none 0 0 0 _ (Ws.zero _ _)) ?_
        rintro e w6 ⟨rfl, hb⟩
        have B6 : Hid (Below w.heap.size w w6) := bl (bl B5.out (ba1 w5 _) B5.out.size) hb (by have := B5.out.size; simp; omega)
        rw [HB9]
        clear hb B5 V5 v0 v1
        go_wp2
        go_ret
        exact ⟨rfl, B6.out⟩
      · have h6 : t < 0 := by omega
        clear hk ht hbad
        go_wp2_with fail
        refine Calls.mono (Rows9_any p m c L _ (H.out.keep B2.out) hm HL.out) ?_
        rintro e w3 ⟨qa, ca, qb, cb, rfl, _, _, hb⟩
        have B3 : Hid (Below w.heap.size w w3) := bl B2.out hb B2.out.size
        clear hb B2
        go_wp2_with fail
        refine Calls.mono (HJ.out _ _ _) ?_
        rintro e w4 ⟨rfl, hb⟩
        have B4 : Hid (Below w.heap.size w w4) := bl B3.out hb B3.out.size
        clear hb B3
        go_wp2_with fail
        refine Calls.mono (HC.out _ _ _) ?_
        rintro e w5 ⟨rfl, hb⟩
        have V5 : Hid (BlkIs w4.heap.size (.cells #[.int .i64 0, .int .i64 0] 48) w5) := BlkIs.keep (hnew rfl) hb
        have B5 : Hid (Below w.heap.size w w5) := bl (bl B4.out (ba1 w4 _) B4.out.size) hb (by have := B4.out.size; simp; omega)
        clear hb B4
        have v0 : ∀ o, (w5.alloc o).cell? ⟨w4.heap.size, 0, none⟩ = some (.int .i64 0) := fun o => cell_of_row _ _ 0 _ _ _ (hal V5.out)
        have v1 : ∀ o, (w5.alloc o).cell? ⟨w4.heap.size, 1, none⟩ = some (.int .i64 0) := fun o => cell_of_row _ _ 1 _ _ _ (hal V5.out)
        go_wp2_with fail
        refine Calls.mono (Len_any none 0 0 0 _ (Ws.zero _ _)) ?_
        rintro e w6 ⟨rfl, hb⟩
        have B6 : Hid (Below w.heap.size w w6) := bl (bl B5.out (ba1 w5 _) B5.out.size) hb (by have := B5.out.size; simp; omega)
        rw [HB9]
        clear hb B5 V5 v0 v1
        go_wp2
        go_ret
        exact ⟨rfl, B6.out⟩
end Go.Proofs.YtbfmdfbnhakolaaDoor
namespace Go.Proofs.YtbfmdfbnhakolaaDoor
open Go.RowKit Go.By
theorem valB_pow (n : Nat) : valB (List.replicate n 0 ++ [1]) = 256 ^ n := by
  unfold valB
  rw [List.map_append, valD_append, List.map_replicate]
  show valD 256 (List.replicate n 0) + 256 ^ (List.replicate n (0 : Nat)).length * (1 + 256 * 0) = _
  rw [valD_zeros, List.length_replicate]; omega
theorem len_any_bytes (N : Nat) : ((bytesN N).length = 0) ↔ N = 0 := by
  constructor
  · intro h
    have : bytesN N = [] := List.eq_nil_of_length_eq_zero h
    rw [← bytesN_zero] at this
    exact bytesN_inj this
  · rintro rfl; rw [bytesN_zero]; rfl
set_option maxRecDepth 100000 in
set_option maxHeartbeats 4000000 in
theorem SolveJudges_core (k t : Nat) (p : Option Addr) (m c : Nat) (L : List Rw) (r : Nat) (cl code : Int) (N : Nat) (w : World) (h : RwS w p m c L) (hT : Tab w) (hf : few8 m L = true) (hm : m ≤ 30) (hL : ∀ x, x ∈ L → Room x.1.length ∧ Room x.2.length) (hk1 : 1 ≤ k) (hk : k ≤ 20) (ht : t ≤ 20)
    (hr : r ≤ k) (_hcl : -1 ≤ cl)
    (hJ : ∀ W p' c', RwS W p' m c' L → Calls Tryd.prog 20 #[.int .i64 k, .int .i64 t, .slice p' m c'] W (RetVd W r cl code))
    (hC : ∀ W p' c', RwS W p' m c' L → Calls Tryd.prog 21 #[.int .i64 k, .int .i64 t, .slice p' m c'] W fun e w' => ∃ q n d, e = .returned (.tuple #[.agg #[.slice q n d], .int .i64 code]) ∧ Ws 34 w' q n d N ∧ Below W.heap.size W w')
    (hbad : ∀ (i : Nat) (x : Rw), L[i]? = some x → ¬ Fit k t x → r = 0 ∧ cl = 0 ∧ code = 4 ∧ N = 0)
    (hgood : (∀ x, x ∈ L → Fit k t x) → r = (kD L).length ∧ cl = clashI L m ∧ code = 0 ∧ (0 ≤ cl → N = 0) ∧ (cl < 0 → N = 256 ^ (t * (k - r)))) :
    Calls Tryd.prog 5 #[.int .i64 k, .int .i64 t, .slice p m c] w fun e w' => e = .returned (.bool true) ∧ Below w.heap.size w w' := by
  have H := Lib.hid h; have HT := Lib.hid hT; have HF := Lib.hid hf; have HL := Lib.hid hL; have HJ := Lib.hid hJ; have HC := Lib.hid hC; have HBD := Lib.hid hbad; have HGD := Lib.hid hgood; have HR := Lib.hid hr
  have HLN := Lib.hid h.len
  have HB9 : bytesN 0 = [] := bytesN_zero
  obtain ⟨i0, hi0, hz0, hz1, hz2⟩ := info_parts info_u8
  clear h hT hf hL hJ hC hbad hgood hr
  go_enter Tryd.func5, Tryd.ntmps5
  go_wp2_with fail
  refine Calls.mono (awake09 _ HT.out) ?_
  rintro e w1 ⟨rfl, hb⟩
  have B1 := Lib.hid hb
  clear hb
  go_wp2_with fail
  refine Calls.mono (Few8_any p m c L _ (H.out.keep B1.out)) ?_
  rintro e w2 ⟨rfl, hb⟩
  have B2 : Hid (Below w.heap.size w w2) := bl B1.out hb B1.out.size
  rw [HF.out]
  clear hb B1 HF
  have k1 : (1 : Int) ≤ (k : Int) := by omega
  have k2 : (k : Int) ≤ 20 := by omega
  have t1 : (t : Int) ≤ 20 := by omega
  have k3 : (k : Int) ≤ 4096 := by omega
  have t2 : (t : Int) ≤ 65535 := by omega
  have t3 : (0 : Int) ≤ (t : Int) := by omega
  go_wp2_with fail
  refine Calls.mono (Rows9_any p m c L _ (H.out.keep B2.out) (by omega) HL.out) ?_
  rintro e w3 ⟨qa, ca, qb, cb, rfl, ha, hbb, hb⟩
  have B3 : Hid (Below w.heap.size w w3) := bl B2.out hb B2.out.size
  have RA := Lib.hid ha; have RB := Lib.hid hbb
  clear hb B2 ha hbb
  go_wp2_with fail
  refine Calls.mono (HJ.out _ _ _ RA.out) ?_
  rintro e w4 ⟨rfl, hb⟩
  have B4 : Hid (Below w.heap.size w w4) := bl B3.out hb B3.out.size
  have RB4 := Lib.hid (RB.out.keep hb)
  have RA4 := Lib.hid (RA.out.keep hb)
  clear hb B3 RB RA
  go_wp2_with fail
  refine Calls.mono (HC.out _ _ _ (RA4.out.keep (ba1 _ _))) ?_
  rintro e w5 ⟨qn, nn, dn, rfl, hw, hb⟩
  have V5 : Hid (BlkIs w4.heap.size (.cells #[.int .i64 r, .int .i64 cl] 48) w5) := BlkIs.keep (hnew rfl) hb
  have B5 : Hid (Below w.heap.size w w5) := bl (bl B4.out (ba1 w4 _) B4.out.size) hb (by have := B4.out.size; simp; omega)
  have RB5 := Lib.hid ((RB4.out.keep (ba1 _ _)).keep hb)
  have W5 := Lib.hid hw
  have b45 : w4.heap.size < w5.heap.size := by have := hb.size; simp at this; omega
  clear hb B4 hw RB4 RA4
  obtain ⟨B, hB⟩ : ∃ B, B = w5.alloc (.cells #[.slice qn nn dn] 29) := ⟨_, rfl⟩
  have V6 : Hid (BlkIs w4.heap.size (.cells #[.int .i64 r, .int .i64 cl] 48) B) := by rw [hB]; exact V5.out.keep (ba1 _ _)
  have N6 : Hid (BlkIs w5.heap.size (.cells #[.slice qn nn dn] 29) B) := by rw [hB]; exact hnew rfl
  have B6 : Hid (Below w.heap.size w B) := by rw [hB]; exact bl B5.out (ba1 w5 _) B5.out.size
  have RB6 : Hid (RwS B qb m cb L) := by rw [hB]; exact RB5.out.keep (ba1 _ _)
  have W6 : Hid (Ws 34 B qn nn dn N) := by rw [hB]; exact W5.out.keep (ba1 _ _)
  clear V5 B5 RB5 W5
  go_wp2
  rw [← hB]
  clear hB
  go_loopw [90] (fun iv wr => ∃ i : Nat, i ≤ m ∧ iv = .int .i64 i ∧ Hid (∀ (j : Nat) (x : Rw), j < i → L[j]? = some x → Fit k t x) ∧ Hid (Below B.heap.size B wr)) (fun iv _ => m - (intOf iv).toNat)
  case atStart => exact ⟨0, Nat.zero_le _, rfl, fun j x hj => by omega, Below.refl _ _⟩
  case round =>
    obtain ⟨i, hi, rfl, hA, hBl⟩ := hrel
    have hW : Hid (Below w.heap.size w wr) := bl B6.out hBl.out B6.out.size
    have V7 : Hid (BlkIs w4.heap.size (.cells #[.int .i64 r, .int .i64 cl] 48) wr) := V6.out.keep hBl.out
    have N7 : Hid (BlkIs w5.heap.size (.cells #[.slice qn nn dn] 29) wr) := N6.out.keep hBl.out
    have W7 : Hid (Ws 34 wr qn nn dn N) := W6.out.keep hBl.out
    have RB7 : Hid (RwS wr qb m cb L) := RB6.out.keep hBl.out
    have BA2 : Hid (∀ o, Below B.heap.size B (wr.alloc o)) := fun o => bl hBl.out (ba1 wr o) hBl.out.size
    clear hBl V6 N6 B6 RB6 W6
    by_cases hlt : i < m
    · have kn : (i : Int) < (m : Int) := by omega
      obtain ⟨x, hx⟩ : ∃ x, L[i]? = some x := ⟨_, List.getElem?_eq_getElem (by rw [HLN.out]; exact hlt)⟩
      obtain ⟨b, o, q1, m1, c1, q2, m2, c2, rfl, d1, d2, s1, s2⟩ := (H.out.keep hW.out).row i x hx
      have l1 := s1.len; have l2 := s2.len
      have hb1 := s1.bound; have hb2 := s2.bound
      have BA : Hid (∀ o, Below w.heap.size w (wr.alloc o)) := fun o => al hW.out hW.out.size
      by_cases hfit : Fit k t x
      · obtain rfl : k = m1 := by rw [← l1]; exact hfit.1.symm
        obtain rfl : t = m2 := by rw [← l2]; exact hfit.2.symm
        have hnx : Hid (∀ (j : Nat) (x : Rw), j < i + 1 → L[j]? = some x → Fit k t x) := fun j y hjk hy => by
          rcases Nat.lt_or_ge j i with h | h
          · exact hA.out j y h hy
          · obtain rfl : j = i := by omega
            rw [hx] at hy; cases hy; exact hfit
        clear s1 s2 l1 l2 hx hfit hA hW V7 N7 W7 RB7 HBD HGD hlt
        go_wp2
        go_roundw
        case rel => exact ⟨i + 1, by omega, by go_num, hnx.out, BA2.out _⟩
        case measure => simp [intOf]; omega
      · obtain ⟨rfl, rfl, rfl, rfl⟩ := HBD.out i x hx hfit
        have v0 : ∀ o, (wr.alloc o).cell? ⟨w4.heap.size, 0, none⟩ = some (.int .i64 0) := fun o => cell_of_row _ _ 0 _ _ _ (hal V7.out)
        have v1 : ∀ o, (wr.alloc o).cell? ⟨w4.heap.size, 1, none⟩ = some (.int .i64 0) := fun o => cell_of_row _ _ 1 _ _ _ (hal V7.out)
        have n0 : ∀ o, (wr.alloc o).cell? ⟨w5.heap.size, 0, none⟩ = some (.slice qn nn dn) := fun o => cell_of_row _ _ 0 _ _ _ (hal N7.out)
        have W8 : Hid (∀ o, Ws 34 (wr.alloc o) qn nn dn 0) := fun o => W7.out.keep (ba1 _ _)
        by_cases e1 : m1 = k
        · obtain rfl : k = m1 := e1.symm
          have e2 : ¬ m2 = t := fun e => hfit ⟨l1, by rw [l2]; exact e⟩
          have e3 : ((m2 : Int) != (t : Int)) = true := by rw [bne_iff_ne]; omega
          clear s1 s2 l1 l2 hx hfit hA hW V7 N7 W7 RB7 HBD HGD hlt e2
          go_wp2_with fail
          refine Calls.mono (Len_any qn nn dn 0 _ (W8.out _)) ?_
          rintro e w6 ⟨rfl, hb⟩
          have B9 : Hid (Below w.heap.size w w6) := bl (BA.out _) hb (BA.out _).size
          rw [HB9]
          clear hb v0 v1 n0 W8 BA
          go_wp2
          go_ret
          exact ⟨rfl, B9.out⟩
        · have e3 : ((m1 : Int) != (k : Int)) = true := by rw [bne_iff_ne]; omega
          clear s1 s2 l1 l2 hx hfit hA hW V7 N7 W7 RB7 HBD HGD hlt e1
          go_wp2_with fail
          refine Calls.mono (Len_any qn nn dn 0 _ (W8.out _)) ?_
          rintro e w6 ⟨rfl, hb⟩
          have B9 : Hid (Below w.heap.size w w6) := bl (BA.out _) hb (BA.out _).size
          rw [HB9]
          clear hb v0 v1 n0 W8 BA
          go_wp2
          go_ret
          exact ⟨rfl, B9.out⟩
    · obtain rfl : i = m := by omega
      have hall : ∀ x, x ∈ L → Fit k t x := fun x hx => by
        obtain ⟨j, hj, rfl⟩ := List.mem_iff_getElem.1 hx
        exact hA.out j _ (by have := HLN.out; omega) (List.getElem?_eq_getElem hj)
      obtain ⟨g1, g2, rfl, g4, g5⟩ := HGD.out hall
      have HA := Lib.hid hall; have G1 := Lib.hid g1; have G2 := Lib.hid g2; have G4 := Lib.hid g4; have G5 := Lib.hid g5
      clear hall g1 g2 g4 g5 hA HBD HGD hlt
      have HRJ : Hid (∀ W, RwS W qb i cb L → Calls Tryd.prog 23 #[.slice qb i cb] W fun e w' => e = .returned (.tuple #[.int .i64 r, .int .i64 cl]) ∧ Below W.heap.size W w') := fun W h => by
        rw [G1.out, G2.out]; exact RJudge_any k t qb i cb L W h (by omega) (by omega) (by omega) HA.out
      clear HA G1 G2 BA2
      go_wp2_with fail
      refine Calls.mono (HRJ.out _ RB7.out) ?_
      rintro e w6 ⟨rfl, hb⟩
      have Bw6 : Hid (Below w.heap.size w w6) := bl hW.out hb hW.out.size
      have V8 := Lib.hid (V7.out.keep hb)
      have N8 := Lib.hid (N7.out.keep hb)
      have W8 := Lib.hid (W7.out.keep hb)
      have v0 : w6.cell? ⟨w4.heap.size, 0, none⟩ = some (.int .i64 r) := cell_of_row _ _ 0 _ _ _ V8.out
      have v1 : w6.cell? ⟨w4.heap.size, 1, none⟩ = some (.int .i64 cl) := cell_of_row _ _ 1 _ _ _ V8.out
      have n0 : w6.cell? ⟨w5.heap.size, 0, none⟩ = some (.slice qn nn dn) := cell_of_row _ _ 0 _ _ _ N8.out
      clear hb hW V7 N7 W7 RB7 HRJ
      by_cases hc : 0 ≤ cl
      · obtain rfl := G4.out hc
        clear G4 G5
        go_wp2_with fail
        refine Calls.mono (Len_any qn nn dn 0 _ W8.out) ?_
        rintro e w7 ⟨rfl, hb⟩
        have B9 : Hid (Below w.heap.size w w7) := bl Bw6.out hb Bw6.out.size
        rw [HB9]
        clear hb v0 v1 n0 W8 Bw6 V8 N8
        go_wp2
        go_ret
        exact ⟨rfl, B9.out⟩
      · have hc' : cl < 0 := by omega
        have HN := Lib.hid (G5.out hc')
        obtain ⟨d, hd⟩ : ∃ d, d = k - r := ⟨_, rfl⟩
        obtain ⟨P, hP⟩ : ∃ P, P = t * d := ⟨_, rfl⟩
        have hPb : P ≤ 20 * 20 := by rw [hP]; exact Nat.mul_le_mul ht (by omega)
        have A1 : Hid (IntKind.i64.wrap ((k : Int) - (r : Int)) = (d : Int)) := (Go.IntWalk.i64_in _ ⟨by have := HR.out; omega, by have := HR.out; omega⟩).trans (by have := HR.out; omega)
        have A2 : Hid (IntKind.i64.wrap ((t : Int) * (d : Int)) = (P : Int)) := by
          show _ = _
          rw [hP, ← Int.natCast_mul]; exact Go.IntWalk.i64_in _ (by rw [← hP]; omega)
        have HNP : Hid (N = 256 ^ P) := by show _ = _; rw [hP, hd]; exact HN.out
        clear G4 G5 hc HN hd hP
        have a1 := A1.out; have a2 := A2.out
        have EP : Hid (((P : Nat) : Int) + 1 = ((P + 1 : Nat) : Int)) := by show _ = _; omega
        have HM1 : Hid (P + 1 ≤ maxLen) := by show P + 1 ≤ maxLen; unfold maxLen; omega
        have HM2 : Hid (1 * (P + 1) ≤ 281474976710656) := by show 1 * (P + 1) ≤ _; omega
        go_wp2_with (at_make; refine wpList_make_full _ rfl _ _ 24 rfl w6.heap.size 5 i0 (.int .u8 0) 1 Tryd.underlying24 hi0 hz0 hz1 .i64 .i64 _ _ (P + 1) rfl rfl EP.out EP.out (by rw [hz2]; exact HM2.out) HM1.out (Nat.le_refl _) ?_)
        intro w7 ho hg
        have HV : Hid (w7.heap[w6.heap.size]? = some (.cells (List.replicate (P + 1) (B8 0)).toArray 5 (0, 0))) := by
          have e : (madeCells #[Value.int .u8 0] (P + 1)).toList = List.replicate (P + 1) (B8 0) := toList_madeCells_one _ _
          have ho' := ho
          have ho2 : w7.ownsRow w6.heap.size 5 1 (.slice (some ⟨w6.heap.size, 0, none⟩) (P + 1) (P + 1)) (P + 1) (List.replicate (P + 1) (B8 0)) := by rw [← e]; exact ho'
          exact heap_of_owns ho2
        have hb : Below w6.heap.size w6 w7 := (Below.refl _ _).grown hg (Nat.le_refl _) (by simp)
        have B9 : Hid (Below w.heap.size w w7) := bl Bw6.out hb Bw6.out.size
        have N9 := Lib.hid (N8.out.keep hb)
        have W9 := Lib.hid (W8.out.keep hb)
        have c0 : w7.cell? ⟨w6.heap.size, P, none⟩ = some (.int .u8 0) := by
          rw [cell_of_row _ _ P _ _ _ HV.out]; simp
        have z0 : w7.frozen? ⟨w6.heap.size, P, none⟩ = false := frozen_of_row _ _ P _ _ HV.out
        have hne : w5.heap.size ≠ w6.heap.size := fun e => by have := blk_lt N8.out; omega
        have HNE := Lib.hid hne
        have HWS : Hid (w.heap.size ≤ w6.heap.size) := Bw6.out.size
        clear ho hg hb N8 W8 V8 v0 v1 n0 a1 a2 A1 A2 Bw6 hne
        have n0 : (w7.setCell ⟨w6.heap.size, P, none⟩ (.int .u8 1)).cell? ⟨w5.heap.size, 0, none⟩ = some (.slice qn nn dn) := cell_of_row _ _ 0 _ _ _ (hsc N9.out HNE.out)
        have n1 : w7.cell? ⟨w5.heap.size, 0, none⟩ = some (.slice qn nn dn) := cell_of_row _ _ 0 _ _ _ N9.out
        have hne := HNE.out
        have SX : Hid (Sl B8 (w7.setCell ⟨w6.heap.size, P, none⟩ (.int .u8 1)) (some ⟨w6.heap.size, 0, none⟩) (P + 1) (P + 1) (List.replicate P 0 ++ [1])) := by
          refine sl_block _ _ (hss HV.out) ?_ (by simp) HM1.out
          rw [List.setIfInBounds_toArray, List.replicate_succ']
          rw [List.set_append_right _ _ (by simp)]
          simp [B8]
        have WX : Hid (Ws 34 (w7.setCell ⟨w6.heap.size, P, none⟩ (.int .u8 1)) qn nn dn N) := W9.out.set HV.out (by decide)
        have BX : Hid (Below w.heap.size w (w7.setCell ⟨w6.heap.size, P, none⟩ (.int .u8 1))) := B9.out.setCell HWS.out _
        go_wp2_with fail
        refine Calls.mono (Is_any qn _ nn dn _ _ N _ _ WX.out SX.out (by omega) (HT.out.keep BX.out)) ?_
        rintro e w8 ⟨rfl, hb⟩
        have B10 : Hid (Below w.heap.size w w8) := bl BX.out hb BX.out.size
        rw [valB_pow, HNP.out]
        clear hb BX WX SX n0 n1 hne c0 z0 HNE HV W9 N9 B9
        go_wp2
        go_ret
        exact ⟨by simp, B10.out⟩
end Go.Proofs.YtbfmdfbnhakolaaDoor
namespace Go.Proofs.YtbfmdfbnhakolaaDoor
open Go.RowKit Go.By
theorem few8_parts {m : Nat} {L : List Rw} (h : few8 m L = true) : m ≤ 30 ∧ ∀ x, x ∈ L → x.1.length ≤ 20 ∧ x.2.length ≤ 20 := by
  unfold few8 at h
  rw [Bool.and_eq_true, List.all_eq_true] at h
  refine ⟨of_decide_eq_true h.2, fun x hx => ?_⟩
  have := h.1 x hx
  rw [Bool.and_eq_true] at this
  exact ⟨of_decide_eq_true this.1, of_decide_eq_true this.2⟩
theorem kD_wide {k t : Nat} {L : List Rw} (h : ∀ x, x ∈ L → Fit k t x) : (kD L).length ≤ k := by
  rw [← vecs_rank]; exact rank_wide (vecs_len h)
theorem Ret0.ws {w w' : World} {code : Int} {e : Ending} (h : Ret0 w code e w') : ∃ q n d, e = .returned (.tuple #[.agg #[.slice q n d], .int .i64 code]) ∧ Ws 34 w' q n d 0 ∧ Below w.heap.size w w' :=
  ⟨none, 0, 0, h.1, Ws.zero _ _, h.2⟩
theorem SolveJudges_any (k t : Int) (p : Option Addr) (m c : Nat) (L : List Rw) (w : World) (_ : (Lit.int .i64 k).wf = true) (_ : (Lit.int .i64 t).wf = true) (h : RwS w p m c L) (hT : Tab w) :
    Calls Tryd.prog 5 #[.int .i64 k, .int .i64 t, .slice p m c] w fun e w' => e = .returned (.bool true) ∧ Below w.heap.size w w' := by
  by_cases h0 : few8 m L = false ∨ 20 < k ∧ k ≤ 4096 ∨ 20 < t ∧ t ≤ 65535
  · exact SolveJudges_few k t p m c L w h hT h0
  have hf : few8 m L = true := by
    cases hx : few8 m L with
    | true => rfl
    | false => exact absurd (.inl hx) h0
  obtain ⟨hm, hl⟩ := few8_parts hf
  have hL : ∀ x, x ∈ L → Room x.1.length ∧ Room x.2.length := fun x hx => by have := hl x hx; unfold Room; omega
  by_cases hbad : k < 1 ∨ 4096 < k ∨ t < 0 ∨ 65535 < t
  · exact SolveJudges_bad k t p m c L w h hT hf (by omega) hL (by omega) (by omega) hbad
  obtain ⟨a, rfl⟩ := Int.eq_ofNat_of_zero_le (show 0 ≤ k by omega)
  obtain ⟨b, rfl⟩ := Int.eq_ofNat_of_zero_le (show 0 ≤ t by omega)
  by_cases hfit : ∀ x, x ∈ L → Fit a b x
  · have hr := kD_wide hfit
    have hcr := (clashI_range L m).1
    have hJ : ∀ W p' c', RwS W p' m c' L → Calls Tryd.prog 20 #[.int .i64 a, .int .i64 b, .slice p' m c'] W (RetVd W (kD L).length (clashI L m) 0) := fun W p' c' hW => Judge_fit a b p' m c' L W hW (by omega) (by omega) (by omega) (by omega) hfit
    by_cases hc : 0 ≤ clashI L m
    · refine SolveJudges_core a b p m c L (kD L).length (clashI L m) 0 0 w h hT hf hm hL (by omega) (by omega) (by omega) hr hcr hJ (fun W p' c' hW => ?_) (fun i x hx hnf => absurd (hfit x (List.mem_of_getElem? hx)) hnf) (fun _ => ⟨rfl, rfl, rfl, fun _ => rfl, fun hn => by omega⟩)
      exact Count_clash a b p' m c' (kD L).length (clashI L m) W hc (fun W2 hb => hJ W2 p' c' (hW.keep hb))
    · have e : clashI L m = -1 := by omega
      refine SolveJudges_core a b p m c L (kD L).length (clashI L m) 0 (256 ^ (b * (a - (kD L).length))) w h hT hf hm hL (by omega) (by omega) (by omega) hr hcr hJ (fun W p' c' hW => ?_) (fun i x hx hnf => absurd (hfit x (List.mem_of_getElem? hx)) hnf) (fun _ => ⟨rfl, rfl, rfl, fun hn => by omega, fun _ => rfl⟩)
      refine Count_ok a b p' m c' (kD L).length W (by omega) (by omega) hr (fun W2 hb => ?_)
      have := hJ W2 p' c' (hW.keep hb)
      rwa [e] at this
  · have hJ : ∀ W p' c', RwS W p' m c' L → Calls Tryd.prog 20 #[.int .i64 a, .int .i64 b, .slice p' m c'] W (RetVd W 0 0 4) := fun W p' c' hW => Judge_size a b p' m c' L W hW (by omega) (by omega) (by omega) (by omega) hfit
    refine SolveJudges_core a b p m c L 0 0 4 0 w h hT hf hm hL (by omega) (by omega) (by omega) (Nat.zero_le _) (by omega) hJ (fun W p' c' hW => ?_) (fun i x hx hnf => ⟨rfl, rfl, rfl, rfl⟩) (fun hh => absurd hh hfit)
    exact (Count_err a b p' m c' 4 W (by decide) (fun W2 hb => hJ W2 p' c' (hW.keep hb))).mono fun e w' hr => Ret0.ws hr
end Go.Proofs.YtbfmdfbnhakolaaDoor
namespace Go.Proofs.YtbfmdfbnhakolaaDoor
open Go.RowKit Go.By
/-- do these symbols hold for this equation? -/
def hold1 (S : List (List UInt8)) (x : Rw) : Bool := S.all (fun s => decide (s.length = x.2.length)) && (decide ((combS x.1 S).2 = 0) && decide ((combS x.1 S).1 = x.2))
theorem combS_code (cs : List UInt8) (S : List (List UInt8)) : (combS cs S).2 = 0 ∨ (combS cs S).2 = 4 := by
  unfold combS; split
  · split <;> simp
  · simp
theorem enters_holds : Enters Tryd.prog 79 := enters_of Tryd.func79 (by kernel_rfl) rfl
theorem enters_fails : Enters Tryd.prog 54 := enters_of Tryd.func54 (by kernel_rfl) rfl
set_option maxHeartbeats 400000 in
theorem holds1_any (q q2 : Option Addr) (m c B s d : Nat) (w : World) (hB : w.cell? ⟨B, 1, none⟩ = some (.slice q2 s d)) :
    Calls Tryd.prog 79 #[.slice q m c, .pointer (some ⟨B, 0, none⟩)] w fun e w' => e = .returned (.bool ((m : Int) != s)) ∧ w = w' := by
  go_enter Tryd.func79, Tryd.ntmps79
  go_wp2
  go_ret
  exact ⟨rfl, rfl⟩
set_option maxRecDepth 100000 in
set_option maxHeartbeats 2000000 in
theorem holds_any (p q1 q2 : Option Addr) (k c m1 c1 m2 c2 : Nat) (S : List (List UInt8)) (x : Rw) (w : World) (h : Sl2 w p k c S) (h1 : Sl B8 w q1 m1 c1 x.1) (h2 : Sl B8 w q2 m2 c2 x.2) (hR : Room x.2.length) :
    Calls Tryd.prog 55 #[.slice p k c, .agg #[.slice q1 m1 c1, .slice q2 m2 c2]] w fun e w' => e = .returned (.bool (hold1 S x)) ∧ Below w.heap.size w w' := by
  obtain ⟨R, hRd⟩ : ∃ R : Bool, R = hold1 S x := ⟨_, rfl⟩
  rw [← hRd]
  obtain ⟨vs, hvs, hvv⟩ := h.vals
  have hax := any_vals (n := m2) (hvs.len.trans h.len.symm) hvv
  have H := Lib.hid h; have H1 := Lib.hid h1; have H2 := Lib.hid h2; have HV := Lib.hid hvs; have HVV := Lib.hid hvv; have HA := Lib.hid hax; have HR := Lib.hid hR; have HRD := Lib.hid hRd; have L2 := Lib.hid h2.len
  clear h h1 h2 hvs hvv hax hR hRd
  go_enter Tryd.func55, Tryd.ntmps55
  go_wp2_with fail
  have K0 : Hid (BlkIs w.heap.size (.cells #[.slice q1 m1 c1, .slice q2 m2 c2] 63) (w.alloc (.cells #[.slice q1 m1 c1, .slice q2 m2 c2] 63))) := hnew rfl
  refine (ContainsFuncBB_any id (lenNe m2) 79 _ enters_holds p k c vs _ (HV.out.keep (ba1 _ _)) ?_).mono ?_
  · intro v hv
    obtain ⟨i, hi, e⟩ := List.getElem_of_mem hv
    obtain ⟨xs, q, c', hx, rfl, hs⟩ := HVV.out i v (by rw [List.getElem?_eq_getElem hi, e])
    exact holds1_any q _ _ c' _ m2 _ _ (cell_of_row _ _ 1 _ _ _ K0.out)
  rintro e w' ⟨rfl, rfl⟩
  rw [HA.out]
  clear HV HVV HA
  by_cases ha : S.all (fun y => decide (y.length = m2)) = true
  · have HAL := Lib.hid ha
    rw [ha]
    clear ha
    go_wp2_with fail
    refine Calls.mono (Comb_any q1 p m1 k c1 c x.1 S _ (H1.out.keep (ba1 _ _)) (H.out.keep (ba1 _ _)) (fun s hs => by have := of_decide_eq_true (List.all_eq_true.1 HAL.out s hs); rw [this, ← L2.out]; exact HR.out)) ?_
    rintro e w1 ⟨q, m, d, hm, rfl, ho, hb⟩
    have B1 : Hid (Below w.heap.size w w1) := bl (ba1 w _) hb (ba1 w _).size
    have K1 : Hid (BlkIs w.heap.size (.cells #[.slice q1 m1 c1, .slice q2 m2 c2] 63) w1) := K0.out.keep hb
    have S1 := Lib.hid (Sl.of_owns ho)
    have S2 := Lib.hid (H2.out.keep B1.out)
    clear ho hb K0 hm
    have c1' : w1.cell? ⟨w.heap.size, 1, none⟩ = some (.slice q2 m2 c2) := cell_of_row _ _ 1 _ _ _ K1.out
    rcases combS_code x.1 S with hc | hc
    · rw [hc]
      have HC := Lib.hid hc
      clear hc
      go_wp2_with fail
      refine Calls.mono (EqualB_d q q2 m m2 d c2 _ x.2 _ S1.out S2.out) ?_
      rintro e w2 ⟨rfl, qq, rfl⟩
      have B2 : Hid (Below w.heap.size w (w1.drewN qq)) := bl B1.out (bdn (Below.refl _ _)) B1.out.size
      have HE : Hid (decide ((combS x.1 S).1 = x.2) = R) := by
        show _ = _
        rw [HRD.out]; unfold hold1
        rw [L2.out, HAL.out, decide_eq_true HC.out, Bool.true_and, Bool.true_and]
      rw [HE.out]
      clear c1' K1 S1 S2 HE HC B1
      go_wp2
      go_ret
      exact ⟨rfl, B2.out⟩
    · rw [hc]
      have HE : Hid (R = false) := by
        show _ = _
        rw [HRD.out]; unfold hold1
        rw [decide_eq_false (by omega), Bool.false_and, Bool.and_false]
      clear hc c1' K1 S1 S2
      go_wp2
      go_ret
      exact ⟨by rw [HE.out]; rfl, B1.out⟩
  · have ha' := eq_false_of_ne_true ha
    rw [ha']
    have HE : Hid (R = false) := by
      show _ = _
      rw [HRD.out]; unfold hold1
      rw [L2.out, ha', Bool.false_and]
    clear ha ha' K0
    go_wp2
    go_ret
    exact ⟨by rw [HE.out]; rfl, ba1 _ _⟩
set_option maxHeartbeats 400000 in
theorem IndexRow2_any (f : Rw → Bool) (g : Nat) (lb : Array Value) (eg : Enters Tryd.prog g) (p : Option Addr) (n c : Nat) (K : List Rw) (w : World) (h : RwS w p n c K)
    (hf : ∀ (W : World) (q1 q2 : Option Addr) (m1 c1 m2 c2 : Nat) (x : Rw), x ∈ K → Below w.heap.size w W → Sl B8 W q1 m1 c1 x.1 → Sl B8 W q2 m2 c2 x.2 → Calls Tryd.prog g (#[.agg #[.slice q1 m1 c1, .slice q2 m2 c2]] ++ lb) W fun e w' => e = .returned (.bool (f x)) ∧ Below W.heap.size W w') :
    Calls Tryd.prog 81 #[.slice p n c, .func (.func g) #[] lb] w fun e w' => e = .returned (.int .i64 (idxf f K)) ∧ Below w.heap.size w w' := by
  have hn := Nat.le_trans h.le h.max
  unfold maxLen at hn
  have H := Lib.hid h; clear h
  have HF := Lib.hid hf; clear hf
  have eg' : ∀ args w, (callFunc g args).run Tryd.prog w = .ok (.enter g args) w := eg
  clear eg
  go_enter Tryd.func81, Tryd.ntmps81
  go_wp2
  go_loopw [8] (fun i wr => ∃ k : Nat, k ≤ n ∧ i = .int .i64 k ∧ Hid (∀ j y, j < k → K[j]? = some y → f y = false) ∧ Hid (Below w.heap.size w wr)) (fun i _ => n - (intOf i).toNat)
  case atStart => exact ⟨0, Nat.zero_le _, rfl, fun j y hj => by omega, Below.refl _ _⟩
  case round =>
    obtain ⟨k, hk, rfl, hr, hB⟩ := hrel
    by_cases hlt : k < n
    · obtain ⟨x, hx⟩ : ∃ x, K[k]? = some x := ⟨_, List.getElem?_eq_getElem (by rw [H.out.len]; exact hlt)⟩
      obtain ⟨b, o, q1, m1, c1, q2, m2, c2, rfl, h1, h2, h3, h4⟩ := H.out.row k x hx
      have d1 := (hB.out.cell (p := ⟨b, o + k * 2, none⟩) (lt_of_cell h1)).trans h1
      have d2 := (hB.out.cell (p := ⟨b, o + k * 2 + 1, none⟩) (lt_of_cell h2)).trans h2
      have HX := Lib.hid hx
      have HS : Hid (Sl B8 wr q1 m1 c1 x.1) := h3.keep hB.out
      have HS2 : Hid (Sl B8 wr q2 m2 c2 x.2) := h4.keep hB.out
      have kn : (k : Int) < (n : Int) := by omega
      clear h1 h2 h3 h4 hx
      cases hfx : f x with
      | false =>
        have HQ := Lib.hid hfx; clear hfx
        go_wp2_with fail
        refine (HF.out wr q1 q2 m1 c1 m2 c2 x (List.mem_of_getElem? HX.out) hB.out HS.out HS2.out).mono ?_; rintro e w2 ⟨rfl, hb2⟩
        have B2 : Hid (Below w.heap.size w w2) := bl hB.out hb2 hB.out.size
        rw [HQ.out]
        clear hb2 d1 d2 hB HS HS2
        go_wp2
        go_roundw
        case rel =>
          refine ⟨k + 1, by omega, by go_num, fun j y hj hy => ?_, B2.out⟩
          by_cases e : j = k
          · subst e; have := HX.out.symm.trans hy; cases this; exact HQ.out
          · exact hr.out j y (by omega) hy
        case measure => simp [intOf]; omega
      | true =>
        have HQ := Lib.hid hfx; clear hfx
        go_wp2_with fail
        refine (HF.out wr q1 q2 m1 c1 m2 c2 x (List.mem_of_getElem? HX.out) hB.out HS.out HS2.out).mono ?_; rintro e w2 ⟨rfl, hb2⟩
        have B2 : Hid (Below w.heap.size w w2) := bl hB.out hb2 hB.out.size
        rw [HQ.out]
        clear hb2 d1 d2 hB HS HS2
        go_wp2
        go_ret
        exact ⟨by rw [idxf_found HX.out HQ.out hr.out]; rfl, B2.out⟩
    · go_wp2
      go_ret
      exact ⟨by rw [idxf_none (k := k) (by have := H.out.len; omega) hr.out]; rfl, hB.out⟩
set_option maxHeartbeats 400000 in
theorem ContainsRow_any (f : Rw → Bool) (g : Nat) (lb : Array Value) (eg : Enters Tryd.prog g) (p : Option Addr) (n c : Nat) (K : List Rw) (w : World) (h : RwS w p n c K)
    (hf : ∀ (W : World) (q1 q2 : Option Addr) (m1 c1 m2 c2 : Nat) (x : Rw), x ∈ K → Below w.heap.size w W → Sl B8 W q1 m1 c1 x.1 → Sl B8 W q2 m2 c2 x.2 → Calls Tryd.prog g (#[.agg #[.slice q1 m1 c1, .slice q2 m2 c2]] ++ lb) W fun e w' => e = .returned (.bool (f x)) ∧ Below W.heap.size W w') :
    Calls Tryd.prog 56 #[.slice p n c, .func (.func g) #[] lb] w fun e w' => e = .returned (.bool (K.any f)) ∧ Below w.heap.size w w' := by
  have H := Lib.hid h; clear h
  have HF := Lib.hid hf; clear hf
  have HE := Lib.hid eg; clear eg
  go_enter Tryd.func56, Tryd.ntmps56
  go_wp2_with fail
  refine (IndexRow2_any f g lb HE.out p n c K w H.out HF.out).mono ?_; rintro e w' ⟨rfl, hb⟩
  have HB := Lib.hid hb
  clear hb
  go_wp2
  go_ret
  exact ⟨by rw [← idxf_ge]; rfl, HB.out⟩
set_option maxHeartbeats 400000 in
theorem fails_any (p q1 q2 : Option Addr) (k c m1 c1 m2 c2 g : Nat) (S : List (List UInt8)) (x : Rw) (w : World) (hg : w.cell? ⟨g, 0, none⟩ = some (.slice p k c)) (h : Sl2 w p k c S) (h1 : Sl B8 w q1 m1 c1 x.1) (h2 : Sl B8 w q2 m2 c2 x.2) (hR : Room x.2.length) :
    Calls Tryd.prog 54 (#[.agg #[.slice q1 m1 c1, .slice q2 m2 c2]] ++ #[.pointer (some ⟨g, 0, none⟩)]) w fun e w' => e = .returned (.bool (!hold1 S x)) ∧ Below w.heap.size w w' := by
  have H := Lib.hid h; have H1 := Lib.hid h1; have H2 := Lib.hid h2; have HR := Lib.hid hR; have HG := Lib.hid hg
  clear h h1 h2 hR hg
  obtain ⟨R, hRd⟩ : ∃ R : Bool, R = hold1 S x := ⟨_, rfl⟩
  rw [← hRd]
  have HC : Hid (∀ W, Below w.heap.size w W → Calls Tryd.prog 55 #[.slice p k c, .agg #[.slice q1 m1 c1, .slice q2 m2 c2]] W fun e w' => e = .returned (.bool R) ∧ Below W.heap.size W w') := fun W hb => by
    rw [hRd]; exact holds_any p q1 q2 k c m1 c1 m2 c2 S x W (H.out.keep hb) (H1.out.keep hb) (H2.out.keep hb) HR.out
  clear hRd
  have hgc := ((ba1 w (.cells #[.slice q1 m1 c1, .slice q2 m2 c2] 63)).cell (p := ⟨g, 0, none⟩) (lt_of_cell HG.out)).trans HG.out
  go_enter Tryd.func54, Tryd.ntmps54
  go_wp2_with fail
  refine Calls.mono (HC.out _ (ba1 _ _)) ?_
  rintro e w1 ⟨rfl, hb⟩
  have B1 : Hid (Below w.heap.size w w1) := bl (ba1 w _) hb (ba1 w _).size
  clear hb hgc
  go_wp2
  go_ret
  exact ⟨rfl, B1.out⟩
set_option maxHeartbeats 400000 in
theorem Holds_any (p q : Option Addr) (k c m d : Nat) (S : List (List UInt8)) (K : List Rw) (w : World) (h : Sl2 w p k c S) (hK : RwS w q m d K) (hR : ∀ x, x ∈ K → Room x.2.length) :
    Calls Tryd.prog 27 #[.slice p k c, .slice q m d] w fun e w' => e = .returned (.bool (K.all (hold1 S))) ∧ Below w.heap.size w w' := by
  have H := Lib.hid h; have HK := Lib.hid hK; have HR := Lib.hid hR
  clear h hK hR
  obtain ⟨R, hRd⟩ : ∃ R : Bool, R = K.any (fun x => !hold1 S x) := ⟨_, rfl⟩
  have HRD : Hid (K.all (hold1 S) = !R) := by
    show _ = _
    rw [hRd, List.all_eq_not_any_not]
  rw [HRD.out]
  have HC : Hid (∀ W, Below w.heap.size w W → W.cell? ⟨w.heap.size, 0, none⟩ = some (.slice p k c) → Calls Tryd.prog 56 #[.slice q m d, .func (.func 54) #[] #[.pointer (some ⟨w.heap.size, 0, none⟩)]] W fun e w' => e = .returned (.bool R) ∧ Below W.heap.size W w') := fun W hb hc => by
    rw [hRd]
    exact ContainsRow_any (fun x => !hold1 S x) _ _ enters_fails q m d K W (HK.out.keep hb) (fun W2 q1 q2 m1 c1 m2 c2 x hx hb2 s1 s2 => fails_any p q1 q2 k c m1 c1 m2 c2 w.heap.size S x W2 ((hb2.cell (p := ⟨w.heap.size, 0, none⟩) (lt_of_cell hc)).trans hc) ((H.out.keep hb).keep hb2) s1 s2 (HR.out x hx))
  clear hRd HRD
  go_enter Tryd.func27, Tryd.ntmps27
  go_wp2_with fail
  refine Calls.mono (HC.out _ (ba1 _ _) (cell_of_row _ _ 0 _ _ _ (hnew rfl))) ?_
  rintro e w1 ⟨rfl, hb⟩
  have B1 : Hid (Below w.heap.size w w1) := bl (ba1 w _) hb (ba1 w _).size
  clear hb
  go_wp2
  go_ret
  exact ⟨rfl, B1.out⟩
end Go.Proofs.YtbfmdfbnhakolaaDoor
namespace Go.Proofs.YtbfmdfbnhakolaaDoor
open Go.RowKit Go.By Gf
theorem fits_calm {k n : Nat} {B : List V} {X : List Rw} (hX : ∀ y, y ∈ X → Fit k n y ∧ ConsV k B (vR y)) (m : Nat) : calm X m := by
  intro i x _ hx
  have hk : KeptS k n (kD (X.take i)) := kD_kept (fun r hr => (hX r hr).1) i
  have hs : Sys k n (kD (X.take i)) (redL (kD (X.take i))) := ⟨hk, rfl⟩
  have hm := hX x (List.mem_of_getElem? hx)
  rw [sys_clash hs hm.1]
  unfold clashB
  by_cases hl : leadS (restF (redL (kD (X.take i))) x).1 < 0
  · rw [sys_code hs (fun y hy => hX y (List.mem_of_mem_take hy)) hm.1 hm.2 hl]; simp
  · rw [decide_eq_false hl]; rfl
theorem fits_clash {k n : Nat} {B : List V} {X : List Rw} (hX : ∀ y, y ∈ X → Fit k n y ∧ ConsV k B (vR y)) (m : Nat) : clashI X m = -1 := calm_clashI m (fits_calm hX m)
theorem ins_ge (K : List Rw) (x : Rw) : K.length ≤ (insF K x).length := by
  rw [(ins_perm K x).length_eq]
  unfold keepF
  split
  · exact Nat.le_refl _
  · rw [List.length_append]; exact Nat.le_add_right _ _
theorem kD_more (X : List Rw) (y : Rw) : (kD X).length ≤ (kD (X ++ [y])).length := by rw [kD_snoc]; exact ins_ge _ _
/-- so many solutions -/
def cntI (k t : Nat) (X : List Rw) (m : Nat) : Nat := if clashI X m < 0 then 256 ^ (t * (k - (kD X).length)) else 0
theorem cntQ_le {k t m : Nat} {X : List Rw} {y : Rw} : cntI k t (X ++ [y]) m ≤ 256 ^ (t * (k - (kD X).length)) := by
  unfold cntI
  split
  · refine Nat.pow_le_pow_right (by decide) (Nat.mul_le_mul_left _ ?_)
    have := kD_more X y
    omega
  · exact Nat.zero_le _
theorem cntQ_one {k t r : Nat} (h : r ≤ k) : 256 ^ (t * (k - r)) = 1 ↔ r = k ∨ t = 0 := by
  constructor
  · intro e
    rcases Nat.eq_zero_or_pos (t * (k - r)) with h0 | h0
    · rcases Nat.mul_eq_zero.1 h0 with h1 | h1
      · exact .inr h1
      · exact .inl (by omega)
    · have := Nat.pow_le_pow_right (show 0 < 256 by decide) h0
      rw [e] at this
      exact absurd this (by decide)
  · rintro (rfl | rfl)
    · rw [Nat.sub_self, Nat.mul_zero]
    · rw [Nat.zero_mul]
/-- rows made of the symbols hold -/
theorem hold_rowC {k n : Nat} {FX : List (List UInt8)} {w : List UInt8} (hF : ∀ x, x ∈ FX → x.length = n) (hk : FX.length = k) (hk1 : 1 ≤ k) (hw : w.length = k) : hold1 FX (rowC n FX w) = true := by
  have hc : combS w FX = (mulR n FX w, 0) := by
    rw [comb_ok hF (hw.trans hk.symm), if_neg (fun e => by rw [e] at hk; simp at hk; omega)]
  unfold hold1 rowC
  rw [Bool.and_eq_true, Bool.and_eq_true, List.all_eq_true]
  refine ⟨fun s hs => decide_eq_true ?_, decide_eq_true ?_, decide_eq_true ?_⟩
  · rw [hF s hs, mulR_len hF]
  · show (combS w FX).2 = 0; rw [hc]
  · show (combS w FX).1 = mulR n FX w; rw [hc]
theorem cmpN_one (M : Nat) : (cmpN M 1 == 0) = decide (M = 1) := by
  unfold cmpN
  by_cases h : M = 1
  · subst h; rfl
  · rw [decide_eq_false h]
    by_cases h1 : M < 1
    · rw [if_pos h1]; rfl
    · rw [if_neg h1, if_pos (by omega)]; rfl
theorem cmpN_le {M N : Nat} (h : M ≤ N) : cmpN M N ≤ 0 := by
  unfold cmpN
  split
  · omega
  · rw [if_neg (by omega)]; omega
end Go.Proofs.YtbfmdfbnhakolaaDoor
