/- The law's Rows: what its region leaves. The law's Rows. Whether chapter 9 is awake. SolveJudges: the walk. SolveJudges: sizes out of range. SolveJudges: sizes within bounds. SolveJudges: whole. Arguments that came in, as bytes and slices of bytes. Arguments that came in: slices of byte slices. The table that the library's TrailingZeros reads, out of the row's condition. Slices of structs of two slices of bytes, that came in. -/
import Derived.Test.YtbfmdfbnhakolaaDoorZn8
import Derived.OpenShut
import Derived.Deep.Matrix
import Derived.Test.YtbfmdfbnhakolaaDoorRows
import Derived.Lib.LaidTab
import Derived.Stop.LaidErr
import Derived.Lib.SmallJoins
namespace Go.Proofs.YtbfmdfbnhakolaaDoor
open Go.RowKit Go.By
/-- what an operation of the region leaves -/
def RJ (vA vB : Value) (i : Nat) (w w' : World) : Prop := (i = 4 ∧ App 63 vA w w') ∨ (i = 9 ∧ App 71 vB w w') ∨ (i ≠ 4 ∧ i ≠ 9 ∧ Below w.heap.size w w')
/-- what holds of the world -/
structure EJ (wz : World) (H b7 : Nat) (x7 y7 : Value) (vA vB : Value) (n : Nat) (K : List Rw) (dn : Nat → Bool) (w : World) : Prop where
  bel : Below wz.heap.size wz w
  hH : H ≤ w.heap.size
  box : w.heap[b7]? = some (.cells #[x7, y7] 54 (0, 0))
  a : dn 4 = false → RwL 63 5 w wz.heap.size vA n K
  b : dn 9 = false → OwnP 71 wz w wz.heap.size vB n K
def shJ (wz : World) (H : Nat) (x7 y7 : Value) (vA vB : Value) (n : Nat) (K : List Rw) (k : Rw) (j : Nat) (v : Value) (w : World) : Prop := match j with
  | 0 => v = vA
  | 1 => v = .agg #[x7, y7]
  | 2 => ∃ u1 u2, v = .agg #[u1, u2] ∧ Bw 5 w wz.heap.size u1 k.1 ∧ Bw 5 w wz.heap.size u2 k.2
  | 3 => ∃ g u1 u2, v = .slice (some ⟨g, 0, none⟩) 1 1 ∧ H ≤ g ∧ w.heap[g]? = some (.cells #[u1, u2] 63 (0, 0)) ∧ Bw 5 w wz.heap.size u1 k.1 ∧ Bw 5 w wz.heap.size u2 k.2
  | 4 => RwL 63 5 w wz.heap.size v (n + 1) (K ++ [k])
  | 5 => v = vB
  | 6 => v = .agg #[x7, y7]
  | 7 => v = .agg #[x7, y7]
  | 8 => ∃ g, v = .slice (some ⟨g, 0, none⟩) 1 1 ∧ H ≤ g ∧ w.heap[g]? = some (.cells #[x7, y7] 71 (0, 0))
  | 9 => OwnP 71 wz w wz.heap.size v (n + 1) (K ++ [k])
  | 10 => RwL 63 5 w wz.heap.size v (n + 1) (K ++ [k])
  | 11 => OwnP 71 wz w wz.heap.size v (n + 1) (K ++ [k])
  | _ => True
section
variable {wz w w' : World} {H b7 : Nat} {x7 y7 : Value} {vA vB : Value} {n : Nat} {K : List Rw} {k : Rw}
theorem RJ.bw {i base : Nat} {u : Value} {xs : List UInt8} (h : RJ vA vB i w w') (hb : Bw 5 w base u xs) : Bw 5 w' base u xs := by
  rcases h with ⟨_, h⟩ | ⟨_, h⟩ | ⟨_, _, h⟩
  · exact h.bw hb (by decide)
  · exact h.bw hb (by decide)
  · exact hb.keep h
theorem RJ.a {i base m : Nat} {u : Value} {L : List Rw} (h : RJ vA vB i w w') (hi : i ≠ 4) (hr : RwL 63 5 w base u m L) : RwL 63 5 w' base u m L := by
  rcases h with ⟨e, _⟩ | ⟨_, h⟩ | ⟨_, _, h⟩
  · exact absurd e hi
  · exact h.rwL hr (by decide) (by decide)
  · exact hr.keep h
theorem RJ.b {i base m : Nat} {u : Value} {L : List Rw} (h : RJ vA vB i w w') (hi : i ≠ 9) (hr : OwnP 71 wz w base u m L) : OwnP 71 wz w' base u m L := by
  rcases h with ⟨_, h⟩ | ⟨e, _⟩ | ⟨_, _, h⟩
  · exact h.ownP hr (by decide)
  · exact absurd e hi
  · exact hr.keep h
theorem RJ.new {i g : Nat} {o : Obj} (h : RJ vA vB i w w') (hA : ∀ b, vA.ownBlock = some b → b < H) (hB : ∀ b, vB.ownBlock = some b → b < H) (hg : H ≤ g) (ho : w.heap[g]? = some o) : w'.heap[g]? = some o := by
  have hl := blk_lt ho
  rcases h with ⟨_, h⟩ | ⟨_, h⟩ | ⟨_, _, h⟩
  · exact (h.block hl (fun e => by have := hA g e; omega)).trans ho
  · exact (h.block hl (fun e => by have := hB g e; omega)).trans ho
  · exact (h.block g hl).trans ho
theorem RJ.ej {i : Nat} {dn : Nat → Bool} (hE : EJ wz H b7 x7 y7 vA vB n K dn w) (h : RJ vA vB i w w') (hA : ∀ b, vA.ownBlock = some b → wz.heap.size ≤ b) (hB : ∀ b, vB.ownBlock = some b → wz.heap.size ≤ b) : EJ wz H b7 x7 y7 vA vB n K (fun j => if i = j then true else dn j) w' := by
  have hs := hE.bel.size
  refine ⟨?_, ?_, ?_, fun e => ?_, fun e => ?_⟩
  · rcases h with ⟨_, h⟩ | ⟨_, h⟩ | ⟨_, _, h⟩
    · exact hE.bel.grown h.1 hs (fun b hb => hA b hb)
    · exact hE.bel.grown h.1 hs (fun b hb => hB b hb)
    · exact bl hE.bel h hs
  · rcases h with ⟨_, h⟩ | ⟨_, h⟩ | ⟨_, _, h⟩
    · exact Nat.le_trans hE.hH h.1.size
    · exact Nat.le_trans hE.hH h.1.size
    · exact Nat.le_trans hE.hH h.size
  · rcases h with ⟨_, h⟩ | ⟨_, h⟩ | ⟨_, _, h⟩
    · exact h.blockT hE.box (by decide)
    · exact h.blockT hE.box (by decide)
    · exact (h.block _ (blk_lt hE.box)).trans hE.box
  · by_cases hi : i = 4
    · subst hi; simp at e
    · simp only [if_neg hi] at e
      exact h.a hi (hE.a e)
  · by_cases hi : i = 9
    · subst hi; simp at e
    · simp only [if_neg hi] at e
      exact h.b hi (hE.b e)
end
end Go.Proofs.YtbfmdfbnhakolaaDoor
namespace Go.Proofs.YtbfmdfbnhakolaaDoor
open Go.RowKit Go.By
set_option maxRecDepth 100000 in
set_option maxHeartbeats 4000000 in
theorem Rows9_any (p : Option Addr) (m c : Nat) (L : List Rw) (w : World) (h : RwS w p m c L) (hm : m ≤ 65536) (hL : ∀ x, x ∈ L → Room x.1.length ∧ Room x.2.length) :
    Calls Tryd.prog 19 #[.slice p m c] w fun e w' => ∃ q1 c1 q2 c2, e = .returned (.tuple #[.slice q1 m c1, .slice q2 m c2]) ∧ RwS w' q1 m c1 L ∧ RwS w' q2 m c2 L ∧ Below w.heap.size w w' := by
  obtain ⟨i0, hi0, hz0, hz1, hz2⟩ := info_parts info_vrow
  obtain ⟨r0, hr0, hrz, hr1, hr2⟩ := info_parts info_rrow
  have H := Lib.hid h; have HLEN := Lib.hid h.len; have HL := Lib.hid hL
  clear h hL
  go_enter Tryd.func19, Tryd.ntmps19
  go_wp2
  go_loopw [4, 5, 10] (fun va vb iv wr => ∃ (k : Nat) (qa : Option Addr) (ca : Nat) (qb : Option Addr) (cb : Nat), k ≤ m ∧ iv = .int .i64 k ∧ va = .slice qa k ca ∧ vb = .slice qb k cb ∧ Hid (RwL 63 5 wr w.heap.size (.slice qa k ca) k (L.take k)) ∧ Hid (OwnP 71 w wr w.heap.size (.slice qb k cb) k (L.take k)) ∧ Hid (Below w.heap.size w wr)) (fun _ _ iv _ => m - (intOf iv).toNat)
  case atStart => exact ⟨0, none, 0, none, 0, Nat.zero_le _, rfl, rfl, rfl, by show RwL _ _ _ _ _ _ (L.take 0); rw [List.take_zero]; exact RwL.nil _ _ _ _, by show OwnP _ _ _ _ _ _ (L.take 0); rw [List.take_zero]; exact OwnP.nil _ _ _ _, Below.refl _ _⟩
  case round =>
    obtain ⟨k, qa, ca, qb, cb, hk, rfl, rfl, rfl, hA, hP, hB⟩ := hrel
    by_cases hlt : k < m
    · have kn : (k : Int) < (m : Int) := by omega
      obtain ⟨x, hx⟩ : ∃ x, L[k]? = some x := ⟨_, List.getElem?_eq_getElem (by rw [HLEN.out]; exact hlt)⟩
      obtain ⟨b, o, q1, m1, c1, q2, m2, c2, rfl, d1, d2, s1, s2⟩ := H.out.row k x hx
      have hroom := HL.out x (List.mem_of_getElem? hx)
      have R1 : Hid (Room m1) := by rw [← s1.len]; exact hroom.1
      have R2 : Hid (Room m2) := by rw [← s2.len]; exact hroom.2
      have D1 := (hB.out.cell (p := ⟨b, o + k * 2, none⟩) (lt_of_cell d1)).trans d1
      have D2 := (hB.out.cell (p := ⟨b, o + k * 2 + 1, none⟩) (lt_of_cell d2)).trans d2
      have S1 := Lib.hid s1; have S2 := Lib.hid s2
      have htk : Hid (L.take (k + 1) = L.take k ++ [x]) := by show _ = _; rw [List.take_add_one, hx]; rfl
      obtain ⟨K, hK⟩ : ∃ K, K = L.take k := ⟨_, rfl⟩
      rw [← hK] at hA hP htk
      have hsz := hB.out.size
      obtain ⟨W, hW⟩ : ∃ W, W = wr.alloc (.cells #[.slice q1 m1 c1, .slice q2 m2 c2] 54) := ⟨_, rfl⟩
      have hW1 : Below wr.heap.size wr W := by rw [hW]; exact al (Below.refl _ _) (Nat.le_refl _)
      have hWd : Below wr.heap.size wr W.drew := ⟨hW1.os, hW1.tape, hW1.output, hW1.size, hW1.block⟩
      have EW : Hid (EJ w W.heap.size wr.heap.size (.slice q1 m1 c1) (.slice q2 m2 c2) (.slice qa k ca) (.slice qb k cb) k K (fun _ => false) W.drew) :=
        ⟨(bl hB.out hWd hsz), Nat.le_refl _, by show W.heap[wr.heap.size]? = _; rw [hW]; exact hnew rfl, fun _ => (hA.out.keep hWd), fun _ => (hP.out.keep hWd)⟩
      have hA0 : Hid (∀ g, (Value.slice qa k ca).ownBlock = some g → w.heap.size ≤ g ∧ g < W.heap.size) := fun g hg => by
        have := hA.out.lt g hg; have := hW1.size; omega
      have hB0 : Hid (∀ g, (Value.slice qb k cb).ownBlock = some g → w.heap.size ≤ g ∧ g < W.heap.size) := fun g hg => by
        obtain ⟨vs, _, _, ho, _⟩ := hP.out
        have := ho.lt g hg; have := hW1.size; omega
      have HW := Lib.hid hW
      clear d1 d2 s1 s2 hx hroom hW1 hWd hK hW hA hP
      go_wp2
      rw [← HW.out]
      refine wp_region_dones (EJ w W.heap.size wr.heap.size (.slice q1 m1 c1) (.slice q2 m2 c2) (.slice qa k ca) (.slice qb k cb) k K) (RJ (.slice qa k ca) (.slice qb k cb)) (shJ w W.heap.size (.slice q1 m1 c1) (.slice q2 m2 c2) (.slice qa k ca) (.slice qb k cb) k K x) 27 rfl (by kernel_rfl) (by decide) (by decide) (by decide) EW.out (fun dn i w1 w2 _ hE hR => hR.ej hE (fun g hg => (hA0.out g hg).1) (fun g hg => (hB0.out g hg).1)) ?_ ⟨?_, ?_, ?_, ?_, ?_, ?_, ?_, ?_, ?_, ?_, ?_, ?_, trivial⟩ ?_
      · intro i j v w1 w2 hij hp hs hR
        match j, hij, hp, hs with
        | 0, _, _, hs => exact hs
        | 1, _, _, hs => exact hs
        | 2, _, _, hs => obtain ⟨u1, u2, e, g1, g2⟩ := hs; exact ⟨u1, u2, e, hR.bw g1, hR.bw g2⟩
        | 3, _, _, hs => obtain ⟨g, u1, u2, e, hg, hh, g1, g2⟩ := hs; exact ⟨g, u1, u2, e, hg, hR.new (fun b hb => (hA0.out b hb).2) (fun b hb => (hB0.out b hb).2) hg hh, hR.bw g1, hR.bw g2⟩
        | 4, hij, _, hs => exact RJ.a hR hij hs
        | 5, _, _, hs => exact hs
        | 6, _, _, hs => exact hs
        | 7, _, _, hs => exact hs
        | 8, _, _, hs => obtain ⟨g, e, hg, hh⟩ := hs; exact ⟨g, e, hg, hR.new (fun b hb => (hA0.out b hb).2) (fun b hb => (hB0.out b hb).2) hg hh⟩
        | 9, hij, _, hs => exact RJ.b hR hij hs
        | 10, _, hp, hs => exact RJ.a hR (fun e => by subst e; exact absurd hp (by decide)) hs
        | 11, _, hp, hs => exact RJ.b hR (fun e => by subst e; exact absurd hp (by decide)) hs
        | j + 12, _, _, _ => exact trivial
      · intro a W2 dn hdn hE hs hp hi
        exact ite_y rfl (wp_val (sl a 4) rfl ⟨_, rfl, .inr (.inr ⟨by decide, by decide, Below.refl _ _⟩), hi 4 (by decide)⟩)
      · intro a W2 dn hdn hE hs hp hi
        have tt : sl a 7 = .pointer (some ⟨wr.heap.size, 0, none⟩) := hi 7 (by decide)
        have e0 := cell_of_row _ _ 0 _ _ _ hE.box
        have e1 := cell_of_row _ _ 1 _ _ _ hE.box
        refine ite_y rfl (wp_val (.agg #[.slice q1 m1 c1, .slice q2 m2 c2]) ?_ ⟨_, rfl, .inr (.inr ⟨by decide, by decide, Below.refl _ _⟩), rfl⟩)
        simp only [execOp, eval_tmp, tt]; simp [go_sem, e0, e1]
      · intro a W2 dn hdn hE hs hp hi
        have tt : sl a 15 = .agg #[.slice q1 m1 c1, .slice q2 m2 c2] := hp 1 (by decide)
        refine ite_y rfl (wp_enter 29 #[.agg #[.slice q1 m1 c1, .slice q2 m2 c2]] ?_ (OMake_any q1 q2 m1 c1 m2 c2 x.1 x.2 W2 (S1.out.keep hE.bel) (S2.out.keep hE.bel) R1.out R2.out) ?_)
        · simp only [execOp, resolve, List.map_toArray, List.map, eval_tmp, eval_func, eval_const, tt]; simp [go_sem]
        · rintro e W3 ⟨p1, n1, d1, p2, n2, d2, g1, g2, rfl, o1, o2, hb⟩
          exact ⟨_, rfl, _, rfl, .inr (.inr ⟨by decide, by decide, hb⟩), _, _, rfl, ⟨_, _, _, rfl, g1.out, owns_mono o1 hE.bel.size⟩, ⟨_, _, _, rfl, g2.out, owns_mono o2 hE.bel.size⟩⟩
      · intro a W2 dn hdn hE hs hp hi
        have tt : ∃ u1 u2, sl a 16 = .agg #[u1, u2] ∧ Bw 5 W2 w.heap.size u1 x.1 ∧ Bw 5 W2 w.heap.size u2 x.2 := hp 2 (by decide)
        obtain ⟨u1, u2, tt, ⟨p1, n1, d1, rfl, l1, o1⟩, ⟨p2, n2, d2, rfl, l2, o2⟩⟩ := tt
        refine ite_y rfl (wp_val' (w' := W2.alloc (.cells #[.slice p1 n1 d1, .slice p2 n2 d2] 63)) (.slice (some ⟨W2.heap.size, 0, none⟩) 1 1) ?_ ⟨_, rfl, .inr (.inr ⟨by decide, by decide, al (Below.refl _ _) (Nat.le_refl _)⟩), W2.heap.size, _, _, rfl, hE.hH, hnew rfl, Bw.keep ⟨p1, n1, d1, rfl, l1, o1⟩ (al (Below.refl _ _) (Nat.le_refl _)), Bw.keep ⟨p2, n2, d2, rfl, l2, o2⟩ (al (Below.refl _ _) (Nat.le_refl _))⟩)
        simp only [execOp, List.map_toArray, List.map, eval_tmp, tt]; simp [go_sem, tt]
      · intro a W2 dn hdn hE hs hp hi
        have t14 : sl a 14 = .slice qa k ca := hp 0 (by decide)
        have tt : ∃ g u1 u2, sl a 17 = .slice (some ⟨g, 0, none⟩) 1 1 ∧ W.heap.size ≤ g ∧ W2.heap[g]? = some (.cells #[u1, u2] 63 (0, 0)) ∧ Bw 5 W2 w.heap.size u1 x.1 ∧ Bw 5 W2 w.heap.size u2 x.2 := hp 3 (by decide)
        obtain ⟨g, u1, u2, t17, _, hg, b1, b2⟩ := tt
        have c1' : u1.oneCell' = true := by obtain ⟨_, _, _, rfl, _⟩ := b1; rfl
        have c2' : u2.oneCell' = true := by obtain ⟨_, _, _, rfl, _⟩ := b2; rfl
        obtain ⟨vs, la, lb, ho, hr⟩ := hE.a hdn
        refine ite_y rfl (wp_append_row (.tmp 14) (.tmp 17) 43 rfl w.heap.size 63 i0 _ 48 Tryd.underlying43 hi0 hz0 hz1 hz2 rfl (.slice qa k ca) k vs t14 ho g 1 u1 u2 _ _ t17 hg c1' c2' (by unfold maxLen; omega) (by omega) hE.bel.size ?_)
        intro v' w' ho' hg'
        exact ⟨v', rfl, .inl ⟨rfl, hg', tyS_of ho⟩, RwL.push la lb ho hr (by decide) b1 b2 ho' hg'⟩
      · intro a W2 dn hdn hE hs hp hi
        exact ite_y rfl (wp_val (sl a 5) rfl ⟨_, rfl, .inr (.inr ⟨by decide, by decide, Below.refl _ _⟩), hi 5 (by decide)⟩)
      · intro a W2 dn hdn hE hs hp hi
        have tt : sl a 7 = .pointer (some ⟨wr.heap.size, 0, none⟩) := hi 7 (by decide)
        have e0 := cell_of_row _ _ 0 _ _ _ hE.box
        have e1 := cell_of_row _ _ 1 _ _ _ hE.box
        refine ite_y rfl (wp_val (.agg #[.slice q1 m1 c1, .slice q2 m2 c2]) ?_ ⟨_, rfl, .inr (.inr ⟨by decide, by decide, Below.refl _ _⟩), rfl⟩)
        simp only [execOp, eval_tmp, tt]; simp [go_sem, e0, e1]
      · intro a W2 dn hdn hE hs hp hi
        have tt : sl a 20 = .agg #[.slice q1 m1 c1, .slice q2 m2 c2] := hp 6 (by decide)
        refine ite_y rfl (wp_enter 40 #[.agg #[.slice q1 m1 c1, .slice q2 m2 c2]] ?_ (ORef_any q1 q2 m1 c1 m2 c2 W2) ?_)
        · simp only [execOp, resolve, List.map_toArray, List.map, eval_tmp, eval_func, eval_const, tt]; simp [go_sem]
        · rintro e W3 ⟨rfl, hb⟩
          exact ⟨_, rfl, _, rfl, .inr (.inr ⟨by decide, by decide, hb⟩), rfl⟩
      · intro a W2 dn hdn hE hs hp hi
        have tt : sl a 21 = .agg #[.slice q1 m1 c1, .slice q2 m2 c2] := hp 7 (by decide)
        refine ite_y rfl (wp_val' (w' := W2.alloc (.cells #[.slice q1 m1 c1, .slice q2 m2 c2] 71)) (.slice (some ⟨W2.heap.size, 0, none⟩) 1 1) ?_ ⟨_, rfl, .inr (.inr ⟨by decide, by decide, al (Below.refl _ _) (Nat.le_refl _)⟩), W2.heap.size, rfl, hE.hH, hnew rfl⟩)
        simp only [execOp, List.map_toArray, List.map, eval_tmp, tt]; simp [go_sem, tt]
      · intro a W2 dn hdn hE hs hp hi
        have t19 : sl a 19 = .slice qb k cb := hp 5 (by decide)
        have tt : ∃ g, sl a 22 = .slice (some ⟨g, 0, none⟩) 1 1 ∧ W.heap.size ≤ g ∧ W2.heap[g]? = some (.cells #[.slice q1 m1 c1, .slice q2 m2 c2] 71 (0, 0)) := hp 8 (by decide)
        obtain ⟨g, t22, _, hg⟩ := tt
        obtain ⟨vs, la, lb, ho, hr⟩ := hE.b hdn
        refine ite_y rfl (wp_append_row (.tmp 19) (.tmp 22) 44 rfl w.heap.size 71 r0 _ 48 Tryd.underlying44 hr0 hrz hr1 hr2 rfl (.slice qb k cb) k vs t19 ho g 1 _ _ _ _ t22 hg rfl rfl (by unfold maxLen; omega) (by omega) hE.bel.size ?_)
        intro v' w' ho' hg'
        exact ⟨v', rfl, .inr (.inl ⟨rfl, hg', tyS_of ho⟩), OwnP.push la lb hr ⟨_, _, _, _, _, _, rfl, S1.out, S2.out⟩ ho'⟩
      · intro a W2 dn hdn hE hs hp hi
        exact ite_y rfl (wp_val (sl a 18) rfl ⟨_, rfl, .inr (.inr ⟨by decide, by decide, Below.refl _ _⟩), hp 4 (by decide)⟩)
      · intro a W2 dn hdn hE hs hp hi
        exact ite_y rfl (wp_val (sl a 23) rfl ⟨_, rfl, .inr (.inr ⟨by decide, by decide, Below.refl _ _⟩), hp 9 (by decide)⟩)
      · intro a W2 dn hE hs hd hI ht
        have ha := act_is [14, 15, 16, 17, 18, 19, 20, 21, 22, 23, 4, 5] hs hd ht (by decide)
        have hA4 : RwL 63 5 W2 w.heap.size (sl a 4) (k + 1) (K ++ [x]) := hI 10 (by decide)
        have hB5 : OwnP 71 w W2 w.heap.size (sl a 5) (k + 1) (K ++ [x]) := hI 11 (by decide)
        obtain ⟨qa', ca', t4⟩ := hA4.shape
        obtain ⟨qb', cb', t5⟩ := hB5.shape
        rw [t4] at hA4; rw [t5] at hB5
        rw [← htk.out] at hA4 hB5
        have HA4 := Lib.hid hA4; have HB5 := Lib.hid hB5
        have HB2 := Lib.hid hE.bel
        simp only [List.foldl, t4, t5] at ha
        clear hA4 hB5 hI t4 t5 hE ht
        generalize sl a 14 = u14 at ha
        generalize sl a 15 = u15 at ha
        generalize sl a 16 = u16 at ha
        generalize sl a 17 = u17 at ha
        generalize sl a 18 = u18 at ha
        generalize sl a 19 = u19 at ha
        generalize sl a 20 = u20 at ha
        generalize sl a 21 = u21 at ha
        generalize sl a 22 = u22 at ha
        generalize sl a 23 = u23 at ha
        simp only [Act.put, List.setIfInBounds_toArray, List.set_cons_zero, List.set_cons_succ] at ha
        rw [ha]
        clear ha hs hd S1 S2 R1 R2 D1 D2 hA0 hB0 EW HW htk hsz hB
        go_wp2
        go_roundw
        case rel => exact ⟨k + 1, qa', ca', qb', cb', by omega, by go_num, rfl, rfl, HA4.out, HB5.out, HB2.out⟩
        case measure => simp [intOf]; omega
    · obtain rfl : k = m := by omega
      have e : L.take k = L := List.take_of_length_le (by rw [HLEN.out]; exact Nat.le_refl _)
      rw [e] at hA hP
      have F1 : Hid (RwS wr qa k ca L) := hA.out.rwS
      have F2 : Hid (RwS wr qb k cb L) := hP.out.rwS hB.out
      clear hA hP e
      go_wp2
      go_ret2
      exact ⟨qa, ca, qb, cb, rfl, F1.out, F2.out, hB.out⟩
end Go.Proofs.YtbfmdfbnhakolaaDoor
namespace Go.By
open Go.RowKit
theorem rwS_one {W : World} {g T : Nat} {fr : Nat × Nat} {p1 p2 : Option Addr} {n1 n2 c1 c2 : Nat} {x : List UInt8 × List UInt8} (hW : W.heap[g]? = some (.cells #[.slice p1 n1 c1, .slice p2 n2 c2] T fr)) (h1 : Sl B8 W p1 n1 c1 x.1) (h2 : Sl B8 W p2 n2 c2 x.2) : RwS W (some ⟨g, 0, none⟩) 1 1 [x] := by
  refine ⟨rfl, Nat.le_refl _, by simp [maxLen], fun h => by simp at h, fun j k hj => ?_⟩
  match j, hj with
  | 0, hj =>
    have e : x = k := by simpa using hj
    subst e
    exact ⟨g, 0, p1, n1, c1, p2, n2, c2, rfl, cell_of_row _ _ 0 _ _ _ hW, cell_of_row _ _ 1 _ _ _ hW, h1, h2⟩
  | j + 1, hj => simp at hj
end Go.By
namespace Go.Proofs.YtbfmdfbnhakolaaDoor
open Go.RowKit Go.By
theorem hex256 : hexText 256 = [49, 48, 48] := by
  rw [hexText_big (by decide), show 256 / 16 = 16 from rfl, hexText_big (by decide), show 16 / 16 = 1 from rfl, hexText_small (by decide)]; rfl
theorem kD_awake : (kD [(([1, 1] : List UInt8), ([3] : List UInt8))]).length = 1 ∧ clashI [(([1, 1] : List UInt8), ([3] : List UInt8))] 1 = -1 := by
  refine ⟨by decide +kernel, by decide +kernel⟩
set_option maxRecDepth 100000 in
set_option maxHeartbeats 1000000 in
theorem awake09 (w : World) (hT : Tab w) : Calls Tryd.prog 17 #[] w fun e w' => e = .returned (.bool true) ∧ Below w.heap.size w w' := by
  have HT := Lib.hid hT
  have HC : Hid (∀ (W : World) p, RwS W p 1 1 [(([1, 1] : List UInt8), ([3] : List UInt8))] → Calls Tryd.prog 21 #[.int .i64 2, .int .i64 1, .slice p 1 1] W (RetN 34 W 256)) := fun W p h => by
    have hj := fun (W2 : World) (hb : Below W.heap.size W W2) => Judge_fit 2 1 p 1 1 _ W2 (h.keep hb) (by decide) (by decide) (by decide) (by decide) (fun x hx => by simp at hx; subst hx; exact ⟨rfl, rfl⟩)
    rw [kD_awake.1, kD_awake.2] at hj
    have := Count_ok 2 1 p 1 1 1 W (by decide) (by decide) (by decide) hj
    rwa [show (256 : Nat) ^ (1 * (2 - 1)) = 256 from rfl] at this
  clear hT
  go_enter Tryd.func17, Tryd.ntmps17
  go_wp2_with fail
  have b2 := ba2 w (.cells #[.int .u8 1, .int .u8 1] 5) (.cells #[.int .u8 3] 5)
  refine Calls.mono (Of_any _ _ _ _ _ _ [1, 1] [3] _ (sl_block [1, 1] 2 (hal (hnew rfl)) rfl rfl (by simp [maxLen])) (sl_block [3] 1 (hnew (by simp)) rfl rfl (by simp [maxLen])) (by unfold Room; omega) (by unfold Room; omega)) ?_
  rintro e w1 ⟨p1, n1, c1, p2, n2, c2, g1, g2, rfl, o1, o2, hb⟩
  have B1 : Hid (Below w.heap.size w w1) := bl b2 hb b2.size
  have S1 := Lib.hid (Sl.of_owns o1); have S2 := Lib.hid (Sl.of_owns o2)
  clear b2 hb o1 o2
  go_wp2_with fail
  refine Calls.mono (HC.out _ _ (rwS_one (hnew rfl) (S1.out.keep (ba1 _ _)) (S2.out.keep (ba1 _ _)))) ?_
  rintro e w2 ⟨q, n, c, rfl, hw, hb⟩
  have B2 : Hid (Below w.heap.size w w2) := bl (bl B1.out (ba1 w1 _) B1.out.size) hb (by have := B1.out.size; simp; omega)
  have HW := Lib.hid hw
  clear hb hw B1 S1 S2
  go_wp2_with fail
  refine Calls.mono (Text_nat q n c 256 _ (HW.out.keep (ba1 _ _)) ((HT.out.keep B2.out).keep (ba1 _ _))) ?_
  rintro e w3 ⟨rfl, hb⟩
  rw [hex256]
  have B3 : Hid (Below w.heap.size w w3) := bl (bl B2.out (ba1 w2 _) B2.out.size) hb (by have := B2.out.size; simp; omega)
  clear hb HW
  have hs1 : ((strB [49, 48, 48]).toList == [49, 48, 48]) = true := by rw [strB_toList]; rfl
  go_wp2
  go_ret
  exact ⟨rfl, B3.out⟩
end Go.Proofs.YtbfmdfbnhakolaaDoor
namespace Go.Proofs.YtbfmdfbnhakolaaDoor
open Go.RowKit Go.By
set_option maxRecDepth 100000 in
set_option maxHeartbeats 2000000 in
theorem SolveJudges_few (k t : Int) (p : Option Addr) (m c : Nat) (L : List Rw) (w : World) (h : RwS w p m c L) (hT : Tab w) (hf : few8 m L = false ∨ 20 < k ∧ k ≤ 4096 ∨ 20 < t ∧ t ≤ 65535) :
    Calls Tryd.prog 5 #[.int .i64 k, .int .i64 t, .slice p m c] w fun e w' => e = .returned (.bool true) ∧ Below w.heap.size w w' := by
  have H := Lib.hid h; have HT := Lib.hid hT
  clear h hT
  obtain ⟨F, hF⟩ : ∃ F, F = few8 m L := ⟨_, rfl⟩
  have HF := Lib.hid hF
  rw [← hF] at hf
  clear hF
  go_enter Tryd.func5, Tryd.ntmps5
  go_wp2_with fail
  refine Calls.mono (awake09 _ HT.out) ?_
  rintro e w1 ⟨rfl, hb⟩
  have B1 := Lib.hid hb
  clear hb
  go_wp2_with fail
  refine Calls.mono (Few8_any p m c L _ (H.out.keep B1.out)) ?_
  rintro e w2 ⟨rfl, hb⟩
  have B2 : Hid (Below w.heap.size w w2) := bl B1.out hb B1.out.size
  rw [← HF.out]
  clear hb B1 H HF HT
  cases F with
  | false =>
    clear hf
    go_wp2
    go_ret
    exact ⟨rfl, B2.out⟩
  | true =>
    have hf' : (20 < k ∧ k ≤ 4096) ∨ (20 < t ∧ t ≤ 65535) := hf.resolve_left (by decide)
    clear hf
    by_cases h1 : 20 < k
    · by_cases h2 : k ≤ 4096
      · clear hf'
        go_wp2
        go_ret
        exact ⟨rfl, B2.out⟩
      · have h3 : 20 < t ∧ t ≤ 65535 := hf'.resolve_left (fun g => h2 g.2)
        obtain ⟨h4, h5⟩ := h3
        clear hf'
        go_wp2
        go_ret
        exact ⟨rfl, B2.out⟩
    · have h3 : 20 < t ∧ t ≤ 65535 := hf'.resolve_left (fun g => h1 g.1)
      obtain ⟨h4, h5⟩ := h3
      clear hf'
      go_wp2
      go_ret
      exact ⟨rfl, B2.out⟩
end Go.Proofs.YtbfmdfbnhakolaaDoor
namespace Go.Proofs.YtbfmdfbnhakolaaDoor
open Go.RowKit Go.By
set_option maxRecDepth 100000 in
set_option maxHeartbeats 4000000 in
theorem SolveJudges_bad (k t : Int) (p : Option Addr) (m c : Nat) (L : List Rw) (w : World) (h : RwS w p m c L) (hT : Tab w) (hf : few8 m L = true) (hm : m ≤ 65536) (hL : ∀ x, x ∈ L → Room x.1.length ∧ Room x.2.length) (hk : k ≤ 20 ∨ 4096 < k) (ht : t ≤ 20 ∨ 65535 < t) (hbad : k < 1 ∨ 4096 < k ∨ t < 0 ∨ 65535 < t) :
    Calls Tryd.prog 5 #[.int .i64 k, .int .i64 t, .slice p m c] w fun e w' => e = .returned (.bool true) ∧ Below w.heap.size w w' := by
  have H := Lib.hid h; have HT := Lib.hid hT; have HF := Lib.hid hf; have HL := Lib.hid hL
  have HJ : Hid (∀ W p' c', Calls Tryd.prog 20 #[.int .i64 k, .int .i64 t, .slice p' m c'] W (RetVd W 0 0 2)) := fun W p' c' => Judge_bad k t p' m c' W hbad
  have HC : Hid (∀ W p' c', Calls Tryd.prog 21 #[.int .i64 k, .int .i64 t, .slice p' m c'] W (Ret0 W 2)) := fun W p' c' => Count_err k t p' m c' 2 W (by decide) (fun W2 _ => HJ.out W2 p' c')
  have HB9 : bytesN 0 = [] := by unfold bytesN; rw [digs_zero]; rfl
  clear h hT hf hL
  go_enter Tryd.func5, Tryd.ntmps5
  go_wp2_with fail
  refine Calls.mono (awake09 _ HT.out) ?_
  rintro e w1 ⟨rfl, hb⟩
  have B1 := Lib.hid hb
  clear hb
  go_wp2_with fail
  refine Calls.mono (Few8_any p m c L _ (H.out.keep B1.out)) ?_
  rintro e w2 ⟨rfl, hb⟩
  have B2 : Hid (Below w.heap.size w w2) := bl B1.out hb B1.out.size
  rw [HF.out]
  clear hb B1 HF HT
  by_cases h1 : k < 1
  · have h2 : ¬ 20 < k := by omega
    by_cases h3 : 20 < t
    · have h4 : ¬ t ≤ 65535 := by omega
      clear hk ht hbad
      go_wp2_with fail
      refine Calls.mono (Rows9_any p m c L _ (H.out.keep B2.out) hm HL.out) ?_
      rintro e w3 ⟨qa, ca, qb, cb, rfl, _, _, hb⟩
      have B3 : Hid (Below w.heap.size w w3) := bl B2.out hb B2.out.size
      clear hb B2
      go_wp2_with fail
      refine Calls.mono (HJ.out _ _ _) ?_
      rintro e w4 ⟨rfl, hb⟩
      have B4 : Hid (Below w.heap.size w w4) := bl B3.out hb B3.out.size
      clear hb B3
      go_wp2_with fail
      refine Calls.mono (HC.out _ _ _) ?_
      rintro e w5 ⟨rfl, hb⟩
      have V5 : Hid (BlkIs w4.heap.size (.cells #[.int .i64 0, .int .i64 0] 48) w5) := BlkIs.keep (hnew rfl) hb
      have B5 : Hid (Below w.heap.size w w5) := bl (bl B4.out (ba1 w4 _) B4.out.size) hb (by have := B4.out.size; simp; omega)
      clear hb B4
      have v0 : ∀ o, (w5.alloc o).cell? ⟨w4.heap.size, 0, none⟩ = some (.int .i64 0) := fun o => cell_of_row _ _ 0 _ _ _ (hal V5.out)
      have v1 : ∀ o, (w5.alloc o).cell? ⟨w4.heap.size, 1, none⟩ = some (.int .i64 0) := fun o => cell_of_row _ _ 1 _ _ _ (hal V5.out)
      go_wp2_with fail
      refine Calls.mono (Len_any none 0 0 0 _ (Ws.zero _ _)) ?_
      rintro e w6 ⟨rfl, hb⟩
      have B6 : Hid (Below w.heap.size w w6) := bl (bl B5.out (ba1 w5 _) B5.out.size) hb (by have := B5.out.size; simp; omega)
      rw [HB9]
      clear hb B5 V5 v0 v1
      go_wp2
      go_ret
      exact ⟨rfl, B6.out⟩
    · clear hk ht hbad
      go_wp2_with fail
      refine Calls.mono (Rows9_any p m c L _ (H.out.keep B2.out) hm HL.out) ?_
      rintro e w3 ⟨qa, ca, qb, cb, rfl, _, _, hb⟩
      have B3 : Hid (Below w.heap.size w w3) := bl B2.out hb B2.out.size
      clear hb B2
      go_wp2_with fail
      refine Calls.mono (HJ.out _ _ _) ?_
      rintro e w4 ⟨rfl, hb⟩
      have B4 : Hid (Below w.heap.size w w4) := bl B3.out hb B3.out.size
      clear hb B3
      go_wp2_with fail
      refine Calls.mono (HC.out _ _ _) ?_
      rintro e w5 ⟨rfl, hb⟩
      have V5 : Hid (BlkIs w4.heap.size (.cells #[.int .i64 0, .int .i64 0] 48) w5) := BlkIs.keep (hnew rfl) hb
      have B5 : Hid (Below w.heap.size w w5) := bl (bl B4.out (ba1 w4 _) B4.out.size) hb (by have := B4.out.size; simp; omega)
      clear hb B4
      have v0 : ∀ o, (w5.alloc o).cell? ⟨w4.heap.size, 0, none⟩ = some (.int .i64 0) := fun o => cell_of_row _ _ 0 _ _ _ (hal V5.out)
      have v1 : ∀ o, (w5.alloc o).cell? ⟨w4.heap.size, 1, none⟩ = some (.int .i64 0) := fun o => cell_of_row _ _ 1 _ _ _ (hal V5.out)
      go_wp2_with fail
      refine Calls.mono (Len_any none 0 0 0 _ (Ws.zero _ _)) ?_
      rintro e w6 ⟨rfl, hb⟩
      have B6 : Hid (Below w.heap.size w w6) := bl (bl B5.out (ba1 w5 _) B5.out.size) hb (by have := B5.out.size; simp; omega)
      rw [HB9]
      clear hb B5 V5 v0 v1
      go_wp2
      go_ret
      exact ⟨rfl, B6.out⟩
  · by_cases h2 : 20 < k
    · have h5 : ¬ k ≤ 4096 := by omega
      by_cases h3 : 20 < t
      · have h4 : ¬ t ≤ 65535 := by omega
        clear hk ht hbad
        go_wp2_with fail
        refine Calls.mono (Rows9_any p m c L _ (H.out.keep B2.out) hm HL.out) ?_
        rintro e w3 ⟨qa, ca, qb, cb, rfl, _, _, hb⟩
        have B3 : Hid (Below w.heap.size w w3) := bl B2.out hb B2.out.size
        clear hb B2
        go_wp2_with fail
        refine Calls.mono (HJ.out _ _ _) ?_
        rintro e w4 ⟨rfl, hb⟩
        have B4 : Hid (Below w.heap.size w w4) := bl B3.out hb B3.out.size
        clear hb B3
        go_wp2_with fail
        refine Calls.mono (HC.out _ _ _) ?_
        rintro e w5 ⟨rfl, hb⟩
        have V5 : Hid (BlkIs w4.heap.size (.cells #[.int .i64 0, .int .i64 0] 48) w5) := BlkIs.keep (hnew rfl) hb
        have B5 : Hid (Below w.heap.size w w5) := bl (bl B4.out (ba1 w4 _) B4.out.size) hb (by have := B4.out.size; simp; omega)
        clear hb B4
        have v0 : ∀ o, (w5.alloc o).cell? ⟨w4.heap.size, 0, none⟩ = some (.int .i64 0) := fun o => cell_of_row _ _ 0 _ _ _ (hal V5.out)
        have v1 : ∀ o, (w5.alloc o).cell? ⟨w4.heap.size, 1, none⟩ = some (.int .i64 0) := fun o => cell_of_row _ _ 1 _ _ _ (hal V5.out)
        go_wp2_with fail
        refine Calls.mono (Len_any none 0 0 0 _ (Ws.zero _ _)) ?_
        rintro e w6 ⟨rfl, hb⟩
        have B6 : Hid (Below w.heap.size w w6) := bl (bl B5.out (ba1 w5 _) B5.out.size) hb (by have := B5.out.size; simp; omega)
        rw [HB9]
        clear hb B5 V5 v0 v1
        go_wp2
        go_ret
        exact ⟨rfl, B6.out⟩
      · clear hk ht hbad
        go_wp2_with fail
        refine Calls.mono (Rows9_any p m c L _ (H.out.keep B2.out) hm HL.out) ?_
        rintro e w3 ⟨qa, ca, qb, cb, rfl, _, _, hb⟩
        have B3 : Hid (Below w.heap.size w w3) := bl B2.out hb B2.out.size
        clear hb B2
        go_wp2_with fail
        refine Calls.mono (HJ.out _ _ _) ?_
        rintro e w4 ⟨rfl, hb⟩
        have B4 : Hid (Below w.heap.size w w4) := bl B3.out hb B3.out.size
        clear hb B3
        go_wp2_with fail
        refine Calls.mono (HC.out _ _ _) ?_
        rintro e w5 ⟨rfl, hb⟩
        have V5 : Hid (BlkIs w4.heap.size (.cells #[.int .i64 0, .int .i64 0] 48) w5) := BlkIs.keep (hnew rfl) hb
        have B5 : Hid (Below w.heap.size w w5) := bl (bl B4.out (ba1 w4 _) B4.out.size) hb (by have := B4.out.size; simp; omega)
        clear hb B4
        have v0 : ∀ o, (w5.alloc o).cell? ⟨w4.heap.size, 0, none⟩ = some (.int .i64 0) := fun o => cell_of_row _ _ 0 _ _ _ (hal V5.out)
        have v1 : ∀ o, (w5.alloc o).cell? ⟨w4.heap.size, 1, none⟩ = some (.int .i64 0) := fun o => cell_of_row _ _ 1 _ _ _ (hal V5.out)
        go_wp2_with fail
        refine Calls.mono (Len_any none 0 0 0 _ (Ws.zero _ _)) ?_
        rintro e w6 ⟨rfl, hb⟩
        have B6 : Hid (Below w.heap.size w w6) := bl (bl B5.out (ba1 w5 _) B5.out.size) hb (by have := B5.out.size; simp; omega)
        rw [HB9]
        clear hb B5 V5 v0 v1
        go_wp2
        go_ret
        exact ⟨rfl, B6.out⟩
    · have h5 : ¬ 4096 < k := by omega
      by_cases h3 : 20 < t
      · have h4 : ¬ t ≤ 65535 := by omega
        have h6 : ¬ t < 0 := by omega
        clear hk ht hbad
        go_wp2_with fail
        refine Calls.mono (Rows9_any p m c L _ (H.out.keep B2.out) hm HL.out) ?_
        rintro e w3 ⟨qa, ca, qb, cb, rfl, _, _, hb⟩
        have B3 : Hid (Below w.heap.size w w3) := bl B2.out hb B2.out.size
        clear hb B2
        go_wp2_with fail
        refine Calls.mono (HJ.out _ _ _) ?_
        rintro e w4 ⟨rfl, hb⟩
        have B4 : Hid (Below w.heap.size w w4) := bl B3.out hb B3.out.size
        clear hb B3
        go_wp2_with fail
        refine Calls.mono (HC.out _ _ _) ?_
        rintro e w5 ⟨rfl, hb⟩
        have V5 : Hid (BlkIs w4.heap.size (.cells #[.int .i64 0, .int .i64 0] 48) w5) := BlkIs.keep (hnew rfl) hb
        have B5 : Hid (Below w.heap.size w w5) := bl (bl B4.out (ba1 w4 _) B4.out.size) hb (by have := B4.out.size; simp; omega)
        clear hb B4
        have v0 : ∀ o, (w5.alloc o).cell? ⟨w4.heap.size, 0, none⟩ = some (.int .i64 0) := fun o => cell_of_row _ _ 0 _ _ _ (hal V5.out)
        have v1 : ∀ o, (w5.alloc o).cell? ⟨w4.heap.size, 1, none⟩ = some (.int .i64 0) := fun o => cell_of_row _ _ 1 _ _ _ (hal V5.out)
        go_wp2_with fail
        refine Calls.mono (Len_any none 0 0 0 _ (Ws.zero _ _)) ?_
        rintro e w6 ⟨rfl, hb⟩
        have B6 : Hid (Below w.heap.size w w6) := bl (bl B5.out (ba1 w5 _) B5.out.size) hb (by have := B5.out.size; simp; omega)
        rw [HB9]
        clear hb B5 V5 v0 v1
        go_wp2
        go_ret
        exact ⟨rfl, B6.out⟩
      · have h6 : t < 0 := by omega
        clear hk ht hbad
        go_wp2_with fail
        refine Calls.mono (Rows9_any p m c L _ (H.out.keep B2.out) hm HL.out) ?_
        rintro e w3 ⟨qa, ca, qb, cb, rfl, _, _, hb⟩
        have B3 : Hid (Below w.heap.size w w3) := bl B2.out hb B2.out.size
        clear hb B2
        go_wp2_with fail
        refine Calls.mono (HJ.out _ _ _) ?_
        rintro e w4 ⟨rfl, hb⟩
        have B4 : Hid (Below w.heap.size w w4) := bl B3.out hb B3.out.size
        clear hb B3
        go_wp2_with fail
        refine Calls.mono (HC.out _ _ _) ?_
        rintro e w5 ⟨rfl, hb⟩
        have V5 : Hid (BlkIs w4.heap.size (.cells #[.int .i64 0, .int .i64 0] 48) w5) := BlkIs.keep (hnew rfl) hb
        have B5 : Hid (Below w.heap.size w w5) := bl (bl B4.out (ba1 w4 _) B4.out.size) hb (by have := B4.out.size; simp; omega)
        clear hb B4
        have v0 : ∀ o, (w5.alloc o).cell? ⟨w4.heap.size, 0, none⟩ = some (.int .i64 0) := fun o => cell_of_row _ _ 0 _ _ _ (hal V5.out)
        have v1 : ∀ o, (w5.alloc o).cell? ⟨w4.heap.size, 1, none⟩ = some (.int .i64 0) := fun o => cell_of_row _ _ 1 _ _ _ (hal V5.out)
        go_wp2_with fail
        refine Calls.mono (Len_any none 0 0 0 _ (Ws.zero _ _)) ?_
        rintro e w6 ⟨rfl, hb⟩
        have B6 : Hid (Below w.heap.size w w6) := bl (bl B5.out (ba1 w5 _) B5.out.size) hb (by have := B5.out.size; simp; omega)
        rw [HB9]
        clear hb B5 V5 v0 v1
        go_wp2
        go_ret
        exact ⟨rfl, B6.out⟩
end Go.Proofs.YtbfmdfbnhakolaaDoor
namespace Go.Proofs.YtbfmdfbnhakolaaDoor
open Go.RowKit Go.By
theorem valB_pow (n : Nat) : valB (List.replicate n 0 ++ [1]) = 256 ^ n := by
  unfold valB
  rw [List.map_append, valD_append, List.map_replicate]
  show valD 256 (List.replicate n 0) + 256 ^ (List.replicate n (0 : Nat)).length * (1 + 256 * 0) = _
  rw [valD_zeros, List.length_replicate]; omega
theorem len_any_bytes (N : Nat) : ((bytesN N).length = 0) ↔ N = 0 := by
  constructor
  · intro h
    have : bytesN N = [] := List.eq_nil_of_length_eq_zero h
    rw [← bytesN_zero] at this
    exact bytesN_inj this
  · rintro rfl; rw [bytesN_zero]; rfl
set_option maxRecDepth 100000 in
set_option maxHeartbeats 4000000 in
theorem SolveJudges_core (k t : Nat) (p : Option Addr) (m c : Nat) (L : List Rw) (r : Nat) (cl code : Int) (N : Nat) (w : World) (h : RwS w p m c L) (hT : Tab w) (hf : few8 m L = true) (hm : m ≤ 30) (hL : ∀ x, x ∈ L → Room x.1.length ∧ Room x.2.length) (hk1 : 1 ≤ k) (hk : k ≤ 20) (ht : t ≤ 20)
    (hr : r ≤ k) (_hcl : -1 ≤ cl)
    (hJ : ∀ W p' c', RwS W p' m c' L → Calls Tryd.prog 20 #[.int .i64 k, .int .i64 t, .slice p' m c'] W (RetVd W r cl code))
    (hC : ∀ W p' c', RwS W p' m c' L → Calls Tryd.prog 21 #[.int .i64 k, .int .i64 t, .slice p' m c'] W fun e w' => ∃ q n d, e = .returned (.tuple #[.agg #[.slice q n d], .int .i64 code]) ∧ Ws 34 w' q n d N ∧ Below W.heap.size W w')
    (hbad : ∀ (i : Nat) (x : Rw), L[i]? = some x → ¬ Fit k t x → r = 0 ∧ cl = 0 ∧ code = 4 ∧ N = 0)
    (hgood : (∀ x, x ∈ L → Fit k t x) → r = (kD L).length ∧ cl = clashI L m ∧ code = 0 ∧ (0 ≤ cl → N = 0) ∧ (cl < 0 → N = 256 ^ (t * (k - r)))) :
    Calls Tryd.prog 5 #[.int .i64 k, .int .i64 t, .slice p m c] w fun e w' => e = .returned (.bool true) ∧ Below w.heap.size w w' := by
  have H := Lib.hid h; have HT := Lib.hid hT; have HF := Lib.hid hf; have HL := Lib.hid hL; have HJ := Lib.hid hJ; have HC := Lib.hid hC; have HBD := Lib.hid hbad; have HGD := Lib.hid hgood; have HR := Lib.hid hr
  have HLN := Lib.hid h.len
  have HB9 : bytesN 0 = [] := bytesN_zero
  obtain ⟨i0, hi0, hz0, hz1, hz2⟩ := info_parts info_u8
  clear h hT hf hL hJ hC hbad hgood hr
  go_enter Tryd.func5, Tryd.ntmps5
  go_wp2_with fail
  refine Calls.mono (awake09 _ HT.out) ?_
  rintro e w1 ⟨rfl, hb⟩
  have B1 := Lib.hid hb
  clear hb
  go_wp2_with fail
  refine Calls.mono (Few8_any p m c L _ (H.out.keep B1.out)) ?_
  rintro e w2 ⟨rfl, hb⟩
  have B2 : Hid (Below w.heap.size w w2) := bl B1.out hb B1.out.size
  rw [HF.out]
  clear hb B1 HF
  have k1 : (1 : Int) ≤ (k : Int) := by omega
  have k2 : (k : Int) ≤ 20 := by omega
  have t1 : (t : Int) ≤ 20 := by omega
  have k3 : (k : Int) ≤ 4096 := by omega
  have t2 : (t : Int) ≤ 65535 := by omega
  have t3 : (0 : Int) ≤ (t : Int) := by omega
  go_wp2_with fail
  refine Calls.mono (Rows9_any p m c L _ (H.out.keep B2.out) (by omega) HL.out) ?_
  rintro e w3 ⟨qa, ca, qb, cb, rfl, ha, hbb, hb⟩
  have B3 : Hid (Below w.heap.size w w3) := bl B2.out hb B2.out.size
  have RA := Lib.hid ha; have RB := Lib.hid hbb
  clear hb B2 ha hbb
  go_wp2_with fail
  refine Calls.mono (HJ.out _ _ _ RA.out) ?_
  rintro e w4 ⟨rfl, hb⟩
  have B4 : Hid (Below w.heap.size w w4) := bl B3.out hb B3.out.size
  have RB4 := Lib.hid (RB.out.keep hb)
  have RA4 := Lib.hid (RA.out.keep hb)
  clear hb B3 RB RA
  go_wp2_with fail
  refine Calls.mono (HC.out _ _ _ (RA4.out.keep (ba1 _ _))) ?_
  rintro e w5 ⟨qn, nn, dn, rfl, hw, hb⟩
  have V5 : Hid (BlkIs w4.heap.size (.cells #[.int .i64 r, .int .i64 cl] 48) w5) := BlkIs.keep (hnew rfl) hb
  have B5 : Hid (Below w.heap.size w w5) := bl (bl B4.out (ba1 w4 _) B4.out.size) hb (by have := B4.out.size; simp; omega)
  have RB5 := Lib.hid ((RB4.out.keep (ba1 _ _)).keep hb)
  have W5 := Lib.hid hw
  have b45 : w4.heap.size < w5.heap.size := by have := hb.size; simp at this; omega
  clear hb B4 hw RB4 RA4
  obtain ⟨B, hB⟩ : ∃ B, B = w5.alloc (.cells #[.slice qn nn dn] 29) := ⟨_, rfl⟩
  have V6 : Hid (BlkIs w4.heap.size (.cells #[.int .i64 r, .int .i64 cl] 48) B) := by rw [hB]; exact V5.out.keep (ba1 _ _)
  have N6 : Hid (BlkIs w5.heap.size (.cells #[.slice qn nn dn] 29) B) := by rw [hB]; exact hnew rfl
  have B6 : Hid (Below w.heap.size w B) := by rw [hB]; exact bl B5.out (ba1 w5 _) B5.out.size
  have RB6 : Hid (RwS B qb m cb L) := by rw [hB]; exact RB5.out.keep (ba1 _ _)
  have W6 : Hid (Ws 34 B qn nn dn N) := by rw [hB]; exact W5.out.keep (ba1 _ _)
  clear V5 B5 RB5 W5
  go_wp2
  rw [← hB]
  clear hB
  go_loopw [90] (fun iv wr => ∃ i : Nat, i ≤ m ∧ iv = .int .i64 i ∧ Hid (∀ (j : Nat) (x : Rw), j < i → L[j]? = some x → Fit k t x) ∧ Hid (Below B.heap.size B wr)) (fun iv _ => m - (intOf iv).toNat)
  case atStart => exact ⟨0, Nat.zero_le _, rfl, fun j x hj => by omega, Below.refl _ _⟩
  case round =>
    obtain ⟨i, hi, rfl, hA, hBl⟩ := hrel
    have hW : Hid (Below w.heap.size w wr) := bl B6.out hBl.out B6.out.size
    have V7 : Hid (BlkIs w4.heap.size (.cells #[.int .i64 r, .int .i64 cl] 48) wr) := V6.out.keep hBl.out
    have N7 : Hid (BlkIs w5.heap.size (.cells #[.slice qn nn dn] 29) wr) := N6.out.keep hBl.out
    have W7 : Hid (Ws 34 wr qn nn dn N) := W6.out.keep hBl.out
    have RB7 : Hid (RwS wr qb m cb L) := RB6.out.keep hBl.out
    have BA2 : Hid (∀ o, Below B.heap.size B (wr.alloc o)) := fun o => bl hBl.out (ba1 wr o) hBl.out.size
    clear hBl V6 N6 B6 RB6 W6
    by_cases hlt : i < m
    · have kn : (i : Int) < (m : Int) := by omega
      obtain ⟨x, hx⟩ : ∃ x, L[i]? = some x := ⟨_, List.getElem?_eq_getElem (by rw [HLN.out]; exact hlt)⟩
      obtain ⟨b, o, q1, m1, c1, q2, m2, c2, rfl, d1, d2, s1, s2⟩ := (H.out.keep hW.out).row i x hx
      have l1 := s1.len; have l2 := s2.len
      have hb1 := s1.bound; have hb2 := s2.bound
      have BA : Hid (∀ o, Below w.heap.size w (wr.alloc o)) := fun o => al hW.out hW.out.size
      by_cases hfit : Fit k t x
      · obtain rfl : k = m1 := by rw [← l1]; exact hfit.1.symm
        obtain rfl : t = m2 := by rw [← l2]; exact hfit.2.symm
        have hnx : Hid (∀ (j : Nat) (x : Rw), j < i + 1 → L[j]? = some x → Fit k t x) := fun j y hjk hy => by
          rcases Nat.lt_or_ge j i with h | h
          · exact hA.out j y h hy
          · obtain rfl : j = i := by omega
            rw [hx] at hy; cases hy; exact hfit
        clear s1 s2 l1 l2 hx hfit hA hW V7 N7 W7 RB7 HBD HGD hlt
        go_wp2
        go_roundw
        case rel => exact ⟨i + 1, by omega, by go_num, hnx.out, BA2.out _⟩
        case measure => simp [intOf]; omega
      · obtain ⟨rfl, rfl, rfl, rfl⟩ := HBD.out i x hx hfit
        have v0 : ∀ o, (wr.alloc o).cell? ⟨w4.heap.size, 0, none⟩ = some (.int .i64 0) := fun o => cell_of_row _ _ 0 _ _ _ (hal V7.out)
        have v1 : ∀ o, (wr.alloc o).cell? ⟨w4.heap.size, 1, none⟩ = some (.int .i64 0) := fun o => cell_of_row _ _ 1 _ _ _ (hal V7.out)
        have n0 : ∀ o, (wr.alloc o).cell? ⟨w5.heap.size, 0, none⟩ = some (.slice qn nn dn) := fun o => cell_of_row _ _ 0 _ _ _ (hal N7.out)
        have W8 : Hid (∀ o, Ws 34 (wr.alloc o) qn nn dn 0) := fun o => W7.out.keep (ba1 _ _)
        by_cases e1 : m1 = k
        · obtain rfl : k = m1 := e1.symm
          have e2 : ¬ m2 = t := fun e => hfit ⟨l1, by rw [l2]; exact e⟩
          have e3 : ((m2 : Int) != (t : Int)) = true := by rw [bne_iff_ne]; omega
          clear s1 s2 l1 l2 hx hfit hA hW V7 N7 W7 RB7 HBD HGD hlt e2
          go_wp2_with fail
          refine Calls.mono (Len_any qn nn dn 0 _ (W8.out _)) ?_
          rintro e w6 ⟨rfl, hb⟩
          have B9 : Hid (Below w.heap.size w w6) := bl (BA.out _) hb (BA.out _).size
          rw [HB9]
          clear hb v0 v1 n0 W8 BA
          go_wp2
          go_ret
          exact ⟨rfl, B9.out⟩
        · have e3 : ((m1 : Int) != (k : Int)) = true := by rw [bne_iff_ne]; omega
          clear s1 s2 l1 l2 hx hfit hA hW V7 N7 W7 RB7 HBD HGD hlt e1
          go_wp2_with fail
          refine Calls.mono (Len_any qn nn dn 0 _ (W8.out _)) ?_
          rintro e w6 ⟨rfl, hb⟩
          have B9 : Hid (Below w.heap.size w w6) := bl (BA.out _) hb (BA.out _).size
          rw [HB9]
          clear hb v0 v1 n0 W8 BA
          go_wp2
          go_ret
          exact ⟨rfl, B9.out⟩
    · obtain rfl : i = m := by omega
      have hall : ∀ x, x ∈ L → Fit k t x := fun x hx => by
        obtain ⟨j, hj, rfl⟩ := List.mem_iff_getElem.1 hx
        exact hA.out j _ (by have := HLN.out; omega) (List.getElem?_eq_getElem hj)
      obtain ⟨g1, g2, rfl, g4, g5⟩ := HGD.out hall
      have HA := Lib.hid hall; have G1 := Lib.hid g1; have G2 := Lib.hid g2; have G4 := Lib.hid g4; have G5 := Lib.hid g5
      clear hall g1 g2 g4 g5 hA HBD HGD hlt
      have HRJ : Hid (∀ W, RwS W qb i cb L → Calls Tryd.prog 23 #[.slice qb i cb] W fun e w' => e = .returned (.tuple #[.int .i64 r, .int .i64 cl]) ∧ Below W.heap.size W w') := fun W h => by
        rw [G1.out, G2.out]; exact RJudge_any k t qb i cb L W h (by omega) (by omega) (by omega) HA.out
      clear HA G1 G2 BA2
      go_wp2_with fail
      refine Calls.mono (HRJ.out _ RB7.out) ?_
      rintro e w6 ⟨rfl, hb⟩
      have Bw6 : Hid (Below w.heap.size w w6) := bl hW.out hb hW.out.size
      have V8 := Lib.hid (V7.out.keep hb)
      have N8 := Lib.hid (N7.out.keep hb)
      have W8 := Lib.hid (W7.out.keep hb)
      have v0 : w6.cell? ⟨w4.heap.size, 0, none⟩ = some (.int .i64 r) := cell_of_row _ _ 0 _ _ _ V8.out
      have v1 : w6.cell? ⟨w4.heap.size, 1, none⟩ = some (.int .i64 cl) := cell_of_row _ _ 1 _ _ _ V8.out
      have n0 : w6.cell? ⟨w5.heap.size, 0, none⟩ = some (.slice qn nn dn) := cell_of_row _ _ 0 _ _ _ N8.out
      clear hb hW V7 N7 W7 RB7 HRJ
      by_cases hc : 0 ≤ cl
      · obtain rfl := G4.out hc
        clear G4 G5
        go_wp2_with fail
        refine Calls.mono (Len_any qn nn dn 0 _ W8.out) ?_
        rintro e w7 ⟨rfl, hb⟩
        have B9 : Hid (Below w.heap.size w w7) := bl Bw6.out hb Bw6.out.size
        rw [HB9]
        clear hb v0 v1 n0 W8 Bw6 V8 N8
        go_wp2
        go_ret
        exact ⟨rfl, B9.out⟩
      · have hc' : cl < 0 := by omega
        have HN := Lib.hid (G5.out hc')
        obtain ⟨d, hd⟩ : ∃ d, d = k - r := ⟨_, rfl⟩
        obtain ⟨P, hP⟩ : ∃ P, P = t * d := ⟨_, rfl⟩
        have hPb : P ≤ 20 * 20 := by rw [hP]; exact Nat.mul_le_mul ht (by omega)
        have A1 : Hid (IntKind.i64.wrap ((k : Int) - (r : Int)) = (d : Int)) := (Go.IntWalk.i64_in _ ⟨by have := HR.out; omega, by have := HR.out; omega⟩).trans (by have := HR.out; omega)
        have A2 : Hid (IntKind.i64.wrap ((t : Int) * (d : Int)) = (P : Int)) := by
          show _ = _
          rw [hP, ← Int.natCast_mul]; exact Go.IntWalk.i64_in _ (by rw [← hP]; omega)
        have HNP : Hid (N = 256 ^ P) := by show _ = _; rw [hP, hd]; exact HN.out
        clear G4 G5 hc HN hd hP
        have a1 := A1.out; have a2 := A2.out
        have EP : Hid (((P : Nat) : Int) + 1 = ((P + 1 : Nat) : Int)) := by show _ = _; omega
        have HM1 : Hid (P + 1 ≤ maxLen) := by show P + 1 ≤ maxLen; unfold maxLen; omega
        have HM2 : Hid (1 * (P + 1) ≤ 281474976710656) := by show 1 * (P + 1) ≤ _; omega
        go_wp2_with (at_make; refine wpList_make_full _ rfl _ _ 24 rfl w6.heap.size 5 i0 (.int .u8 0) 1 Tryd.underlying24 hi0 hz0 hz1 .i64 .i64 _ _ (P + 1) rfl rfl EP.out EP.out (by rw [hz2]; exact HM2.out) HM1.out (Nat.le_refl _) ?_)
        intro w7 ho hg
        have HV : Hid (w7.heap[w6.heap.size]? = some (.cells (List.replicate (P + 1) (B8 0)).toArray 5 (0, 0))) := by
          have e : (madeCells #[Value.int .u8 0] (P + 1)).toList = List.replicate (P + 1) (B8 0) := toList_madeCells_one _ _
          have ho' := ho
          have ho2 : w7.ownsRow w6.heap.size 5 1 (.slice (some ⟨w6.heap.size, 0, none⟩) (P + 1) (P + 1)) (P + 1) (List.replicate (P + 1) (B8 0)) := by rw [← e]; exact ho'
          exact heap_of_owns ho2
        have hb : Below w6.heap.size w6 w7 := (Below.refl _ _).grown hg (Nat.le_refl _) (by simp)
        have B9 : Hid (Below w.heap.size w w7) := bl Bw6.out hb Bw6.out.size
        have N9 := Lib.hid (N8.out.keep hb)
        have W9 := Lib.hid (W8.out.keep hb)
        have c0 : w7.cell? ⟨w6.heap.size, P, none⟩ = some (.int .u8 0) := by
          rw [cell_of_row _ _ P _ _ _ HV.out]; simp
        have z0 : w7.frozen? ⟨w6.heap.size, P, none⟩ = false := frozen_of_row _ _ P _ _ HV.out
        have hne : w5.heap.size ≠ w6.heap.size := fun e => by have := blk_lt N8.out; omega
        have HNE := Lib.hid hne
        have HWS : Hid (w.heap.size ≤ w6.heap.size) := Bw6.out.size
        clear ho hg hb N8 W8 V8 v0 v1 n0 a1 a2 A1 A2 Bw6 hne
        have n0 : (w7.setCell ⟨w6.heap.size, P, none⟩ (.int .u8 1)).cell? ⟨w5.heap.size, 0, none⟩ = some (.slice qn nn dn) := cell_of_row _ _ 0 _ _ _ (hsc N9.out HNE.out)
        have n1 : w7.cell? ⟨w5.heap.size, 0, none⟩ = some (.slice qn nn dn) := cell_of_row _ _ 0 _ _ _ N9.out
        have hne := HNE.out
        have SX : Hid (Sl B8 (w7.setCell ⟨w6.heap.size, P, none⟩ (.int .u8 1)) (some ⟨w6.heap.size, 0, none⟩) (P + 1) (P + 1) (List.replicate P 0 ++ [1])) := by
          refine sl_block _ _ (hss HV.out) ?_ (by simp) HM1.out
          rw [List.setIfInBounds_toArray, List.replicate_succ']
          rw [List.set_append_right _ _ (by simp)]
          simp [B8]
        have WX : Hid (Ws 34 (w7.setCell ⟨w6.heap.size, P, none⟩ (.int .u8 1)) qn nn dn N) := W9.out.set HV.out (by decide)
        have BX : Hid (Below w.heap.size w (w7.setCell ⟨w6.heap.size, P, none⟩ (.int .u8 1))) := B9.out.setCell HWS.out _
        go_wp2_with fail
        refine Calls.mono (Is_any qn _ nn dn _ _ N _ _ WX.out SX.out (by omega) (HT.out.keep BX.out)) ?_
        rintro e w8 ⟨rfl, hb⟩
        have B10 : Hid (Below w.heap.size w w8) := bl BX.out hb BX.out.size
        rw [valB_pow, HNP.out]
        clear hb BX WX SX n0 n1 hne c0 z0 HNE HV W9 N9 B9
        go_wp2
        go_ret
        exact ⟨by simp, B10.out⟩
end Go.Proofs.YtbfmdfbnhakolaaDoor
namespace Go.Proofs.YtbfmdfbnhakolaaDoor
open Go.RowKit Go.By
theorem few8_parts {m : Nat} {L : List Rw} (h : few8 m L = true) : m ≤ 30 ∧ ∀ x, x ∈ L → x.1.length ≤ 20 ∧ x.2.length ≤ 20 := by
  unfold few8 at h
  rw [Bool.and_eq_true, List.all_eq_true] at h
  refine ⟨of_decide_eq_true h.2, fun x hx => ?_⟩
  have := h.1 x hx
  rw [Bool.and_eq_true] at this
  exact ⟨of_decide_eq_true this.1, of_decide_eq_true this.2⟩
theorem kD_wide {k t : Nat} {L : List Rw} (h : ∀ x, x ∈ L → Fit k t x) : (kD L).length ≤ k := by
  rw [← vecs_rank]; exact rank_wide (vecs_len h)
theorem Ret0.ws {w w' : World} {code : Int} {e : Ending} (h : Ret0 w code e w') : ∃ q n d, e = .returned (.tuple #[.agg #[.slice q n d], .int .i64 code]) ∧ Ws 34 w' q n d 0 ∧ Below w.heap.size w w' :=
  ⟨none, 0, 0, h.1, Ws.zero _ _, h.2⟩
theorem SolveJudges_any (k t : Int) (p : Option Addr) (m c : Nat) (L : List Rw) (w : World) (_ : (Lit.int .i64 k).wf = true) (_ : (Lit.int .i64 t).wf = true) (h : RwS w p m c L) (hT : Tab w) :
    Calls Tryd.prog 5 #[.int .i64 k, .int .i64 t, .slice p m c] w fun e w' => e = .returned (.bool true) ∧ Below w.heap.size w w' := by
  by_cases h0 : few8 m L = false ∨ 20 < k ∧ k ≤ 4096 ∨ 20 < t ∧ t ≤ 65535
  · exact SolveJudges_few k t p m c L w h hT h0
  have hf : few8 m L = true := by
    cases hx : few8 m L with
    | true => rfl
    | false => exact absurd (.inl hx) h0
  obtain ⟨hm, hl⟩ := few8_parts hf
  have hL : ∀ x, x ∈ L → Room x.1.length ∧ Room x.2.length := fun x hx => by have := hl x hx; unfold Room; omega
  by_cases hbad : k < 1 ∨ 4096 < k ∨ t < 0 ∨ 65535 < t
  · exact SolveJudges_bad k t p m c L w h hT hf (by omega) hL (by omega) (by omega) hbad
  obtain ⟨a, rfl⟩ := Int.eq_ofNat_of_zero_le (show 0 ≤ k by omega)
  obtain ⟨b, rfl⟩ := Int.eq_ofNat_of_zero_le (show 0 ≤ t by omega)
  by_cases hfit : ∀ x, x ∈ L → Fit a b x
  · have hr := kD_wide hfit
    have hcr := (clashI_range L m).1
    have hJ : ∀ W p' c', RwS W p' m c' L → Calls Tryd.prog 20 #[.int .i64 a, .int .i64 b, .slice p' m c'] W (RetVd W (kD L).length (clashI L m) 0) := fun W p' c' hW => Judge_fit a b p' m c' L W hW (by omega) (by omega) (by omega) (by omega) hfit
    by_cases hc : 0 ≤ clashI L m
    · refine SolveJudges_core a b p m c L (kD L).length (clashI L m) 0 0 w h hT hf hm hL (by omega) (by omega) (by omega) hr hcr hJ (fun W p' c' hW => ?_) (fun i x hx hnf => absurd (hfit x (List.mem_of_getElem? hx)) hnf) (fun _ => ⟨rfl, rfl, rfl, fun _ => rfl, fun hn => by omega⟩)
      exact Count_clash a b p' m c' (kD L).length (clashI L m) W hc (fun W2 hb => hJ W2 p' c' (hW.keep hb))
    · have e : clashI L m = -1 := by omega
      refine SolveJudges_core a b p m c L (kD L).length (clashI L m) 0 (256 ^ (b * (a - (kD L).length))) w h hT hf hm hL (by omega) (by omega) (by omega) hr hcr hJ (fun W p' c' hW => ?_) (fun i x hx hnf => absurd (hfit x (List.mem_of_getElem? hx)) hnf) (fun _ => ⟨rfl, rfl, rfl, fun hn => by omega, fun _ => rfl⟩)
      refine Count_ok a b p' m c' (kD L).length W (by omega) (by omega) hr (fun W2 hb => ?_)
      have := hJ W2 p' c' (hW.keep hb)
      rwa [e] at this
  · have hJ : ∀ W p' c', RwS W p' m c' L → Calls Tryd.prog 20 #[.int .i64 a, .int .i64 b, .slice p' m c'] W (RetVd W 0 0 4) := fun W p' c' hW => Judge_size a b p' m c' L W hW (by omega) (by omega) (by omega) (by omega) hfit
    refine SolveJudges_core a b p m c L 0 0 4 0 w h hT hf hm hL (by omega) (by omega) (by omega) (Nat.zero_le _) (by omega) hJ (fun W p' c' hW => ?_) (fun i x hx hnf => ⟨rfl, rfl, rfl, rfl⟩) (fun hh => absurd hh hfit)
    exact (Count_err a b p' m c' 4 W (by decide) (fun W2 hb => hJ W2 p' c' (hW.keep hb))).mono fun e w' hr => Ret0.ws hr
end Go.Proofs.YtbfmdfbnhakolaaDoor
namespace Go.By
open Go.RowKit
theorem byte_of_wf {a : Int} (h : (Lit.int .u8 a).wf = true) : ∃ x : UInt8, Value.int .u8 a = B8 x ∧ a = (x.toNat : Int) := by
  have hb := bounds_u8 h
  have e : a = ((UInt8.ofNat a.toNat).toNat : Int) := by simp; omega
  exact ⟨UInt8.ofNat a.toNat, B8_congr e, e⟩
theorem sl_of_row {w : World} {a : Option Addr} {len cap : Nat} {zs : List Int}
    (h : (a = none ∧ len = 0 ∧ cap = 0 ∧ zs = []) ∨ ∃ x, a = some x ∧ len ≤ cap ∧ cap ≤ maxLen ∧ zs.length = cap ∧ (∀ i, i < zs.length → w.cell? (x.add i) = some (.int .u8 (zs.getD i 0))) ∧ ∀ n ∈ zs, (Lit.int .u8 n).wf = true) :
    ∃ xs, Sl B8 w a len cap xs := by
  rcases h with ⟨rfl, rfl, rfl, _⟩ | ⟨x, rfl, hl, hm, hz, hc, hw⟩
  · exact ⟨[], Sl.nil0 _ _⟩
  · refine ⟨(zs.take len).map fun z => UInt8.ofNat z.toNat, ⟨by simp; omega, hl, hm, fun h => by simp at h, ?_⟩⟩
    intro i hi
    have hi' : i < zs.length := by simp at hi; omega
    obtain ⟨b, o, hx, hc'⟩ := ints_at hc (by omega)
    refine ⟨b, o, by rw [hx], ?_⟩
    have hh := hc i hi'
    rw [hx, Addr.add_lit] at hh
    rw [hh]
    have e : zs.getD i 0 = zs[i] := by simp [hi']
    rw [e]
    have hb := bounds_u8 (hw _ (List.getElem_mem hi'))
    simp
    omega
end Go.By
namespace Go.By
open Go.RowKit
theorem spot_none {w : World} {x : Addr} {v : Value} (h : w.cell? (x.add 0) = some v) : ∃ b o, x = ⟨b, o, none⟩ := by
  obtain ⟨b, off, spot⟩ := x
  have hspot : spot = none := by simpa [Addr.add] using World.cell?_spot h
  subst hspot
  exact ⟨b, off, rfl⟩
theorem sl2_of_rows {w : World} {a : Option Addr} {len cap : Nat} (hl : len ≤ cap) (hm : cap ≤ maxLen) (hn : a = none → len = 0 ∧ cap = 0) (A : Nat → Option Addr) (L C : Nat → Nat) (Z : Nat → List Int)
    (h : ∀ x, a = some x → ∀ r, r < cap → w.cell? (x.add r) = some (.slice (A r) (L r) (C r)) ∧ L r ≤ C r ∧ C r ≤ maxLen ∧ (Z r).length = C r ∧ (∀ n ∈ Z r, (Lit.int .u8 n).wf = true) ∧ (A r = none → C r = 0) ∧
        ∀ a', A r = some a' → ∀ c, c < C r → w.cell? (a'.add c) = some (.int .u8 ((Z r).getD c 0))) : ∃ xss, Sl2 w a len cap xss := by
  have each : ∀ r, ∃ xs, r < len → Sl B8 w (A r) (L r) (C r) xs := by
    intro r
    by_cases hr : r < len
    · cases ha : a with
      | none => have := hn ha; omega
      | some x =>
        obtain ⟨_, h1, h2, h3, h4, h5, h6⟩ := h x ha r (by omega)
        cases hA : A r with
        | none =>
          have := h5 hA
          have hL : L r = 0 := by omega
          exact ⟨[], fun _ => by rw [hL, this]; exact Sl.nil0 _ _⟩
        | some a' =>
          obtain ⟨xs, hx⟩ := sl_of_row (w := w) (a := some a') (len := L r) (cap := C r) (zs := Z r) (.inr ⟨a', rfl, h1, h2, h3, fun i hi => h6 a' hA i (by omega), h4⟩)
          exact ⟨xs, fun _ => hx⟩
    · exact ⟨[], fun h => absurd h hr⟩
  refine ⟨(List.range len).map fun r => Classical.choose (each r), ⟨by simp, hl, hm, hn, ?_⟩⟩
  intro i xs hi
  obtain ⟨hi', e⟩ := List.getElem?_eq_some_iff.1 hi
  simp at hi' e
  have hs := Classical.choose_spec (each i) hi'
  rw [e] at hs
  cases ha : a with
  | none => have := hn ha; omega
  | some x =>
    obtain ⟨hc, _⟩ := h x ha i (by omega)
    obtain ⟨b, o, rfl⟩ := spot_none (h x ha 0 (by omega)).1
    rw [Addr.add_lit] at hc
    exact ⟨b, o, A i, C i, rfl, by rw [hs.len]; exact hc, by rw [hs.len]; exact hs⟩
end Go.By
namespace Go.Proofs.YtbfmdfbnhakolaaDoor
open Go.RowKit Go.By
theorem tab_of {d32 : DataW Unit} {rest : List (String × DataW Unit)} {W : World} (h : laidMet Tryd.prog (("math/bits.deBruijn32tab", d32) :: ("math/bits.deBruijn64tab", Rows.laid_math_bits_deBruijn64tab) :: rest) W) : Tab W := by
  obtain ⟨zs, hz⟩ : ∃ zs : List Int, (Rows.laid_math_bits_deBruijn64tab : DataW Unit) = Lib.tabData .u8 zs ∧ zs.length = 64 ∧ zs.getD 15 0 = 4 := ⟨[0, 1, 56, 2, 57, 49, 28, 3, 61, 58, 42, 50, 38, 29, 17, 4, 62, 47, 59, 36, 45, 43, 51, 22, 53, 39, 33, 30, 24, 18, 12, 5, 63, 55, 48, 27, 60, 41, 37, 16, 46, 35, 44, 21, 52, 32, 23, 11, 54, 26, 40, 15, 34, 20, 31, 10, 25, 14, 19, 9, 13, 8, 7, 6], rfl, rfl, rfl⟩
  have h2 := laidMet.tail h
  rw [hz.1] at h2
  have h3 := Lib.tabIs_of_head (g := 3) (t := 168) (e := 5) (n := 64) (by kernel_rfl) (by kernel_rfl) (by kernel_rfl) (by kernel_rfl) (by kernel_rfl) (by kernel_rfl) h2
  have := h3.cell (g := 3) (by kernel_rfl) 15 (by omega)
  rw [hz.2.2] at this
  exact this
end Go.Proofs.YtbfmdfbnhakolaaDoor
namespace Go.Proofs.YtbfmdfbnhakolaaDoor
open Go.RowKit Go.By Go.ChangeShapes Go.WideShapes Go.Deep
section
variable {H : Type} {enc : TypeId × Value → H} {P : Program} {w : World} {base : Nat} {held : Bool}
theorem trod_struct2 {t : TypeId} {f0 f1 : Field} {fuel : Nat} {cs : List Value} {x : DataW H × List MemPlace} {spare : Nat → Bool} (ht : P.underlying t = some (.struct #[f0, f1])) (h : DataW.trod enc P w base spare held fuel t cs = some x) :
    ∃ y0 y1 n, cs.length = P.cellsOf t ∧ DataW.trod enc P w base spare held n f0.type ((cs.drop f0.offset).take (P.cellsOf f0.type)) = some y0 ∧
      DataW.trod enc P w base spare held n f1.type ((cs.drop f1.offset).take (P.cellsOf f1.type)) = some y1 := by
  obtain ⟨xs, n, _, rfl, hl, hlen, hf⟩ := DataW.trod_struct ht h
  match xs, hlen with
  | [y0, y1], _ => exact ⟨y0, y1, n, hl, by simpa using hf 0 f0 rfl, by simpa using hf 1 f1 rfl⟩
theorem list2 {α : Type} {cs : List α} (h : cs.length = 2) : ∃ c0 c1, cs = [c0, c1] := by
  match cs, h with
  | [c0, c1], _ => exact ⟨c0, c1, rfl⟩
theorem open_bytes1 {t q : TypeId} {fuel : Nat} {c4 : Value} {x : DataW H × List MemPlace} (h4 : P.underlying t = some (.slice q)) (hq : P.underlying q = some (.int .u8)) (cq : P.cellsOf q = 1) (g4 : DataW.trod enc P w base (fun _ => true) held fuel t [c4] = some x) : ∃ p m c bs, c4 = .slice p m c ∧ Sl B8 w p m c bs := by
  rcases open_ints h4 hq cq g4 with ⟨hcs, _⟩ | ⟨x, l, c, zs, hcs, _, hl, hm, hz, _, hcell, hwz⟩
  · simp at hcs
    exact ⟨none, 0, 0, [], hcs, Sl.nil0 _ _⟩
  · simp at hcs
    obtain ⟨xs, hx⟩ := sl_of_row (.inr ⟨_, rfl, hl, hm, by simpa using hz, hcell, hwz⟩)
    exact ⟨_, _, _, xs, hcs, hx⟩
/-- one, cell by cell -/
theorem open_one {t q : TypeId} {f0 f1 : Field} {fuel : Nat} {cs : List Value} {x : DataW H × List MemPlace} (ht : P.underlying t = some (.struct #[f0, f1])) (hone : oneCellFields P #[f0, f1] = true) (hC : P.cellsOf t = 2)
    (h0 : P.underlying f0.type = some (.slice q)) (h1 : P.underlying f1.type = some (.slice q)) (hq : P.underlying q = some (.int .u8)) (cq : P.cellsOf q = 1)
    (h : DataW.trod enc P w base (fun _ => true) held fuel t cs = some x) :
    ∃ (r : List UInt8 × List UInt8) (p1 : Option Addr) (m1 c1 : Nat) (p2 : Option Addr) (m2 c2 : Nat), cs = [.slice p1 m1 c1, .slice p2 m2 c2] ∧ Sl B8 w p1 m1 c1 r.1 ∧ Sl B8 w p2 m2 c2 r.2 := by
  obtain ⟨y0, y1, n, hl, g0, g1⟩ := trod_struct2 ht h
  obtain ⟨c0, c1, rfl⟩ := list2 (hl.trans hC)
  obtain ⟨o0, k0⟩ := hone_of hone 0 f0 rfl
  obtain ⟨o1, k1⟩ := hone_of hone 1 f1 rfl
  rw [o0, k0] at g0; rw [o1, k1] at g1
  obtain ⟨p1, m1, d1, b1, rfl, s1⟩ := open_bytes1 h0 hq cq g0
  obtain ⟨p2, m2, d2, b2, rfl, s2⟩ := open_bytes1 h1 hq cq g1
  exact ⟨(b1, b2), p1, m1, d1, p2, m2, d2, rfl, s1, s2⟩
theorem open_ones {t e q : TypeId} {f0 f1 : Field} {fuel : Nat} {cs : List Value} {x : DataW H × List MemPlace} (ht : P.underlying t = some (.slice e)) (he : P.underlying e = some (.struct #[f0, f1])) (hone : oneCellFields P #[f0, f1] = true) (hC : P.cellsOf e = 2)
    (h0 : P.underlying f0.type = some (.slice q)) (h1 : P.underlying f1.type = some (.slice q)) (hq : P.underlying q = some (.int .u8)) (cq : P.cellsOf q = 1)
    (h : DataW.trod enc P w base (fun _ => true) held fuel t cs = some x) : ∃ p n c K, cs = [.slice p n c] ∧ RwS w p n c K := by
  rcases open_slice ht h with ⟨hcs, _⟩ | ⟨a, len, cap, m, n, D, Pl, rfl, hb, hl, hm, hmm, rfl, hx⟩
  · exact ⟨none, 0, 0, [], hcs, RwS.nil0 _⟩
  simp only [if_true] at hmm
  have hmm' := hmm.symm
  subst hmm'
  have hsp : 0 < len → a.spot = none := fun h => by
    obtain ⟨cs', hc, htr⟩ := hx 0 (by omega)
    obtain ⟨y, p, m', c', p2, m2, c2, rfl, -⟩ := open_one he hone hC h0 h1 hq cq htr
    obtain ⟨_, _, hcell⟩ := World.cells?_some hc
    have z0 := hcell 0 (by omega)
    simpa [Addr.add] using World.cell?_spot (z0.trans rfl)
  have each : ∀ k, k < len → ∃ y : List UInt8 × List UInt8, ∃ b o q1 m1 c1 q2 m2 c2, a = ⟨b, o, none⟩ ∧ w.cell? ⟨b, o + k * 2, none⟩ = some (.slice q1 m1 c1) ∧ w.cell? ⟨b, o + k * 2 + 1, none⟩ = some (.slice q2 m2 c2) ∧ Sl B8 w q1 m1 c1 y.1 ∧ Sl B8 w q2 m2 c2 y.2 := by
    intro k hk
    obtain ⟨cs', hc, htr⟩ := hx k (by omega)
    obtain ⟨y, p, m', c', p2, m2, c2, rfl, s1, s2⟩ := open_one he hone hC h0 h1 hq cq htr
    obtain ⟨_, _, hcell⟩ := World.cells?_some hc
    rw [hC] at hcell
    obtain ⟨b, o, spot⟩ := a
    have z0 := hcell 0 (by omega)
    have hspot : spot = none := hsp (by omega)
    subst hspot
    have z1 := hcell 1 (by omega)
    simp only [add_plain] at z0 z1
    exact ⟨y, b, o, p, m', c', p2, m2, c2, rfl, z0, z1, s1, s2⟩
  obtain ⟨f, hf⟩ : ∃ f : Nat → List UInt8 × List UInt8, ∀ k, k < len → ∃ b o q1 m1 c1 q2 m2 c2, a = ⟨b, o, none⟩ ∧ w.cell? ⟨b, o + k * 2, none⟩ = some (.slice q1 m1 c1) ∧ w.cell? ⟨b, o + k * 2 + 1, none⟩ = some (.slice q2 m2 c2) ∧ Sl B8 w q1 m1 c1 (f k).1 ∧ Sl B8 w q2 m2 c2 (f k).2 :=
    ⟨fun k => if hk : k < len then Classical.choose (each k hk) else ([], []), fun k hk => by simp only [dif_pos hk]; exact Classical.choose_spec (each k hk)⟩
  refine ⟨some a, len, cap, (List.range len).map f, rfl, ⟨by simp, hl, hm, fun h => (by cases h), fun k y hk => ?_⟩⟩
  rw [List.getElem?_map] at hk
  cases hr : (List.range len)[k]? with
  | none => rw [hr] at hk; simp at hk
  | some k' =>
    rw [hr] at hk
    obtain ⟨hk1, hk2⟩ := List.getElem?_eq_some_iff.1 hr
    simp at hk1 hk2 hk
    subst hk2; subst hk
    obtain ⟨b, o, q1, m1, c1, q2, m2, c2, e, r⟩ := hf k hk1
    exact ⟨b, o, q1, m1, c1, q2, m2, c2, by rw [e], r⟩
end
end Go.Proofs.YtbfmdfbnhakolaaDoor
