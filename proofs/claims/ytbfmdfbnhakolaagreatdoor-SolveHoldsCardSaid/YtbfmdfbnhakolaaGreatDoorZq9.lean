/- The law's Rows: what its region leaves. The law's Rows. Whether chapter 9 is awake. SolveJudges: the walk. SolveJudges: sizes out of range. SolveJudges: sizes within bounds. SolveJudges: whole. Whether symbols hold for equations: Holds. Equations that symbols solve: there is a solution; how many: plain laws. What is left of a vector behind rows that were kept. An append leaves what it appends to as it was. Whether a vector is a combination of rows: Span. The reference's Holds. The law SolveHolds. Arguments that came in, as bytes and slices of bytes. Arguments that came in: slices of byte slices. The table that the library's TrailingZeros reads, out of the row's condition. Slices of structs of two slices of bytes, that came in. -/
import Derived.Test.YtbfmdfbnhakolaaGreatDoorZq8
import Derived.WalkKit
import Derived.Laws.AppendOwn
import Derived.OpenShut
import Derived.Deep.Matrix
import Derived.Test.YtbfmdfbnhakolaaGreatDoorRows
import Derived.Lib.LaidTab
import Derived.Stop.LaidErr
import Derived.Lib.SmallJoins
namespace Go.Proofs.YtbfmdfbnhakolaaGreatDoor
open Go.RowKit Go.By
/-- what an operation of the region leaves -/
def RJ (vA vB : Value) (i : Nat) (w w' : World) : Prop := (i = 4 ∧ App 46 vA w w') ∨ (i = 9 ∧ App 50 vB w w') ∨ (i ≠ 4 ∧ i ≠ 9 ∧ Below w.heap.size w w')
/-- what holds of the world -/
structure EJ (wz : World) (H b7 : Nat) (x7 y7 : Value) (vA vB : Value) (n : Nat) (K : List Rw) (dn : Nat → Bool) (w : World) : Prop where
  bel : Below wz.heap.size wz w
  hH : H ≤ w.heap.size
  box : w.heap[b7]? = some (.cells #[x7, y7] 32 (0, 0))
  a : dn 4 = false → RwL 46 5 w wz.heap.size vA n K
  b : dn 9 = false → OwnP 50 wz w wz.heap.size vB n K
def shJ (wz : World) (H : Nat) (x7 y7 : Value) (vA vB : Value) (n : Nat) (K : List Rw) (k : Rw) (j : Nat) (v : Value) (w : World) : Prop := match j with
  | 0 => v = vA
  | 1 => v = .agg #[x7, y7]
  | 2 => ∃ u1 u2, v = .agg #[u1, u2] ∧ Bw 5 w wz.heap.size u1 k.1 ∧ Bw 5 w wz.heap.size u2 k.2
  | 3 => ∃ g u1 u2, v = .slice (some ⟨g, 0, none⟩) 1 1 ∧ H ≤ g ∧ w.heap[g]? = some (.cells #[u1, u2] 46 (0, 0)) ∧ Bw 5 w wz.heap.size u1 k.1 ∧ Bw 5 w wz.heap.size u2 k.2
  | 4 => RwL 46 5 w wz.heap.size v (n + 1) (K ++ [k])
  | 5 => v = vB
  | 6 => v = .agg #[x7, y7]
  | 7 => v = .agg #[x7, y7]
  | 8 => ∃ g, v = .slice (some ⟨g, 0, none⟩) 1 1 ∧ H ≤ g ∧ w.heap[g]? = some (.cells #[x7, y7] 50 (0, 0))
  | 9 => OwnP 50 wz w wz.heap.size v (n + 1) (K ++ [k])
  | 10 => RwL 46 5 w wz.heap.size v (n + 1) (K ++ [k])
  | 11 => OwnP 50 wz w wz.heap.size v (n + 1) (K ++ [k])
  | _ => True
section
variable {wz w w' : World} {H b7 : Nat} {x7 y7 : Value} {vA vB : Value} {n : Nat} {K : List Rw} {k : Rw}
theorem RJ.bw {i base : Nat} {u : Value} {xs : List UInt8} (h : RJ vA vB i w w') (hb : Bw 5 w base u xs) : Bw 5 w' base u xs := by
  rcases h with ⟨_, h⟩ | ⟨_, h⟩ | ⟨_, _, h⟩
  · exact h.bw hb (by decide)
  · exact h.bw hb (by decide)
  · exact hb.keep h
theorem RJ.a {i base m : Nat} {u : Value} {L : List Rw} (h : RJ vA vB i w w') (hi : i ≠ 4) (hr : RwL 46 5 w base u m L) : RwL 46 5 w' base u m L := by
  rcases h with ⟨e, _⟩ | ⟨_, h⟩ | ⟨_, _, h⟩
  · exact absurd e hi
  · exact h.rwL hr (by decide) (by decide)
  · exact hr.keep h
theorem RJ.b {i base m : Nat} {u : Value} {L : List Rw} (h : RJ vA vB i w w') (hi : i ≠ 9) (hr : OwnP 50 wz w base u m L) : OwnP 50 wz w' base u m L := by
  rcases h with ⟨_, h⟩ | ⟨e, _⟩ | ⟨_, _, h⟩
  · exact h.ownP hr (by decide)
  · exact absurd e hi
  · exact hr.keep h
theorem RJ.new {i g : Nat} {o : Obj} (h : RJ vA vB i w w') (hA : ∀ b, vA.ownBlock = some b → b < H) (hB : ∀ b, vB.ownBlock = some b → b < H) (hg : H ≤ g) (ho : w.heap[g]? = some o) : w'.heap[g]? = some o := by
  have hl := blk_lt ho
  rcases h with ⟨_, h⟩ | ⟨_, h⟩ | ⟨_, _, h⟩
  · exact (h.block hl (fun e => by have := hA g e; omega)).trans ho
  · exact (h.block hl (fun e => by have := hB g e; omega)).trans ho
  · exact (h.block g hl).trans ho
theorem RJ.ej {i : Nat} {dn : Nat → Bool} (hE : EJ wz H b7 x7 y7 vA vB n K dn w) (h : RJ vA vB i w w') (hA : ∀ b, vA.ownBlock = some b → wz.heap.size ≤ b) (hB : ∀ b, vB.ownBlock = some b → wz.heap.size ≤ b) : EJ wz H b7 x7 y7 vA vB n K (fun j => if i = j then true else dn j) w' := by
  have hs := hE.bel.size
  refine ⟨?_, ?_, ?_, fun e => ?_, fun e => ?_⟩
  · rcases h with ⟨_, h⟩ | ⟨_, h⟩ | ⟨_, _, h⟩
    · exact hE.bel.grown h.1 hs (fun b hb => hA b hb)
    · exact hE.bel.grown h.1 hs (fun b hb => hB b hb)
    · exact bl hE.bel h hs
  · rcases h with ⟨_, h⟩ | ⟨_, h⟩ | ⟨_, _, h⟩
    · exact Nat.le_trans hE.hH h.1.size
    · exact Nat.le_trans hE.hH h.1.size
    · exact Nat.le_trans hE.hH h.size
  · rcases h with ⟨_, h⟩ | ⟨_, h⟩ | ⟨_, _, h⟩
    · exact h.blockT hE.box (by decide)
    · exact h.blockT hE.box (by decide)
    · exact (h.block _ (blk_lt hE.box)).trans hE.box
  · by_cases hi : i = 4
    · subst hi; simp at e
    · simp only [if_neg hi] at e
      exact h.a hi (hE.a e)
  · by_cases hi : i = 9
    · subst hi; simp at e
    · simp only [if_neg hi] at e
      exact h.b hi (hE.b e)
end
end Go.Proofs.YtbfmdfbnhakolaaGreatDoor
namespace Go.Proofs.YtbfmdfbnhakolaaGreatDoor
open Go.RowKit Go.By
set_option maxRecDepth 100000 in
set_option maxHeartbeats 4000000 in
theorem Rows9_any (p : Option Addr) (m c : Nat) (L : List Rw) (w : World) (h : RwS w p m c L) (hm : m ≤ 65536) (hL : ∀ x, x ∈ L → Room x.1.length ∧ Room x.2.length) :
    Calls Tryz.prog 6 #[.slice p m c] w fun e w' => ∃ q1 c1 q2 c2, e = .returned (.tuple #[.slice q1 m c1, .slice q2 m c2]) ∧ RwS w' q1 m c1 L ∧ RwS w' q2 m c2 L ∧ Below w.heap.size w w' := by
  obtain ⟨i0, hi0, hz0, hz1, hz2⟩ := info_parts info_vrow
  obtain ⟨r0, hr0, hrz, hr1, hr2⟩ := info_parts info_rrow
  have H := Lib.hid h; have HLEN := Lib.hid h.len; have HL := Lib.hid hL
  clear h hL
  go_enter Tryz.func6, Tryz.ntmps6
  go_wp2
  go_loopw [4, 5, 10] (fun va vb iv wr => ∃ (k : Nat) (qa : Option Addr) (ca : Nat) (qb : Option Addr) (cb : Nat), k ≤ m ∧ iv = .int .i64 k ∧ va = .slice qa k ca ∧ vb = .slice qb k cb ∧ Hid (RwL 46 5 wr w.heap.size (.slice qa k ca) k (L.take k)) ∧ Hid (OwnP 50 w wr w.heap.size (.slice qb k cb) k (L.take k)) ∧ Hid (Below w.heap.size w wr)) (fun _ _ iv _ => m - (intOf iv).toNat)
  case atStart => exact ⟨0, none, 0, none, 0, Nat.zero_le _, rfl, rfl, rfl, by show RwL _ _ _ _ _ _ (L.take 0); rw [List.take_zero]; exact RwL.nil _ _ _ _, by show OwnP _ _ _ _ _ _ (L.take 0); rw [List.take_zero]; exact OwnP.nil _ _ _ _, Below.refl _ _⟩
  case round =>
    obtain ⟨k, qa, ca, qb, cb, hk, rfl, rfl, rfl, hA, hP, hB⟩ := hrel
    by_cases hlt : k < m
    · have kn : (k : Int) < (m : Int) := by omega
      obtain ⟨x, hx⟩ : ∃ x, L[k]? = some x := ⟨_, List.getElem?_eq_getElem (by rw [HLEN.out]; exact hlt)⟩
      obtain ⟨b, o, q1, m1, c1, q2, m2, c2, rfl, d1, d2, s1, s2⟩ := H.out.row k x hx
      have hroom := HL.out x (List.mem_of_getElem? hx)
      have R1 : Hid (Room m1) := by rw [← s1.len]; exact hroom.1
      have R2 : Hid (Room m2) := by rw [← s2.len]; exact hroom.2
      have D1 := (hB.out.cell (p := ⟨b, o + k * 2, none⟩) (lt_of_cell d1)).trans d1
      have D2 := (hB.out.cell (p := ⟨b, o + k * 2 + 1, none⟩) (lt_of_cell d2)).trans d2
      have S1 := Lib.hid s1; have S2 := Lib.hid s2
      have htk : Hid (L.take (k + 1) = L.take k ++ [x]) := by show _ = _; rw [List.take_add_one, hx]; rfl
      obtain ⟨K, hK⟩ : ∃ K, K = L.take k := ⟨_, rfl⟩
      rw [← hK] at hA hP htk
      have hsz := hB.out.size
      obtain ⟨W, hW⟩ : ∃ W, W = wr.alloc (.cells #[.slice q1 m1 c1, .slice q2 m2 c2] 32) := ⟨_, rfl⟩
      have hW1 : Below wr.heap.size wr W := by rw [hW]; exact al (Below.refl _ _) (Nat.le_refl _)
      have hWd : Below wr.heap.size wr W.drew := ⟨hW1.os, hW1.tape, hW1.output, hW1.size, hW1.block⟩
      have EW : Hid (EJ w W.heap.size wr.heap.size (.slice q1 m1 c1) (.slice q2 m2 c2) (.slice qa k ca) (.slice qb k cb) k K (fun _ => false) W.drew) :=
        ⟨(bl hB.out hWd hsz), Nat.le_refl _, by show W.heap[wr.heap.size]? = _; rw [hW]; exact hnew rfl, fun _ => (hA.out.keep hWd), fun _ => (hP.out.keep hWd)⟩
      have hA0 : Hid (∀ g, (Value.slice qa k ca).ownBlock = some g → w.heap.size ≤ g ∧ g < W.heap.size) := fun g hg => by
        have := hA.out.lt g hg; have := hW1.size; omega
      have hB0 : Hid (∀ g, (Value.slice qb k cb).ownBlock = some g → w.heap.size ≤ g ∧ g < W.heap.size) := fun g hg => by
        obtain ⟨vs, _, _, ho, _⟩ := hP.out
        have := ho.lt g hg; have := hW1.size; omega
      have HW := Lib.hid hW
      clear d1 d2 s1 s2 hx hroom hW1 hWd hK hW hA hP
      go_wp2
      rw [← HW.out]
      refine wp_region_dones (EJ w W.heap.size wr.heap.size (.slice q1 m1 c1) (.slice q2 m2 c2) (.slice qa k ca) (.slice qb k cb) k K) (RJ (.slice qa k ca) (.slice qb k cb)) (shJ w W.heap.size (.slice q1 m1 c1) (.slice q2 m2 c2) (.slice qa k ca) (.slice qb k cb) k K x) 27 rfl (by kernel_rfl) (by decide) (by decide) (by decide) EW.out (fun dn i w1 w2 _ hE hR => hR.ej hE (fun g hg => (hA0.out g hg).1) (fun g hg => (hB0.out g hg).1)) ?_ ⟨?_, ?_, ?_, ?_, ?_, ?_, ?_, ?_, ?_, ?_, ?_, ?_, trivial⟩ ?_
      · intro i j v w1 w2 hij hp hs hR
        match j, hij, hp, hs with
        | 0, _, _, hs => exact hs
        | 1, _, _, hs => exact hs
        | 2, _, _, hs => obtain ⟨u1, u2, e, g1, g2⟩ := hs; exact ⟨u1, u2, e, hR.bw g1, hR.bw g2⟩
        | 3, _, _, hs => obtain ⟨g, u1, u2, e, hg, hh, g1, g2⟩ := hs; exact ⟨g, u1, u2, e, hg, hR.new (fun b hb => (hA0.out b hb).2) (fun b hb => (hB0.out b hb).2) hg hh, hR.bw g1, hR.bw g2⟩
        | 4, hij, _, hs => exact RJ.a hR hij hs
        | 5, _, _, hs => exact hs
        | 6, _, _, hs => exact hs
        | 7, _, _, hs => exact hs
        | 8, _, _, hs => obtain ⟨g, e, hg, hh⟩ := hs; exact ⟨g, e, hg, hR.new (fun b hb => (hA0.out b hb).2) (fun b hb => (hB0.out b hb).2) hg hh⟩
        | 9, hij, _, hs => exact RJ.b hR hij hs
        | 10, _, hp, hs => exact RJ.a hR (fun e => by subst e; exact absurd hp (by decide)) hs
        | 11, _, hp, hs => exact RJ.b hR (fun e => by subst e; exact absurd hp (by decide)) hs
        | j + 12, _, _, _ => exact trivial
      · intro a W2 dn hdn hE hs hp hi
        exact ite_y rfl (wp_val (sl a 4) rfl ⟨_, rfl, .inr (.inr ⟨by decide, by decide, Below.refl _ _⟩), hi 4 (by decide)⟩)
      · intro a W2 dn hdn hE hs hp hi
        have tt : sl a 7 = .pointer (some ⟨wr.heap.size, 0, none⟩) := hi 7 (by decide)
        have e0 := cell_of_row _ _ 0 _ _ _ hE.box
        have e1 := cell_of_row _ _ 1 _ _ _ hE.box
        refine ite_y rfl (wp_val (.agg #[.slice q1 m1 c1, .slice q2 m2 c2]) ?_ ⟨_, rfl, .inr (.inr ⟨by decide, by decide, Below.refl _ _⟩), rfl⟩)
        simp only [execOp, eval_tmp, tt]; simp [go_sem, e0, e1]
      · intro a W2 dn hdn hE hs hp hi
        have tt : sl a 15 = .agg #[.slice q1 m1 c1, .slice q2 m2 c2] := hp 1 (by decide)
        refine ite_y rfl (wp_enter 14 #[.agg #[.slice q1 m1 c1, .slice q2 m2 c2]] ?_ (OMake_any q1 q2 m1 c1 m2 c2 x.1 x.2 W2 (S1.out.keep hE.bel) (S2.out.keep hE.bel) R1.out R2.out) ?_)
        · simp only [execOp, resolve, List.map_toArray, List.map, eval_tmp, eval_func, eval_const, tt]; simp [go_sem]
        · rintro e W3 ⟨p1, n1, d1, p2, n2, d2, g1, g2, rfl, o1, o2, hb⟩
          exact ⟨_, rfl, _, rfl, .inr (.inr ⟨by decide, by decide, hb⟩), _, _, rfl, ⟨_, _, _, rfl, g1.out, owns_mono o1 hE.bel.size⟩, ⟨_, _, _, rfl, g2.out, owns_mono o2 hE.bel.size⟩⟩
      · intro a W2 dn hdn hE hs hp hi
        have tt : ∃ u1 u2, sl a 16 = .agg #[u1, u2] ∧ Bw 5 W2 w.heap.size u1 x.1 ∧ Bw 5 W2 w.heap.size u2 x.2 := hp 2 (by decide)
        obtain ⟨u1, u2, tt, ⟨p1, n1, d1, rfl, l1, o1⟩, ⟨p2, n2, d2, rfl, l2, o2⟩⟩ := tt
        refine ite_y rfl (wp_val' (w' := W2.alloc (.cells #[.slice p1 n1 d1, .slice p2 n2 d2] 46)) (.slice (some ⟨W2.heap.size, 0, none⟩) 1 1) ?_ ⟨_, rfl, .inr (.inr ⟨by decide, by decide, al (Below.refl _ _) (Nat.le_refl _)⟩), W2.heap.size, _, _, rfl, hE.hH, hnew rfl, Bw.keep ⟨p1, n1, d1, rfl, l1, o1⟩ (al (Below.refl _ _) (Nat.le_refl _)), Bw.keep ⟨p2, n2, d2, rfl, l2, o2⟩ (al (Below.refl _ _) (Nat.le_refl _))⟩)
        simp only [execOp, List.map_toArray, List.map, eval_tmp, tt]; simp [go_sem, tt]
      · intro a W2 dn hdn hE hs hp hi
        have t14 : sl a 14 = .slice qa k ca := hp 0 (by decide)
        have tt : ∃ g u1 u2, sl a 17 = .slice (some ⟨g, 0, none⟩) 1 1 ∧ W.heap.size ≤ g ∧ W2.heap[g]? = some (.cells #[u1, u2] 46 (0, 0)) ∧ Bw 5 W2 w.heap.size u1 x.1 ∧ Bw 5 W2 w.heap.size u2 x.2 := hp 3 (by decide)
        obtain ⟨g, u1, u2, t17, _, hg, b1, b2⟩ := tt
        have c1' : u1.oneCell' = true := by obtain ⟨_, _, _, rfl, _⟩ := b1; rfl
        have c2' : u2.oneCell' = true := by obtain ⟨_, _, _, rfl, _⟩ := b2; rfl
        obtain ⟨vs, la, lb, ho, hr⟩ := hE.a hdn
        refine ite_y rfl (wp_append_row (.tmp 14) (.tmp 17) 27 rfl w.heap.size 46 i0 _ 48 Tryz.underlying27 hi0 hz0 hz1 hz2 rfl (.slice qa k ca) k vs t14 ho g 1 u1 u2 _ _ t17 hg c1' c2' (by unfold maxLen; omega) (by omega) hE.bel.size ?_)
        intro v' w' ho' hg'
        exact ⟨v', rfl, .inl ⟨rfl, hg', tyS_of ho⟩, RwL.push la lb ho hr (by decide) b1 b2 ho' hg'⟩
      · intro a W2 dn hdn hE hs hp hi
        exact ite_y rfl (wp_val (sl a 5) rfl ⟨_, rfl, .inr (.inr ⟨by decide, by decide, Below.refl _ _⟩), hi 5 (by decide)⟩)
      · intro a W2 dn hdn hE hs hp hi
        have tt : sl a 7 = .pointer (some ⟨wr.heap.size, 0, none⟩) := hi 7 (by decide)
        have e0 := cell_of_row _ _ 0 _ _ _ hE.box
        have e1 := cell_of_row _ _ 1 _ _ _ hE.box
        refine ite_y rfl (wp_val (.agg #[.slice q1 m1 c1, .slice q2 m2 c2]) ?_ ⟨_, rfl, .inr (.inr ⟨by decide, by decide, Below.refl _ _⟩), rfl⟩)
        simp only [execOp, eval_tmp, tt]; simp [go_sem, e0, e1]
      · intro a W2 dn hdn hE hs hp hi
        have tt : sl a 20 = .agg #[.slice q1 m1 c1, .slice q2 m2 c2] := hp 6 (by decide)
        refine ite_y rfl (wp_enter 15 #[.agg #[.slice q1 m1 c1, .slice q2 m2 c2]] ?_ (ORef_any q1 q2 m1 c1 m2 c2 W2) ?_)
        · simp only [execOp, resolve, List.map_toArray, List.map, eval_tmp, eval_func, eval_const, tt]; simp [go_sem]
        · rintro e W3 ⟨rfl, hb⟩
          exact ⟨_, rfl, _, rfl, .inr (.inr ⟨by decide, by decide, hb⟩), rfl⟩
      · intro a W2 dn hdn hE hs hp hi
        have tt : sl a 21 = .agg #[.slice q1 m1 c1, .slice q2 m2 c2] := hp 7 (by decide)
        refine ite_y rfl (wp_val' (w' := W2.alloc (.cells #[.slice q1 m1 c1, .slice q2 m2 c2] 50)) (.slice (some ⟨W2.heap.size, 0, none⟩) 1 1) ?_ ⟨_, rfl, .inr (.inr ⟨by decide, by decide, al (Below.refl _ _) (Nat.le_refl _)⟩), W2.heap.size, rfl, hE.hH, hnew rfl⟩)
        simp only [execOp, List.map_toArray, List.map, eval_tmp, tt]; simp [go_sem, tt]
      · intro a W2 dn hdn hE hs hp hi
        have t19 : sl a 19 = .slice qb k cb := hp 5 (by decide)
        have tt : ∃ g, sl a 22 = .slice (some ⟨g, 0, none⟩) 1 1 ∧ W.heap.size ≤ g ∧ W2.heap[g]? = some (.cells #[.slice q1 m1 c1, .slice q2 m2 c2] 50 (0, 0)) := hp 8 (by decide)
        obtain ⟨g, t22, _, hg⟩ := tt
        obtain ⟨vs, la, lb, ho, hr⟩ := hE.b hdn
        refine ite_y rfl (wp_append_row (.tmp 19) (.tmp 22) 28 rfl w.heap.size 50 r0 _ 48 Tryz.underlying28 hr0 hrz hr1 hr2 rfl (.slice qb k cb) k vs t19 ho g 1 _ _ _ _ t22 hg rfl rfl (by unfold maxLen; omega) (by omega) hE.bel.size ?_)
        intro v' w' ho' hg'
        exact ⟨v', rfl, .inr (.inl ⟨rfl, hg', tyS_of ho⟩), OwnP.push la lb hr ⟨_, _, _, _, _, _, rfl, S1.out, S2.out⟩ ho'⟩
      · intro a W2 dn hdn hE hs hp hi
        exact ite_y rfl (wp_val (sl a 18) rfl ⟨_, rfl, .inr (.inr ⟨by decide, by decide, Below.refl _ _⟩), hp 4 (by decide)⟩)
      · intro a W2 dn hdn hE hs hp hi
        exact ite_y rfl (wp_val (sl a 23) rfl ⟨_, rfl, .inr (.inr ⟨by decide, by decide, Below.refl _ _⟩), hp 9 (by decide)⟩)
      · intro a W2 dn hE hs hd hI ht
        have ha := act_is [14, 15, 16, 17, 18, 19, 20, 21, 22, 23, 4, 5] hs hd ht (by decide)
        have hA4 : RwL 46 5 W2 w.heap.size (sl a 4) (k + 1) (K ++ [x]) := hI 10 (by decide)
        have hB5 : OwnP 50 w W2 w.heap.size (sl a 5) (k + 1) (K ++ [x]) := hI 11 (by decide)
        obtain ⟨qa', ca', t4⟩ := hA4.shape
        obtain ⟨qb', cb', t5⟩ := hB5.shape
        rw [t4] at hA4; rw [t5] at hB5
        rw [← htk.out] at hA4 hB5
        have HA4 := Lib.hid hA4; have HB5 := Lib.hid hB5
        have HB2 := Lib.hid hE.bel
        simp only [List.foldl, t4, t5] at ha
        clear hA4 hB5 hI t4 t5 hE ht
        generalize sl a 14 = u14 at ha
        generalize sl a 15 = u15 at ha
        generalize sl a 16 = u16 at ha
        generalize sl a 17 = u17 at ha
        generalize sl a 18 = u18 at ha
        generalize sl a 19 = u19 at ha
        generalize sl a 20 = u20 at ha
        generalize sl a 21 = u21 at ha
        generalize sl a 22 = u22 at ha
        generalize sl a 23 = u23 at ha
        simp only [Act.put, List.setIfInBounds_toArray, List.set_cons_zero, List.set_cons_succ] at ha
        rw [ha]
        clear ha hs hd S1 S2 R1 R2 D1 D2 hA0 hB0 EW HW htk hsz hB
        go_wp2
        go_roundw
        case rel => exact ⟨k + 1, qa', ca', qb', cb', by omega, by go_num, rfl, rfl, HA4.out, HB5.out, HB2.out⟩
        case measure => simp [intOf]; omega
    · obtain rfl : k = m := by omega
      have e : L.take k = L := List.take_of_length_le (by rw [HLEN.out]; exact Nat.le_refl _)
      rw [e] at hA hP
      have F1 : Hid (RwS wr qa k ca L) := hA.out.rwS
      have F2 : Hid (RwS wr qb k cb L) := hP.out.rwS hB.out
      clear hA hP e
      go_wp2
      go_ret2
      exact ⟨qa, ca, qb, cb, rfl, F1.out, F2.out, hB.out⟩
end Go.Proofs.YtbfmdfbnhakolaaGreatDoor
namespace Go.By
open Go.RowKit
theorem rwS_one {W : World} {g T : Nat} {fr : Nat × Nat} {p1 p2 : Option Addr} {n1 n2 c1 c2 : Nat} {x : List UInt8 × List UInt8} (hW : W.heap[g]? = some (.cells #[.slice p1 n1 c1, .slice p2 n2 c2] T fr)) (h1 : Sl B8 W p1 n1 c1 x.1) (h2 : Sl B8 W p2 n2 c2 x.2) : RwS W (some ⟨g, 0, none⟩) 1 1 [x] := by
  refine ⟨rfl, Nat.le_refl _, by simp [maxLen], fun h => by simp at h, fun j k hj => ?_⟩
  match j, hj with
  | 0, hj =>
    have e : x = k := by simpa using hj
    subst e
    exact ⟨g, 0, p1, n1, c1, p2, n2, c2, rfl, cell_of_row _ _ 0 _ _ _ hW, cell_of_row _ _ 1 _ _ _ hW, h1, h2⟩
  | j + 1, hj => simp at hj
end Go.By
namespace Go.Proofs.YtbfmdfbnhakolaaGreatDoor
open Go.RowKit Go.By
theorem hex256 : hexText 256 = [49, 48, 48] := by
  rw [hexText_big (by decide), show 256 / 16 = 16 from rfl, hexText_big (by decide), show 16 / 16 = 1 from rfl, hexText_small (by decide)]; rfl
theorem kD_awake : (kD [(([1, 1] : List UInt8), ([3] : List UInt8))]).length = 1 ∧ clashI [(([1, 1] : List UInt8), ([3] : List UInt8))] 1 = -1 := by
  refine ⟨by decide +kernel, by decide +kernel⟩
set_option maxRecDepth 100000 in
set_option maxHeartbeats 1000000 in
theorem awake09 (w : World) (hT : Tab w) : Calls Tryz.prog 4 #[] w fun e w' => e = .returned (.bool true) ∧ Below w.heap.size w w' := by
  have HT := Lib.hid hT
  have HC : Hid (∀ (W : World) p, RwS W p 1 1 [(([1, 1] : List UInt8), ([3] : List UInt8))] → Calls Tryz.prog 11 #[.int .i64 2, .int .i64 1, .slice p 1 1] W (RetN 69 W 256)) := fun W p h => by
    have hj := fun (W2 : World) (hb : Below W.heap.size W W2) => Judge_fit 2 1 p 1 1 _ W2 (h.keep hb) (by decide) (by decide) (by decide) (by decide) (fun x hx => by simp at hx; subst hx; exact ⟨rfl, rfl⟩)
    rw [kD_awake.1, kD_awake.2] at hj
    have := Count_ok 2 1 p 1 1 1 W (by decide) (by decide) (by decide) hj
    rwa [show (256 : Nat) ^ (1 * (2 - 1)) = 256 from rfl] at this
  clear hT
  go_enter Tryz.func4, Tryz.ntmps4
  go_wp2_with fail
  have b2 := ba2 w (.cells #[.int .u8 1, .int .u8 1] 5) (.cells #[.int .u8 3] 5)
  refine Calls.mono (Of_any _ _ _ _ _ _ [1, 1] [3] _ (sl_block [1, 1] 2 (hal (hnew rfl)) rfl rfl (by simp [maxLen])) (sl_block [3] 1 (hnew (by simp)) rfl rfl (by simp [maxLen])) (by unfold Room; omega) (by unfold Room; omega)) ?_
  rintro e w1 ⟨p1, n1, c1, p2, n2, c2, g1, g2, rfl, o1, o2, hb⟩
  have B1 : Hid (Below w.heap.size w w1) := bl b2 hb b2.size
  have S1 := Lib.hid (Sl.of_owns o1); have S2 := Lib.hid (Sl.of_owns o2)
  clear b2 hb o1 o2
  go_wp2_with fail
  refine Calls.mono (HC.out _ _ (rwS_one (hnew rfl) (S1.out.keep (ba1 _ _)) (S2.out.keep (ba1 _ _)))) ?_
  rintro e w2 ⟨q, n, c, rfl, hw, hb⟩
  have B2 : Hid (Below w.heap.size w w2) := bl (bl B1.out (ba1 w1 _) B1.out.size) hb (by have := B1.out.size; simp; omega)
  have HW := Lib.hid hw
  clear hb hw B1 S1 S2
  go_wp2_with fail
  refine Calls.mono (Text_nat q n c 256 _ (HW.out.keep (ba1 _ _)) ((HT.out.keep B2.out).keep (ba1 _ _))) ?_
  rintro e w3 ⟨rfl, hb⟩
  rw [hex256]
  have B3 : Hid (Below w.heap.size w w3) := bl (bl B2.out (ba1 w2 _) B2.out.size) hb (by have := B2.out.size; simp; omega)
  clear hb HW
  have hs1 : ((strB [49, 48, 48]).toList == [49, 48, 48]) = true := by rw [strB_toList]; rfl
  go_wp2
  go_ret
  exact ⟨rfl, B3.out⟩
end Go.Proofs.YtbfmdfbnhakolaaGreatDoor
namespace Go.Proofs.YtbfmdfbnhakolaaGreatDoor
open Go.RowKit Go.By
end Go.Proofs.YtbfmdfbnhakolaaGreatDoor
namespace Go.Proofs.YtbfmdfbnhakolaaGreatDoor
open Go.RowKit Go.By
end Go.Proofs.YtbfmdfbnhakolaaGreatDoor
namespace Go.Proofs.YtbfmdfbnhakolaaGreatDoor
open Go.RowKit Go.By
theorem valB_pow (n : Nat) : valB (List.replicate n 0 ++ [1]) = 256 ^ n := by
  unfold valB
  rw [List.map_append, valD_append, List.map_replicate]
  show valD 256 (List.replicate n 0) + 256 ^ (List.replicate n (0 : Nat)).length * (1 + 256 * 0) = _
  rw [valD_zeros, List.length_replicate]; omega
theorem len_any_bytes (N : Nat) : ((bytesN N).length = 0) ↔ N = 0 := by
  constructor
  · intro h
    have : bytesN N = [] := List.eq_nil_of_length_eq_zero h
    rw [← bytesN_zero] at this
    exact bytesN_inj this
  · rintro rfl; rw [bytesN_zero]; rfl
end Go.Proofs.YtbfmdfbnhakolaaGreatDoor
namespace Go.Proofs.YtbfmdfbnhakolaaGreatDoor
open Go.RowKit Go.By
theorem few8_parts {m : Nat} {L : List Rw} (h : few8 m L = true) : m ≤ 30 ∧ ∀ x, x ∈ L → x.1.length ≤ 20 ∧ x.2.length ≤ 20 := by
  unfold few8 at h
  rw [Bool.and_eq_true, List.all_eq_true] at h
  refine ⟨of_decide_eq_true h.2, fun x hx => ?_⟩
  have := h.1 x hx
  rw [Bool.and_eq_true] at this
  exact ⟨of_decide_eq_true this.1, of_decide_eq_true this.2⟩
theorem kD_wide {k t : Nat} {L : List Rw} (h : ∀ x, x ∈ L → Fit k t x) : (kD L).length ≤ k := by
  rw [← vecs_rank]; exact rank_wide (vecs_len h)
theorem Ret0.ws {w w' : World} {code : Int} {e : Ending} (h : Ret0 w code e w') : ∃ q n d, e = .returned (.tuple #[.agg #[.slice q n d], .int .i64 code]) ∧ Ws 69 w' q n d 0 ∧ Below w.heap.size w w' :=
  ⟨none, 0, 0, h.1, Ws.zero _ _, h.2⟩
end Go.Proofs.YtbfmdfbnhakolaaGreatDoor
namespace Go.Proofs.YtbfmdfbnhakolaaGreatDoor
open Go.RowKit Go.By
/-- do these symbols hold for this equation? -/
def hold1 (S : List (List UInt8)) (x : Rw) : Bool := S.all (fun s => decide (s.length = x.2.length)) && (decide ((combS x.1 S).2 = 0) && decide ((combS x.1 S).1 = x.2))
theorem combS_code (cs : List UInt8) (S : List (List UInt8)) : (combS cs S).2 = 0 ∨ (combS cs S).2 = 4 := by
  unfold combS; split
  · split <;> simp
  · simp
theorem enters_holds : Enters Tryz.prog 35 := enters_of Tryz.func35 (by kernel_rfl) rfl
theorem enters_fails : Enters Tryz.prog 16 := enters_of Tryz.func16 (by kernel_rfl) rfl
set_option maxHeartbeats 400000 in
theorem holds1_any (q q2 : Option Addr) (m c B s d : Nat) (w : World) (hB : w.cell? ⟨B, 1, none⟩ = some (.slice q2 s d)) :
    Calls Tryz.prog 35 #[.slice q m c, .pointer (some ⟨B, 0, none⟩)] w fun e w' => e = .returned (.bool ((m : Int) != s)) ∧ w = w' := by
  go_enter Tryz.func35, Tryz.ntmps35
  go_wp2
  go_ret
  exact ⟨rfl, rfl⟩
set_option maxRecDepth 100000 in
set_option maxHeartbeats 2000000 in
theorem holds_any (p q1 q2 : Option Addr) (k c m1 c1 m2 c2 : Nat) (S : List (List UInt8)) (x : Rw) (w : World) (h : Sl2 w p k c S) (h1 : Sl B8 w q1 m1 c1 x.1) (h2 : Sl B8 w q2 m2 c2 x.2) (hR : Room x.2.length) :
    Calls Tryz.prog 17 #[.slice p k c, .agg #[.slice q1 m1 c1, .slice q2 m2 c2]] w fun e w' => e = .returned (.bool (hold1 S x)) ∧ Below w.heap.size w w' := by
  obtain ⟨R, hRd⟩ : ∃ R : Bool, R = hold1 S x := ⟨_, rfl⟩
  rw [← hRd]
  obtain ⟨vs, hvs, hvv⟩ := h.vals
  have hax := any_vals (n := m2) (hvs.len.trans h.len.symm) hvv
  have H := Lib.hid h; have H1 := Lib.hid h1; have H2 := Lib.hid h2; have HV := Lib.hid hvs; have HVV := Lib.hid hvv; have HA := Lib.hid hax; have HR := Lib.hid hR; have HRD := Lib.hid hRd; have L2 := Lib.hid h2.len
  clear h h1 h2 hvs hvv hax hR hRd
  go_enter Tryz.func17, Tryz.ntmps17
  go_wp2_with fail
  have K0 : Hid (BlkIs w.heap.size (.cells #[.slice q1 m1 c1, .slice q2 m2 c2] 46) (w.alloc (.cells #[.slice q1 m1 c1, .slice q2 m2 c2] 46))) := hnew rfl
  refine (ContainsFuncBB_any id (lenNe m2) 35 _ enters_holds p k c vs _ (HV.out.keep (ba1 _ _)) ?_).mono ?_
  · intro v hv
    obtain ⟨i, hi, e⟩ := List.getElem_of_mem hv
    obtain ⟨xs, q, c', hx, rfl, hs⟩ := HVV.out i v (by rw [List.getElem?_eq_getElem hi, e])
    exact holds1_any q _ _ c' _ m2 _ _ (cell_of_row _ _ 1 _ _ _ K0.out)
  rintro e w' ⟨rfl, rfl⟩
  rw [HA.out]
  clear HV HVV HA
  by_cases ha : S.all (fun y => decide (y.length = m2)) = true
  · have HAL := Lib.hid ha
    rw [ha]
    clear ha
    go_wp2_with fail
    refine Calls.mono (Comb_any q1 p m1 k c1 c x.1 S _ (H1.out.keep (ba1 _ _)) (H.out.keep (ba1 _ _)) (fun s hs => by have := of_decide_eq_true (List.all_eq_true.1 HAL.out s hs); rw [this, ← L2.out]; exact HR.out)) ?_
    rintro e w1 ⟨q, m, d, hm, rfl, ho, hb⟩
    have B1 : Hid (Below w.heap.size w w1) := bl (ba1 w _) hb (ba1 w _).size
    have K1 : Hid (BlkIs w.heap.size (.cells #[.slice q1 m1 c1, .slice q2 m2 c2] 46) w1) := K0.out.keep hb
    have S1 := Lib.hid (Sl.of_owns ho)
    have S2 := Lib.hid (H2.out.keep B1.out)
    clear ho hb K0 hm
    have c1' : w1.cell? ⟨w.heap.size, 1, none⟩ = some (.slice q2 m2 c2) := cell_of_row _ _ 1 _ _ _ K1.out
    rcases combS_code x.1 S with hc | hc
    · rw [hc]
      have HC := Lib.hid hc
      clear hc
      go_wp2_with fail
      refine Calls.mono (EqualB_d q q2 m m2 d c2 _ x.2 _ S1.out S2.out) ?_
      rintro e w2 ⟨rfl, qq, rfl⟩
      have B2 : Hid (Below w.heap.size w (w1.drewN qq)) := bl B1.out (bdn (Below.refl _ _)) B1.out.size
      have HE : Hid (decide ((combS x.1 S).1 = x.2) = R) := by
        show _ = _
        rw [HRD.out]; unfold hold1
        rw [L2.out, HAL.out, decide_eq_true HC.out, Bool.true_and, Bool.true_and]
      rw [HE.out]
      clear c1' K1 S1 S2 HE HC B1
      go_wp2
      go_ret
      exact ⟨rfl, B2.out⟩
    · rw [hc]
      have HE : Hid (R = false) := by
        show _ = _
        rw [HRD.out]; unfold hold1
        rw [decide_eq_false (by omega), Bool.false_and, Bool.and_false]
      clear hc c1' K1 S1 S2
      go_wp2
      go_ret
      exact ⟨by rw [HE.out]; rfl, B1.out⟩
  · have ha' := eq_false_of_ne_true ha
    rw [ha']
    have HE : Hid (R = false) := by
      show _ = _
      rw [HRD.out]; unfold hold1
      rw [L2.out, ha', Bool.false_and]
    clear ha ha' K0
    go_wp2
    go_ret
    exact ⟨by rw [HE.out]; rfl, ba1 _ _⟩
set_option maxHeartbeats 400000 in
theorem IndexRow2_any (f : Rw → Bool) (g : Nat) (lb : Array Value) (eg : Enters Tryz.prog g) (p : Option Addr) (n c : Nat) (K : List Rw) (w : World) (h : RwS w p n c K)
    (hf : ∀ (W : World) (q1 q2 : Option Addr) (m1 c1 m2 c2 : Nat) (x : Rw), x ∈ K → Below w.heap.size w W → Sl B8 W q1 m1 c1 x.1 → Sl B8 W q2 m2 c2 x.2 → Calls Tryz.prog g (#[.agg #[.slice q1 m1 c1, .slice q2 m2 c2]] ++ lb) W fun e w' => e = .returned (.bool (f x)) ∧ Below W.heap.size W w') :
    Calls Tryz.prog 39 #[.slice p n c, .func (.func g) #[] lb] w fun e w' => e = .returned (.int .i64 (idxf f K)) ∧ Below w.heap.size w w' := by
  have hn := Nat.le_trans h.le h.max
  unfold maxLen at hn
  have H := Lib.hid h; clear h
  have HF := Lib.hid hf; clear hf
  have eg' : ∀ args w, (callFunc g args).run Tryz.prog w = .ok (.enter g args) w := eg
  clear eg
  go_enter Tryz.func39, Tryz.ntmps39
  go_wp2
  go_loopw [8] (fun i wr => ∃ k : Nat, k ≤ n ∧ i = .int .i64 k ∧ Hid (∀ j y, j < k → K[j]? = some y → f y = false) ∧ Hid (Below w.heap.size w wr)) (fun i _ => n - (intOf i).toNat)
  case atStart => exact ⟨0, Nat.zero_le _, rfl, fun j y hj => by omega, Below.refl _ _⟩
  case round =>
    obtain ⟨k, hk, rfl, hr, hB⟩ := hrel
    by_cases hlt : k < n
    · obtain ⟨x, hx⟩ : ∃ x, K[k]? = some x := ⟨_, List.getElem?_eq_getElem (by rw [H.out.len]; exact hlt)⟩
      obtain ⟨b, o, q1, m1, c1, q2, m2, c2, rfl, h1, h2, h3, h4⟩ := H.out.row k x hx
      have d1 := (hB.out.cell (p := ⟨b, o + k * 2, none⟩) (lt_of_cell h1)).trans h1
      have d2 := (hB.out.cell (p := ⟨b, o + k * 2 + 1, none⟩) (lt_of_cell h2)).trans h2
      have HX := Lib.hid hx
      have HS : Hid (Sl B8 wr q1 m1 c1 x.1) := h3.keep hB.out
      have HS2 : Hid (Sl B8 wr q2 m2 c2 x.2) := h4.keep hB.out
      have kn : (k : Int) < (n : Int) := by omega
      clear h1 h2 h3 h4 hx
      cases hfx : f x with
      | false =>
        have HQ := Lib.hid hfx; clear hfx
        go_wp2_with fail
        refine (HF.out wr q1 q2 m1 c1 m2 c2 x (List.mem_of_getElem? HX.out) hB.out HS.out HS2.out).mono ?_; rintro e w2 ⟨rfl, hb2⟩
        have B2 : Hid (Below w.heap.size w w2) := bl hB.out hb2 hB.out.size
        rw [HQ.out]
        clear hb2 d1 d2 hB HS HS2
        go_wp2
        go_roundw
        case rel =>
          refine ⟨k + 1, by omega, by go_num, fun j y hj hy => ?_, B2.out⟩
          by_cases e : j = k
          · subst e; have := HX.out.symm.trans hy; cases this; exact HQ.out
          · exact hr.out j y (by omega) hy
        case measure => simp [intOf]; omega
      | true =>
        have HQ := Lib.hid hfx; clear hfx
        go_wp2_with fail
        refine (HF.out wr q1 q2 m1 c1 m2 c2 x (List.mem_of_getElem? HX.out) hB.out HS.out HS2.out).mono ?_; rintro e w2 ⟨rfl, hb2⟩
        have B2 : Hid (Below w.heap.size w w2) := bl hB.out hb2 hB.out.size
        rw [HQ.out]
        clear hb2 d1 d2 hB HS HS2
        go_wp2
        go_ret
        exact ⟨by rw [idxf_found HX.out HQ.out hr.out]; rfl, B2.out⟩
    · go_wp2
      go_ret
      exact ⟨by rw [idxf_none (k := k) (by have := H.out.len; omega) hr.out]; rfl, hB.out⟩
set_option maxHeartbeats 400000 in
theorem ContainsRow_any (f : Rw → Bool) (g : Nat) (lb : Array Value) (eg : Enters Tryz.prog g) (p : Option Addr) (n c : Nat) (K : List Rw) (w : World) (h : RwS w p n c K)
    (hf : ∀ (W : World) (q1 q2 : Option Addr) (m1 c1 m2 c2 : Nat) (x : Rw), x ∈ K → Below w.heap.size w W → Sl B8 W q1 m1 c1 x.1 → Sl B8 W q2 m2 c2 x.2 → Calls Tryz.prog g (#[.agg #[.slice q1 m1 c1, .slice q2 m2 c2]] ++ lb) W fun e w' => e = .returned (.bool (f x)) ∧ Below W.heap.size W w') :
    Calls Tryz.prog 18 #[.slice p n c, .func (.func g) #[] lb] w fun e w' => e = .returned (.bool (K.any f)) ∧ Below w.heap.size w w' := by
  have H := Lib.hid h; clear h
  have HF := Lib.hid hf; clear hf
  have HE := Lib.hid eg; clear eg
  go_enter Tryz.func18, Tryz.ntmps18
  go_wp2_with fail
  refine (IndexRow2_any f g lb HE.out p n c K w H.out HF.out).mono ?_; rintro e w' ⟨rfl, hb⟩
  have HB := Lib.hid hb
  clear hb
  go_wp2
  go_ret
  exact ⟨by rw [← idxf_ge]; rfl, HB.out⟩
set_option maxHeartbeats 400000 in
theorem fails_any (p q1 q2 : Option Addr) (k c m1 c1 m2 c2 g : Nat) (S : List (List UInt8)) (x : Rw) (w : World) (hg : w.cell? ⟨g, 0, none⟩ = some (.slice p k c)) (h : Sl2 w p k c S) (h1 : Sl B8 w q1 m1 c1 x.1) (h2 : Sl B8 w q2 m2 c2 x.2) (hR : Room x.2.length) :
    Calls Tryz.prog 16 (#[.agg #[.slice q1 m1 c1, .slice q2 m2 c2]] ++ #[.pointer (some ⟨g, 0, none⟩)]) w fun e w' => e = .returned (.bool (!hold1 S x)) ∧ Below w.heap.size w w' := by
  have H := Lib.hid h; have H1 := Lib.hid h1; have H2 := Lib.hid h2; have HR := Lib.hid hR; have HG := Lib.hid hg
  clear h h1 h2 hR hg
  obtain ⟨R, hRd⟩ : ∃ R : Bool, R = hold1 S x := ⟨_, rfl⟩
  rw [← hRd]
  have HC : Hid (∀ W, Below w.heap.size w W → Calls Tryz.prog 17 #[.slice p k c, .agg #[.slice q1 m1 c1, .slice q2 m2 c2]] W fun e w' => e = .returned (.bool R) ∧ Below W.heap.size W w') := fun W hb => by
    rw [hRd]; exact holds_any p q1 q2 k c m1 c1 m2 c2 S x W (H.out.keep hb) (H1.out.keep hb) (H2.out.keep hb) HR.out
  clear hRd
  have hgc := ((ba1 w (.cells #[.slice q1 m1 c1, .slice q2 m2 c2] 46)).cell (p := ⟨g, 0, none⟩) (lt_of_cell HG.out)).trans HG.out
  go_enter Tryz.func16, Tryz.ntmps16
  go_wp2_with fail
  refine Calls.mono (HC.out _ (ba1 _ _)) ?_
  rintro e w1 ⟨rfl, hb⟩
  have B1 : Hid (Below w.heap.size w w1) := bl (ba1 w _) hb (ba1 w _).size
  clear hb hgc
  go_wp2
  go_ret
  exact ⟨rfl, B1.out⟩
set_option maxHeartbeats 400000 in
theorem Holds_any (p q : Option Addr) (k c m d : Nat) (S : List (List UInt8)) (K : List Rw) (w : World) (h : Sl2 w p k c S) (hK : RwS w q m d K) (hR : ∀ x, x ∈ K → Room x.2.length) :
    Calls Tryz.prog 7 #[.slice p k c, .slice q m d] w fun e w' => e = .returned (.bool (K.all (hold1 S))) ∧ Below w.heap.size w w' := by
  have H := Lib.hid h; have HK := Lib.hid hK; have HR := Lib.hid hR
  clear h hK hR
  obtain ⟨R, hRd⟩ : ∃ R : Bool, R = K.any (fun x => !hold1 S x) := ⟨_, rfl⟩
  have HRD : Hid (K.all (hold1 S) = !R) := by
    show _ = _
    rw [hRd, List.all_eq_not_any_not]
  rw [HRD.out]
  have HC : Hid (∀ W, Below w.heap.size w W → W.cell? ⟨w.heap.size, 0, none⟩ = some (.slice p k c) → Calls Tryz.prog 18 #[.slice q m d, .func (.func 16) #[] #[.pointer (some ⟨w.heap.size, 0, none⟩)]] W fun e w' => e = .returned (.bool R) ∧ Below W.heap.size W w') := fun W hb hc => by
    rw [hRd]
    exact ContainsRow_any (fun x => !hold1 S x) _ _ enters_fails q m d K W (HK.out.keep hb) (fun W2 q1 q2 m1 c1 m2 c2 x hx hb2 s1 s2 => fails_any p q1 q2 k c m1 c1 m2 c2 w.heap.size S x W2 ((hb2.cell (p := ⟨w.heap.size, 0, none⟩) (lt_of_cell hc)).trans hc) ((H.out.keep hb).keep hb2) s1 s2 (HR.out x hx))
  clear hRd HRD
  go_enter Tryz.func7, Tryz.ntmps7
  go_wp2_with fail
  refine Calls.mono (HC.out _ (ba1 _ _) (cell_of_row _ _ 0 _ _ _ (hnew rfl))) ?_
  rintro e w1 ⟨rfl, hb⟩
  have B1 : Hid (Below w.heap.size w w1) := bl (ba1 w _) hb (ba1 w _).size
  clear hb
  go_wp2
  go_ret
  exact ⟨rfl, B1.out⟩
end Go.Proofs.YtbfmdfbnhakolaaGreatDoor
namespace Go.Proofs.YtbfmdfbnhakolaaGreatDoor
open Go.RowKit Go.By Gf
theorem fits_calm {k n : Nat} {B : List V} {X : List Rw} (hX : ∀ y, y ∈ X → Fit k n y ∧ ConsV k B (vR y)) (m : Nat) : calm X m := by
  intro i x _ hx
  have hk : KeptS k n (kD (X.take i)) := kD_kept (fun r hr => (hX r hr).1) i
  have hs : Sys k n (kD (X.take i)) (redL (kD (X.take i))) := ⟨hk, rfl⟩
  have hm := hX x (List.mem_of_getElem? hx)
  rw [sys_clash hs hm.1]
  unfold clashB
  by_cases hl : leadS (restF (redL (kD (X.take i))) x).1 < 0
  · rw [sys_code hs (fun y hy => hX y (List.mem_of_mem_take hy)) hm.1 hm.2 hl]; simp
  · rw [decide_eq_false hl]; rfl
theorem fits_clash {k n : Nat} {B : List V} {X : List Rw} (hX : ∀ y, y ∈ X → Fit k n y ∧ ConsV k B (vR y)) (m : Nat) : clashI X m = -1 := calm_clashI m (fits_calm hX m)
theorem ins_ge (K : List Rw) (x : Rw) : K.length ≤ (insF K x).length := by
  rw [(ins_perm K x).length_eq]
  unfold keepF
  split
  · exact Nat.le_refl _
  · rw [List.length_append]; exact Nat.le_add_right _ _
theorem kD_more (X : List Rw) (y : Rw) : (kD X).length ≤ (kD (X ++ [y])).length := by rw [kD_snoc]; exact ins_ge _ _
/-- so many solutions -/
def cntI (k t : Nat) (X : List Rw) (m : Nat) : Nat := if clashI X m < 0 then 256 ^ (t * (k - (kD X).length)) else 0
theorem cntQ_le {k t m : Nat} {X : List Rw} {y : Rw} : cntI k t (X ++ [y]) m ≤ 256 ^ (t * (k - (kD X).length)) := by
  unfold cntI
  split
  · refine Nat.pow_le_pow_right (by decide) (Nat.mul_le_mul_left _ ?_)
    have := kD_more X y
    omega
  · exact Nat.zero_le _
theorem cntQ_one {k t r : Nat} (h : r ≤ k) : 256 ^ (t * (k - r)) = 1 ↔ r = k ∨ t = 0 := by
  constructor
  · intro e
    rcases Nat.eq_zero_or_pos (t * (k - r)) with h0 | h0
    · rcases Nat.mul_eq_zero.1 h0 with h1 | h1
      · exact .inr h1
      · exact .inl (by omega)
    · have := Nat.pow_le_pow_right (show 0 < 256 by decide) h0
      rw [e] at this
      exact absurd this (by decide)
  · rintro (rfl | rfl)
    · rw [Nat.sub_self, Nat.mul_zero]
    · rw [Nat.zero_mul]
/-- rows made of the symbols hold -/
theorem hold_rowC {k n : Nat} {FX : List (List UInt8)} {w : List UInt8} (hF : ∀ x, x ∈ FX → x.length = n) (hk : FX.length = k) (hk1 : 1 ≤ k) (hw : w.length = k) : hold1 FX (rowC n FX w) = true := by
  have hc : combS w FX = (mulR n FX w, 0) := by
    rw [comb_ok hF (hw.trans hk.symm), if_neg (fun e => by rw [e] at hk; simp at hk; omega)]
  unfold hold1 rowC
  rw [Bool.and_eq_true, Bool.and_eq_true, List.all_eq_true]
  refine ⟨fun s hs => decide_eq_true ?_, decide_eq_true ?_, decide_eq_true ?_⟩
  · rw [hF s hs, mulR_len hF]
  · show (combS w FX).2 = 0; rw [hc]
  · show (combS w FX).1 = mulR n FX w; rw [hc]
theorem cmpN_one (M : Nat) : (cmpN M 1 == 0) = decide (M = 1) := by
  unfold cmpN
  by_cases h : M = 1
  · subst h; rfl
  · rw [decide_eq_false h]
    by_cases h1 : M < 1
    · rw [if_pos h1]; rfl
    · rw [if_neg h1, if_pos (by omega)]; rfl
theorem cmpN_le {M N : Nat} (h : M ≤ N) : cmpN M N ≤ 0 := by
  unfold cmpN
  split
  · omega
  · rw [if_neg (by omega)]; omega
end Go.Proofs.YtbfmdfbnhakolaaGreatDoor
namespace Go.Proofs.YtbfmdfbnhakolaaGreatDoor
open Go.RowKit Go.By
theorem restF_snoc9 (K : List Rw) (k x : Rw) : restF (K ++ [k]) x = lessF (restF K x) (atS (restF K x).1 (leadS k.1)) k := by unfold restF; rw [List.foldl_append]; rfl
theorem restF_take9 {K : List Rw} {j : Nat} {k x : Rw} (h : K[j]? = some k) : restF (K.take (j + 1)) x = lessF (restF (K.take j) x) (atS (restF (K.take j) x).1 (leadS k.1)) k := by
  have e : K.take (j + 1) = K.take j ++ [k] := by
    rw [List.take_add_one, h]; rfl
  rw [e, restF_snoc9]
theorem lessS_fit9 {n t : Nat} {x k : Rw} {c : UInt8} (hx : Fit n t x) (hk : Fit n t k) : lessS x c k = (lessF x c k, 0) := by
  unfold lessS lessF
  rw [if_pos ⟨by rw [hx.1, hk.1], by rw [hx.2, hk.2]⟩]
set_option maxRecDepth 100000 in
set_option maxHeartbeats 4000000 in
theorem left_any (p qk : Option Addr) (n c nk ck : Nat) (v : List UInt8) (K : List Rw) (w : World) (hv : Sl B8 w p n c v) (hk : RwS w qk nk ck K) (hf : ∀ r, r ∈ K → Fit n 0 r) (hr : Room n) (hkb : nk ≤ 65536) :
    Calls Tryz.prog 22 #[.slice p n c, .slice qk nk ck] w fun e w' => ∃ q1 c1 q2 c2, e = .returned (.agg #[.slice q1 n c1, .slice q2 0 c2]) ∧ Sl B8 w' q1 n c1 (restF K (v, [])).1 ∧ Sl B8 w' q2 0 c2 (restF K (v, [])).2 ∧ Below w.heap.size w w' := by
  have hinfo := info_row
  have HV := Lib.hid hv; have HK := Lib.hid hk; have HF := Lib.hid hf; have HR := Lib.hid hr; have HVL := Lib.hid hv.len; have HKL := Lib.hid hk.len
  have HB : Hid (∀ o, Below w.heap.size w (w.alloc o)) := fun o => al (Below.refl _ _) (Nat.le_refl _)
  clear hv hk hf hr
  go_enter Tryz.func22, Tryz.ntmps22
  go_wp2_with fail
  refine Calls.mono (Of_any p none n c 0 0 v [] _ (HV.out.keep (HB.out _)) (Sl.nil0 _ _) HR.out (show Room 0 by unfold Room; omega)) ?_
  rintro e w3 ⟨q1, m1, g1, q2, m2, g2, l1, l2, rfl, o1, o2, hb3⟩
  have BW3 : Hid (Below w.heap.size w w3) := bl (HB.out _) hb3 (HB.out _).size
  have S1 := Lib.hid (Sl.of_owns o1); have S2 := Lib.hid (Sl.of_owns o2)
  have X3 : Hid (w3.heap[w.heap.size]? = some (.cells #[.slice none 0 0, .slice none 0 0] 46 (0, 0))) := (hb3.block _ (blk_lt (hnew rfl))).trans (hnew rfl)
  have NB3 : Hid ((∀ a, q1 = some a → w.heap.size < a.block) ∧ ∀ a, q2 = some a → w.heap.size < a.block) := ⟨fun a ha => by have := (owns_new o1 a ha).1; simp at this; omega, fun a ha => by have := (owns_new o2 a ha).1; simp at this; omega⟩
  have hne3 : Hid (w.heap.size ≠ w3.heap.size) := fun e => by have := blk_lt X3.out; omega
  clear o1 o2 hb3
  go_wp2
  go_loopw [12] (fun i wq => ∃ (j : Nat) (q1 : Option Addr) (m1 g1 : Nat) (q2 : Option Addr) (m2 g2 : Nat), j ≤ nk ∧ i = .int .i64 j ∧ Hid (wq.heap[w3.heap.size]? = some (.cells #[.slice q1 m1 g1, .slice q2 m2 g2] 46 (0, 0))) ∧
    Hid (Sl B8 wq q1 m1 g1 (restF (K.take j) (v, [])).1) ∧ Hid (Sl B8 wq q2 m2 g2 (restF (K.take j) (v, [])).2) ∧
    Hid (Below w.heap.size w wq) ∧ Hid (wq.heap[w.heap.size]? = some (.cells #[.slice none 0 0, .slice none 0 0] 46 (0, 0))) ∧ Hid ((∀ a, q1 = some a → w.heap.size < a.block) ∧ ∀ a, q2 = some a → w.heap.size < a.block)) (fun i _ => nk - (intOf i).toNat)
  case atStart => exact ⟨0, q1, m1, g1, q2, m2, g2, Nat.zero_le _, rfl, hnew rfl, S1.out.keep (al (Below.refl _ _) (Nat.le_refl _)), S2.out.keep (al (Below.refl _ _) (Nat.le_refl _)), al BW3.out BW3.out.size, hal X3.out, NB3.out⟩
  case round =>
    clear S1 S2 X3 l1 l2 NB3
    obtain ⟨j, q1, m1, g1, q2, m2, g2, hj, rfl, hL, hS1, hS2, hBw, hX, hNB⟩ := hrel
    by_cases hjl : j < nk
    · obtain ⟨kk, hkk'⟩ : ∃ x, K[j]? = some x := ⟨_, List.getElem?_eq_getElem (by rw [HKL.out]; exact hjl)⟩
      obtain ⟨gb, go, a1, b1, d1, a2, b2, d2, rfl, e1, e2, t1, t2⟩ := (HK.out.keep hBw.out).row j kk hkk'
      have hkk := Lib.hid hkk'
      have T1 := Lib.hid t1; have T2 := Lib.hid t2
      have jn : (j : Int) < (nk : Int) := by omega
      obtain ⟨y0, y1⟩ := cells2 hL.out
      have E1 := Lib.hid e1; have E2 := Lib.hid e2
      have hx : Fit n 0 ((v, []) : Rw) := ⟨HVL.out, rfl⟩
      have fitK : Fit n 0 kk := HF.out kk (List.mem_of_getElem? hkk')
      obtain ⟨XJ, hXJ⟩ : ∃ XJ, XJ = restF (K.take j) (v, []) := ⟨_, rfl⟩
      have fitX : Fit n 0 XJ := by rw [hXJ]; exact hx.rest (fun a ha => HF.out a (List.mem_of_mem_take ha))
      rw [← hXJ] at hS1 hS2
      obtain ⟨LJ, hLJ⟩ : ∃ LJ, LJ = leadS kk.1 := ⟨_, rfl⟩
      obtain ⟨CJ, hCJ⟩ : ∃ CJ, CJ = atS XJ.1 LJ := ⟨_, rfl⟩
      obtain ⟨YJ, hYJ⟩ : ∃ YJ, YJ = lessF XJ CJ kk := ⟨_, rfl⟩
      have hnext : Hid (restF (K.take (j + 1)) (v, []) = YJ) := by show _ = _; rw [restF_take9 hkk.out, ← hXJ, hYJ, hCJ, hLJ]
      have lm1 : m1 = n := by have := hS1.out.len; rw [fitX.1] at this; exact this.symm
      have lm2 : m2 = 0 := by have := hS2.out.len; rw [fitX.2] at this; exact this.symm
      have HLD : Hid (∀ W, Sl B8 W a1 b1 d1 kk.1 → Calls Tryz.prog 45 #[.slice a1 b1 d1] W fun e w' => e = .returned (.int .i64 LJ) ∧ W = w') := fun W h => by rw [hLJ]; exact Lead_any _ _ _ _ W h
      have HAT : Hid (∀ W, Sl B8 W q1 m1 g1 XJ.1 → Calls Tryz.prog 44 #[.slice q1 m1 g1, .int .i64 LJ] W fun e w' => e = .returned (B8 CJ) ∧ W = w') := fun W h => by rw [hCJ]; exact At_any _ _ _ _ LJ W h
      have HLS : Hid (∀ W, Sl B8 W q1 m1 g1 XJ.1 → Sl B8 W q2 m2 g2 XJ.2 → Sl B8 W a1 b1 d1 kk.1 → Sl B8 W a2 b2 d2 kk.2 → Calls Tryz.prog 43 #[.agg #[.slice q1 m1 g1, .slice q2 m2 g2], B8 CJ, .agg #[.slice a1 b1 d1, .slice a2 b2 d2]] W (RetR2 5 W YJ 0)) := fun W h1 h2 h3 h4 => by
        have := Less_any q1 q2 a1 a2 m1 g1 m2 g2 b1 d1 b2 d2 XJ.1 XJ.2 kk.1 kk.2 CJ W h1 h2 h3 h4 (by rw [lm1]; exact HR.out) (by rw [lm2]; unfold Room; omega)
        rw [lessS_fit9 (n := n) (t := 0) (x := XJ) (k := kk) fitX fitK, ← hYJ] at this
        exact this
      have AL : Hid (Below wr.heap.size wr (wr.alloc (.cells #[.slice a1 b1 d1, .slice a2 b2 d2] 46))) := al (Below.refl _ _) (Nat.le_refl _)
      have hsz3 : Hid (w.heap.size ≤ w3.heap.size) := BW3.out.size
      have hNX : Hid (∀ (w9 : World) (q5 : Option Addr) (m5 g5 : Nat) (q6 : Option Addr) (m6 g6 : Nat), Below wr.heap.size wr w9 → Sl B8 w9 q5 m5 g5 YJ.1 → Sl B8 w9 q6 m6 g6 YJ.2 → (∀ a, q5 = some a → wr.heap.size ≤ a.block) → (∀ a, q6 = some a → wr.heap.size ≤ a.block) →
          ((w9.setCell ⟨w3.heap.size, 0, none⟩ (.slice q5 m5 g5)).setCell ⟨w3.heap.size, 1, none⟩ (.slice q6 m6 g6)).heap[w3.heap.size]? = some (.cells #[.slice q5 m5 g5, .slice q6 m6 g6] 46 (0, 0)) ∧
          Sl B8 ((w9.setCell ⟨w3.heap.size, 0, none⟩ (.slice q5 m5 g5)).setCell ⟨w3.heap.size, 1, none⟩ (.slice q6 m6 g6)) q5 m5 g5 (restF (K.take (j + 1)) (v, [])).1 ∧
          Sl B8 ((w9.setCell ⟨w3.heap.size, 0, none⟩ (.slice q5 m5 g5)).setCell ⟨w3.heap.size, 1, none⟩ (.slice q6 m6 g6)) q6 m6 g6 (restF (K.take (j + 1)) (v, [])).2 ∧
          Below w.heap.size w ((w9.setCell ⟨w3.heap.size, 0, none⟩ (.slice q5 m5 g5)).setCell ⟨w3.heap.size, 1, none⟩ (.slice q6 m6 g6)) ∧
          ((w9.setCell ⟨w3.heap.size, 0, none⟩ (.slice q5 m5 g5)).setCell ⟨w3.heap.size, 1, none⟩ (.slice q6 m6 g6)).heap[w.heap.size]? = some (.cells #[.slice none 0 0, .slice none 0 0] 46 (0, 0)) ∧ ((∀ a, q5 = some a → w.heap.size < a.block) ∧ ∀ a, q6 = some a → w.heap.size < a.block)) := by
        intro w9 q5 m5 g5 q6 m6 g6 b9 s5 s6 s7 s8
        have L9 : w9.heap[w3.heap.size]? = some (.cells #[.slice q1 m1 g1, .slice q2 m2 g2] 46 (0, 0)) := (b9.block _ (blk_lt hL.out)).trans hL.out
        have X9 : w9.heap[w.heap.size]? = some (.cells #[.slice none 0 0, .slice none 0 0] 46 (0, 0)) := (b9.block _ (blk_lt hX.out)).trans hX.out
        rw [hnext.out]
        have hl3 := blk_lt hL.out
        have ne5 : ∀ a, q5 = some a → a.block ≠ w3.heap.size := fun a ha => by have := s7 a ha; omega
        have ne6 : ∀ a, q6 = some a → a.block ≠ w3.heap.size := fun a ha => by have := s8 a ha; omega
        exact ⟨hss (hss L9), (s5.set ne5).set ne5, (s6.set ne6).set ne6, ((bl hBw.out b9 hBw.out.size).setCell hsz3.out _).setCell hsz3.out _, hsc (hsc X9 hne3.out) hne3.out, fun a ha => by have h1 := s7 a ha; have h2 := blk_lt hX.out; omega, fun a ha => by have h1 := s8 a ha; have h2 := blk_lt hX.out; omega⟩
      clear hXJ hLJ hCJ hYJ hx fitK fitX lm1 lm2 t1 t2 hkk'
      clear y0 y1
      go_wp2
      have z0 : (wr.alloc (.cells #[.slice a1 b1 d1, .slice a2 b2 d2] 46)).cell? ⟨wr.heap.size, 0, none⟩ = some (.slice a1 b1 d1) := cell_of_row _ _ 0 _ _ _ (hnew rfl)
      have z1 : (wr.alloc (.cells #[.slice a1 b1 d1, .slice a2 b2 d2] 46)).cell? ⟨wr.heap.size, 1, none⟩ = some (.slice a2 b2 d2) := cell_of_row _ _ 1 _ _ _ (hnew rfl)
      obtain ⟨y0, y1⟩ := cells2 (hal (o := .cells #[.slice a1 b1 d1, .slice a2 b2 d2] 46) hL.out)
      refine wp_region_late (fun ix => ([.val (.agg #[.slice q1 m1 g1, .slice q2 m2 g2]), .val (.pointer (some ⟨w3.heap.size, 0, none⟩)), .val (.slice q1 m1 g1), .val (.pointer (some ⟨wr.heap.size, 0, none⟩)), .val (.slice a1 b1 d1), .val (.int .i64 LJ), .val (B8 CJ), .val (.agg #[.slice a1 b1 d1, .slice a2 b2 d2]), .rowTN (wr.heap.size) (YJ) (0), .rowTN (wr.heap.size) (YJ) (0), .rowN (wr.heap.size) (YJ), .val (.int .i64 0), .any][ix]?).getD (.any)) 30 12 11 16 27 rfl (by kernel_rfl) (by decide) (by decide) (by decide) _ rfl rfl rfl (by decide) (fun a u x w h => run_extract1 _ rfl h) (by decide) ?_ ?_
      · refine ⟨?_, ?_, ?_, ?_, ?_, ?_, ?_, ?_, ?_, ?_, ?_, ?_, trivial⟩
        · intro a W hb0 hs hp hi; have hb := undrew hb0; clear hb0
          have tt : sl a 5 = .pointer (some ⟨w3.heap.size, 0, none⟩) := hi 5 (by decide)
          have dd0 := (hb.cell (p := ⟨w3.heap.size, 0, none⟩) (lt_of_cell y0)).trans y0
          have dd1 := (hb.cell (p := ⟨w3.heap.size, 1, none⟩) (lt_of_cell y1)).trans y1
          refine ite_y rfl (wp_val (.agg #[.slice q1 m1 g1, .slice q2 m2 g2]) ?_ ?_)
          · simp only [execOp, eval_tmp, tt]; simp [go_sem, dd0, dd1]
          · exact ⟨_, rfl, Below.refl _ _, rfl⟩
        · intro a W hb0 hs hp hi; have hb := undrew hb0; clear hb0
          have t5 : sl a 5 = .pointer (some ⟨w3.heap.size, 0, none⟩) := hi 5 (by decide)
          refine ite_y rfl (wp_val (.pointer (some ⟨w3.heap.size, 0, none⟩)) ?_ ?_)
          · simp only [execOp, eval_tmp, eval_const, t5]; simp [go_sem]
          · exact ⟨_, rfl, Below.refl _ _, rfl⟩
        · intro a W hb0 hs hp hi; have hb := undrew hb0; clear hb0
          have tt : sl a 18 = .pointer (some ⟨w3.heap.size, 0, none⟩) := hp 1 (by decide)
          have dd0 := (hb.cell (p := ⟨w3.heap.size, 0, none⟩) (lt_of_cell y0)).trans y0
          refine ite_y rfl (wp_val (.slice q1 m1 g1) ?_ ?_)
          · simp only [execOp, eval_tmp, tt]; simp [go_sem, dd0]
          · exact ⟨_, rfl, Below.refl _ _, rfl⟩
        · intro a W hb0 hs hp hi; have hb := undrew hb0; clear hb0
          have t7 : sl a 7 = .pointer (some ⟨wr.heap.size, 0, none⟩) := hi 7 (by decide)
          refine ite_y rfl (wp_val (.pointer (some ⟨wr.heap.size, 0, none⟩)) ?_ ?_)
          · simp only [execOp, eval_tmp, eval_const, t7]; simp [go_sem]
          · exact ⟨_, rfl, Below.refl _ _, rfl⟩
        · intro a W hb0 hs hp hi; have hb := undrew hb0; clear hb0
          have tt : sl a 20 = .pointer (some ⟨wr.heap.size, 0, none⟩) := hp 3 (by decide)
          have dd0 := (hb.cell (p := ⟨wr.heap.size, 0, none⟩) (lt_of_cell z0)).trans z0
          refine ite_y rfl (wp_val (.slice a1 b1 d1) ?_ ?_)
          · simp only [execOp, eval_tmp, tt]; simp [go_sem, dd0]
          · exact ⟨_, rfl, Below.refl _ _, rfl⟩
        · intro a W hb0 hs hp hi; have hb := undrew hb0; clear hb0
          have t21 : sl a 21 = .slice a1 b1 d1 := hp 4 (by decide)
          refine ite_y rfl (wp_enter 45 #[.slice a1 b1 d1] ?_ (HLD.out _ (T1.out.keep (AL.out.trans (hb.mono AL.out.size)))) ?_)
          · simp only [execOp, resolve, List.map_toArray, List.map, eval_tmp, eval_func, eval_const, t21]; simp [go_sem]
          · rintro e W' ⟨rfl, rfl⟩; exact ⟨_, rfl, _, rfl, Below.refl _ _, rfl⟩
        · intro a W hb0 hs hp hi; have hb := undrew hb0; clear hb0
          have t19 : sl a 19 = .slice q1 m1 g1 := hp 2 (by decide)
          have t22 : sl a 22 = .int .i64 LJ := hp 5 (by decide)
          refine ite_y rfl (wp_enter 44 #[.slice q1 m1 g1, .int .i64 LJ] ?_ (HAT.out _ (hS1.out.keep (AL.out.trans (hb.mono AL.out.size)))) ?_)
          · simp only [execOp, resolve, List.map_toArray, List.map, eval_tmp, eval_func, eval_const, t19, t22]; simp [go_sem]
          · rintro e W' ⟨rfl, rfl⟩; exact ⟨_, rfl, _, rfl, Below.refl _ _, rfl⟩
        · intro a W hb0 hs hp hi; have hb := undrew hb0; clear hb0
          have tt : sl a 7 = .pointer (some ⟨wr.heap.size, 0, none⟩) := hi 7 (by decide)
          have dd0 := (hb.cell (p := ⟨wr.heap.size, 0, none⟩) (lt_of_cell z0)).trans z0
          have dd1 := (hb.cell (p := ⟨wr.heap.size, 1, none⟩) (lt_of_cell z1)).trans z1
          refine ite_y rfl (wp_val (.agg #[.slice a1 b1 d1, .slice a2 b2 d2]) ?_ ?_)
          · simp only [execOp, eval_tmp, tt]; simp [go_sem, dd0, dd1]
          · exact ⟨_, rfl, Below.refl _ _, rfl⟩
        · intro a W hb0 hs hp hi; have hb := undrew hb0; clear hb0
          have t17 : sl a 17 = .agg #[.slice q1 m1 g1, .slice q2 m2 g2] := hp 0 (by decide)
          have t23 : sl a 23 = B8 CJ := hp 6 (by decide)
          have t24 : sl a 24 = .agg #[.slice a1 b1 d1, .slice a2 b2 d2] := hp 7 (by decide)
          refine ite_y rfl (wp_enter 43 #[.agg #[.slice q1 m1 g1, .slice q2 m2 g2], B8 CJ, .agg #[.slice a1 b1 d1, .slice a2 b2 d2]] ?_ (HLS.out _ (hS1.out.keep (AL.out.trans (hb.mono AL.out.size))) (hS2.out.keep (AL.out.trans (hb.mono AL.out.size))) (T1.out.keep (AL.out.trans (hb.mono AL.out.size))) (T2.out.keep (AL.out.trans (hb.mono AL.out.size)))) ?_)
          · simp only [execOp, resolve, List.map_toArray, List.map, eval_tmp, eval_func, eval_const, t17, t23, t24]; simp [go_sem]
          · rintro e W' ⟨q5, m5, g5, q6, m6, g6, e5, e6, rfl, o5, o6, hw⟩; have hbs := hb.size; simp at hbs; exact ⟨_, rfl, _, rfl, hw, _, rfl, q5, m5, g5, q6, m6, g6, rfl, Sl.of_owns o5, Sl.of_owns o6, fun a ha => Nat.le_trans (by omega) (owns_new o5 a ha).1, fun a ha => Nat.le_trans (by omega) (owns_new o6 a ha).1⟩
        · intro a W hb0 hs hp hi; have hb := undrew hb0; clear hb0
          have tt : RowTN (wr.heap.size) (YJ) (0) (sl a 25) W := hp 8 (by decide)
          exact ite_y rfl (wp_val (sl a 25) rfl ⟨_, rfl, Below.refl _ _, tt⟩)
        · intro a W hb0 hs hp hi; have hb := undrew hb0; clear hb0
          have tt : RowTN (wr.heap.size) (YJ) (0) (sl a 16) W := hp 9 (by decide)
          obtain ⟨u, tt, hr⟩ := tt
          exact ite_y rfl (wp_val u (by simp only [execOp, eval_tmp, tt]; rfl) ⟨_, rfl, Below.refl _ _, hr⟩)
        · intro a W hb0 hs hp hi; have hb := undrew hb0; clear hb0
          have tt : RowTN (wr.heap.size) (YJ) (0) (sl a 16) W := hp 9 (by decide)
          obtain ⟨u, tt, hr⟩ := tt
          exact ite_y rfl (wp_val (.int .i64 0) (by simp only [execOp, eval_tmp, tt]; rfl) ⟨_, rfl, Below.refl _ _, rfl⟩)
      · intro a w9 o ho hb hs hd hI ht
        simp at ho; subst ho
        have t5 : sl a 5 = .pointer (some ⟨w3.heap.size, 0, none⟩) := ht 5 (by decide)
        have t16 : RowTN (wr.heap.size) (YJ) (0) (sl a 16) w9 := hI 9 (by decide) (by decide)
        have t26 : RowN (wr.heap.size) (YJ) (sl a 26) w9 := hI 10 (by decide) (by decide)
        obtain ⟨uu, t16, -⟩ := t16
        obtain ⟨q5, m5, g5, q6, m6, g6, t26, s5, s6, s7, s8⟩ := t26
        have b9 : Below wr.heap.size wr w9 := AL.out.trans (hb.mono AL.out.size)
        have L9 : w9.heap[w3.heap.size]? = some (.cells #[.slice q1 m1 g1, .slice q2 m2 g2] 46 (0, 0)) := (b9.block _ (blk_lt hL.out)).trans hL.out
        obtain ⟨d0, d1⟩ := cells2 L9
        have f0 : w9.frozen? ⟨w3.heap.size, 0, none⟩ = false := frozen_of_row _ _ 0 _ _ L9
        have f1 : w9.frozen? ⟨w3.heap.size, 1, none⟩ = false := frozen_of_row _ _ 1 _ _ L9
        refine ⟨⟨_, _, t16⟩, wp_skipX (w' := (w9.setCell ⟨w3.heap.size, 0, none⟩ (.slice q5 m5 g5)).setCell ⟨w3.heap.size, 1, none⟩ (.slice q6 m6 g6)) ?_ ⟨rfl, fun b hbs hbd hbt => ?_⟩⟩
        · simp only [execOp, eval_tmp, t26, t5]; simp [go_sem, d0, d1, f0, f1]
        have ha := act_is [17, 18, 19, 20, 21, 22, 23, 24, 25, 16, 26, 27] hbs hbd (fun t h => (hbt t (fun e => by subst e; revert h; decide)).trans (ht t h)) (by decide)
        simp only [List.foldl] at ha
        generalize sl b 17 = u17 at ha
        generalize sl b 18 = u18 at ha
        generalize sl b 19 = u19 at ha
        generalize sl b 20 = u20 at ha
        generalize sl b 21 = u21 at ha
        generalize sl b 22 = u22 at ha
        generalize sl b 23 = u23 at ha
        generalize sl b 24 = u24 at ha
        generalize sl b 25 = u25 at ha
        generalize sl b 16 = u16 at ha
        generalize sl b 26 = u26 at ha
        generalize sl b 27 = u27 at ha
        simp only [Act.put, List.setIfInBounds_toArray, List.set_cons_zero, List.set_cons_succ] at ha
        rw [ha]; clear ha
        have NX := hNX.out w9 q5 m5 g5 q6 m6 g6 b9 s5 s6 s7 s8
        generalize (w9.setCell ⟨w3.heap.size, 0, none⟩ (.slice q5 m5 g5)).setCell ⟨w3.heap.size, 1, none⟩ (.slice q6 m6 g6) = wn at NX ⊢
        have NXH := Lib.hid NX
        clear NX s5 s6 s7 s8 hI ht hbt L9 d0 d1 f0 f1 b9 hb
        go_wp2
        go_roundw
        case rel => exact ⟨j + 1, q5, m5, g5, q6, m6, g6, by omega, by go_num, NXH.out.1, NXH.out.2.1, NXH.out.2.2.1, NXH.out.2.2.2.1, NXH.out.2.2.2.2.1, NXH.out.2.2.2.2.2⟩
        case measure => simp [intOf]; omega
    · obtain rfl : j = nk := by omega
      have htk : K.take j = K := List.take_of_length_le (by rw [HKL.out]; exact Nat.le_refl _)
      rw [htk] at hS1 hS2
      have hx : Fit n 0 ((v, []) : Rw) := ⟨HVL.out, rfl⟩
      have fitX : Fit n 0 (restF K (v, [])) := hx.rest (fun a ha => HF.out a ha)
      obtain rfl : n = m1 := by have := hS1.out.len; rw [fitX.1] at this; exact this
      obtain rfl : 0 = m2 := by have := hS2.out.len; rw [fitX.2] at this; exact this
      obtain ⟨y0, y1⟩ := cells2 hL.out
      have z0 := frozen_of_row _ _ 0 _ _ hX.out
      have z1 := frozen_of_row _ _ 1 _ _ hX.out
      obtain ⟨x0, x1⟩ := cells2 hX.out
      have G1 : Hid (∀ u0 u1, Sl B8 ((wr.setCell ⟨w.heap.size, 0, none⟩ u0).setCell ⟨w.heap.size, 1, none⟩ u1) q1 n g1 (restF K (v, [])).1) := fun u0 u1 => by
        have ne : ∀ a, q1 = some a → a.block ≠ w.heap.size := fun a ha e => by have := hNB.out.1 a ha; omega
        exact (hS1.out.set ne).set ne
      have G2 : Hid (∀ u0 u1, Sl B8 ((wr.setCell ⟨w.heap.size, 0, none⟩ u0).setCell ⟨w.heap.size, 1, none⟩ u1) q2 0 g2 (restF K (v, [])).2) := fun u0 u1 => by
        have ne : ∀ a, q2 = some a → a.block ≠ w.heap.size := fun a ha e => by have := hNB.out.2 a ha; omega
        exact (hS2.out.set ne).set ne
      have BF := Lib.hid hBw.out
      have XF := Lib.hid hX.out
      clear hL hS1 hS2 hNB hBw hX fitX hx htk
      go_wp2
      exact bodyPost_ret (results_cell_row rfl _ _ _ 46 #[.slice q1 n g1, .slice q2 0 g2] (0, 0) _ rfl (hss (hss XF.out)) Tryz.underlying46 rfl hinfo) rfl ⟨_, _, _, _, rfl, G1.out _ _, G2.out _ _, (BF.out.setCell (Nat.le_refl _) _).setCell (Nat.le_refl _) _⟩
end Go.Proofs.YtbfmdfbnhakolaaGreatDoor
namespace Go.By
open Go
section
variable {P : Program} (w : World)
theorem run_append_old (base : Nat) (t ty e : TypeId) (i : TypeInfo) (z : Value) (size bytes : Nat) (ht : P.underlying t = some (.slice e)) (hi : P.info? e = some i) (hz : i.zero = some z)
    (hsize : i.size = size) (hby : i.bytes = bytes) (hzs : z.cells.size = size) (hsz : 0 < size)
    (v : Value) (n : Nat) (xs : List Value) (hown : w.ownsRow base e size v n xs)
    (a : Addr) (m c : Nat) (news : List Value) (hl : news.length = m * size) (hnews : ∀ j u, news[j]? = some u → w.cell? (a.add j) = some u) (h1 : ∀ u ∈ news, u.oneCell' = true)
    (h63 : n + m ≤ maxLen) (hbytes : (n + m) * bytes ≤ 140737488355328) (hbase : base ≤ w.heap.size) :
    ∃ v' w', (Builtin.append_ #[t, t] ty #[v, .slice (some a) m c]).run P w = .ok v' w' ∧ w'.ownsRow base e size v' (n + m) (xs ++ news) ∧ w.grownBy w' v.ownBlock ∧ w'.ownsRow base e size v n xs := by
  obtain ⟨v', w', hr, h2, h3, -⟩ := run_append_own w base t ty e i z size bytes ht hi hz hsize hby hzs hsz v n xs hown a m c news hl hnews h1 h63 hbytes hbase
  refine ⟨v', w', hr, h2, h3, ?_⟩
  subst hsize
  subst hby
  rcases hown.2 with ⟨rfl, rfl⟩ | ⟨g, cap, cur, rfl, hbg, hg, hnc, hcm, hcs, htake⟩
  · have hx : xs = [] := List.eq_nil_of_length_eq_zero (by simpa using hown.1)
    subst hx
    exact World.ownsRow_nil _ _ _ _
  · have hgl : g < w.heap.size := by
      rcases Nat.lt_or_ge g w.heap.size with h | h
      · exact h
      · rw [Array.getElem?_eq_none h] at hg; cases hg
    by_cases hroom : n + m ≤ cap
    · have hfit : n * i.size + news.length ≤ cur.size := by rw [hl, hcs, ← Nat.add_mul]; exact Nat.mul_le_mul_right _ hroom
      have hr2 := run_append_room (P := P) w t ty e i ht hi g n cap cur hg a m c news hl hnews h1 hroom hfit
      have e2 := hr.symm.trans hr2
      cases e2
      refine ⟨hown.1, .inr ⟨g, cap, _, rfl, hbg, setRow_heap w g cur _ e _ hg, hnc, hcm, ?_, ?_⟩⟩
      · simp only [List.size_toArray, List.length_append, List.length_take, List.length_drop, Array.length_toList]
        omega
      · rw [List.append_assoc, List.take_append_of_le_length (by rw [List.length_take, Array.length_toList]; omega), List.take_take, Nat.min_self]
        exact htake
    · have holds : ∀ j u, xs[j]? = some u → w.cell? ((⟨g, 0, none⟩ : Addr).add j) = some u := hown.cells (g := g) rfl
      have hm' : n + m ≤ 9223372036854775807 := by simp only [maxLen] at h63; omega
      have hr2 := run_append_grow (P := P) w t ty e i z ht hi hz ⟨g, 0, none⟩ n cap xs hown.1 holds a m c news hl hnews (by omega) (by omega) (growslice_fits (by omega) hbytes)
      have e2 := hr.symm.trans hr2
      cases e2
      exact ⟨hown.1, .inr ⟨g, cap, cur, rfl, hbg, (heap_alloc_old w.drew _ hgl).trans hg, hnc, hcm, hcs, htake⟩⟩
theorem wpList_append_old {ops : Array Oper} {rest : List Oper} {o : Oper} {a : Act} {Q : Exit → Act → World → Prop} (hgd : o.guard = none) (s x : Operand) (t : TypeId)
    (ho : o.op = .call { callee := .builtin .append, args := #[s, x], argTypes := #[t, t] })
    (base : Nat) (e : TypeId) (i : TypeInfo) (z : Value) (size bytes : Nat) (ht : P.underlying t = some (.slice e)) (hi : P.info? e = some i) (hz : i.zero = some z)
    (hsize : i.size = size) (hby : i.bytes = bytes) (hzs : z.cells.size = size) (hsz : 0 < size)
    (v : Value) (n : Nat) (xs : List Value) (hs : a.eval s = v) (hown : w.ownsRow base e size v n xs)
    (ad : Addr) (m c : Nat) (news : List Value) (hx : a.eval x = .slice (some ad) m c) (hl : news.length = m * size) (hnews : ∀ j u, news[j]? = some u → w.cell? (ad.add j) = some u) (h1 : ∀ u ∈ news, u.oneCell' = true)
    (h63 : n + m ≤ maxLen) (hbytes : (n + m) * bytes ≤ 140737488355328) (hbase : base ≤ w.heap.size)
    (h : ∀ v' w', w'.ownsRow base e size v' (n + m) (xs ++ news) → w.grownBy w' v.ownBlock → w'.ownsRow base e size v n xs → wpList P ops Q rest (a.put o.dst v') w') : wpList P ops Q (o :: rest) a w := by
  refine wpList_plain hgd fun _ hK => ?_
  obtain ⟨v', w', hr, h2, h3, h4⟩ := run_append_old (P := P) w base t o.type e i z size bytes ht hi hz hsize hby hzs hsz v n xs hown ad m c news hl hnews h1 h63 hbytes hbase
  unfold Oper.wp execOp
  simp only [ho, resolve, invoke, builtin, Sem.run_bind, Sem.run_pure, Result.andThen_ok, List.map_toArray, List.map_cons, List.map_nil, hs, hx, hr]
  exact hK _ _ (h v' w' h2 h3 h4)
/-- at an operation with a guard that says yes -/
theorem wpList_append_own_if {ops : Array Oper} {rest : List Oper} {o : Oper} {a : Act} {Q : Exit → Act → World → Prop} (hgd : Region.wanted o (yielded ops a.tmps) = true) (s x : Operand) (t : TypeId)
    (ho : o.op = .call { callee := .builtin .append, args := #[s, x], argTypes := #[t, t] })
    (base : Nat) (e : TypeId) (i : TypeInfo) (z : Value) (size bytes : Nat) (ht : P.underlying t = some (.slice e)) (hi : P.info? e = some i) (hz : i.zero = some z)
    (hsize : i.size = size) (hby : i.bytes = bytes) (hzs : z.cells.size = size) (hsz : 0 < size)
    (v : Value) (n : Nat) (xs : List Value) (hs : a.eval s = v) (hown : w.ownsRow base e size v n xs)
    (ad : Addr) (m c : Nat) (news : List Value) (hx : a.eval x = .slice (some ad) m c) (hl : news.length = m * size) (hnews : ∀ j u, news[j]? = some u → w.cell? (ad.add j) = some u) (h1 : ∀ u ∈ news, u.oneCell' = true)
    (h63 : n + m ≤ maxLen) (hbytes : (n + m) * bytes ≤ 140737488355328) (hbase : base ≤ w.heap.size)
    (h : ∀ v' w', w'.ownsRow base e size v' (n + m) (xs ++ news) → w.grownBy w' v.ownBlock → (v' = .slice none 0 0 ↔ v = .slice none 0 0 ∧ m = 0) → wpList P ops Q rest (a.put o.dst v') w') : wpList P ops Q (o :: rest) a w :=
  wpList_step fun K hK => by
    rw [if_pos hgd]
    exact wp_append_own w s x t ho base e i z size bytes ht hi hz hsize hby hzs hsz v n xs hs hown ad m c news hx hl hnews h1 h63 hbytes hbase fun v' w' h2 h3 h4 => hK _ _ (h v' w' h2 h3 h4)
end
end Go.By
namespace Go.Proofs.YtbfmdfbnhakolaaGreatDoor
open Go.RowKit Go.By
/-- the vectors of that length -/
def likeL (n : Nat) (D : List Rw) : List (List UInt8) := (vecsL D).filter (fun x => decide (x.length = n))
theorem likeL_yes {n : Nat} {D : List Rw} {j : Nat} {x : Rw} (h : D[j]? = some x) (e : x.1.length = n) : likeL n (D.take (j + 1)) = likeL n (D.take j) ++ [x.1] := by
  unfold likeL; rw [vecsL_take h, List.filter_append, List.filter_cons_of_pos (by simpa using e)]; rfl
theorem likeL_no {n : Nat} {D : List Rw} {j : Nat} {x : Rw} (h : D[j]? = some x) (e : ¬ x.1.length = n) : likeL n (D.take (j + 1)) = likeL n (D.take j) := by
  unfold likeL; rw [vecsL_take h, List.filter_append, List.filter_cons_of_neg (by simpa using e), List.filter_nil, List.append_nil]
theorem likeL_len {n : Nat} {D : List Rw} : ∀ x, x ∈ likeL n D → x.length = n := fun x hx => by
  unfold likeL at hx; simpa using (List.mem_filter.1 hx).2
/-- the rows kept as they came -/
def kAr (rows : List (List UInt8)) : List Rw := rows.foldl (fun K r => keepF K (r, [])) []
theorem kAr_snoc (rows : List (List UInt8)) (r : List UInt8) : kAr (rows ++ [r]) = keepF (kAr rows) (r, []) := by unfold kAr; rw [List.foldl_append]; rfl
theorem kAr_take {rows : List (List UInt8)} {k : Nat} {r : List UInt8} (h : rows[k]? = some r) : kAr (rows.take (k + 1)) = keepF (kAr (rows.take k)) (r, []) := by
  have e : rows.take (k + 1) = rows.take k ++ [r] := by rw [List.take_add_one, h]; rfl
  rw [e, kAr_snoc]
theorem keepF_len9 (K : List Rw) (x : Rw) : (keepF K x).length ≤ K.length + 1 := by unfold keepF; split <;> simp
theorem kAr_kept {n : Nat} {rows : List (List UInt8)} (h : ∀ r, r ∈ rows → r.length = n) : ∀ k, Kept n 0 (kAr (rows.take k))
  | 0 => by simpa [kAr] using Kept.nil n 0
  | k + 1 => by
    by_cases hk : k < rows.length
    · rw [kAr_take (List.getElem?_eq_getElem hk)]
      exact (kAr_kept h k).step ⟨h _ (List.getElem_mem hk), rfl⟩
    · have e : rows.take (k + 1) = rows.take k := by rw [List.take_of_length_le (by omega), List.take_of_length_le (by omega)]
      rw [e]; exact kAr_kept h k
theorem kAr_len {n : Nat} {rows : List (List UInt8)} (h : ∀ r, r ∈ rows → r.length = n) : (kAr rows).length = (iK rows).length := rank_same rows h
theorem zeroS_lead (v : List UInt8) : zeroS v = decide (leadS v < 0) := by
  rcases leadS_cases v with ⟨h1, _, h3⟩ | ⟨l, x, e, h1, h2, _⟩
  · rw [h1]; unfold zeroS; rw [List.all_eq_true.2 (fun x hx => decide_eq_true (h3 x hx))]; rfl
  · rw [e]
    have : zeroS v = false := by unfold zeroS; rw [List.all_eq_false]; exact ⟨x, List.mem_of_getElem? h1, by simpa using h2⟩
    rw [this]; exact (decide_eq_false (by omega)).symm
/-- nothing is left just where the rank stays -/
theorem span_rank {n : Nat} {rows : List (List UInt8)} {v : List UInt8} (h : ∀ r, r ∈ rows → r.length = n) (hv : v.length = n) : zeroS (restF (kAr rows) (v, [])).1 = decide ((iK rows).length = (iK (rows ++ [v])).length) := by
  have h2 : ∀ r, r ∈ rows ++ [v] → r.length = n := fun r hr => by
    rcases List.mem_append.1 hr with h1 | h1
    · exact h r h1
    · rw [List.mem_singleton] at h1; rw [h1]; exact hv
  rw [zeroS_lead, ← kAr_len h, ← kAr_len h2, kAr_snoc]
  unfold keepF
  by_cases hl : leadS (restF (kAr rows) (v, [])).1 < 0
  · rw [if_pos hl, decide_eq_true hl, decide_eq_true rfl]
  · rw [if_neg hl, decide_eq_false hl, decide_eq_false (by rw [List.length_append]; simp)]
set_option maxRecDepth 100000 in
set_option maxHeartbeats 8000000 in
theorem Span_any (p q : Option Addr) (n c m d : Nat) (v : List UInt8) (D : List Rw) (w : World) (hv : Sl B8 w p n c v) (h : RwS w q m d D) (hn : n ≤ 20) (hm : m ≤ 30) :
    Calls Tryz.prog 9 #[.slice p n c, .slice q m d] w fun e w' => e = .returned (.bool (decide ((iK (likeL n D)).length = (iK (likeL n D ++ [v])).length))) ∧ Below w.heap.size w w' := by
  obtain ⟨r0, hr0, hrz, hr1, hr2⟩ := info_parts info_rows
  obtain ⟨s0, ks0, ksz, ks1, ks2⟩ := info_parts info_vrow
  have H := Lib.hid h; have HLEN := Lib.hid h.len; have HV := Lib.hid hv; have HVL := Lib.hid hv.len
  obtain ⟨R, hRd⟩ : ∃ R : Bool, R = zeroS (restF (kAr (likeL n D)) (v, [])).1 := ⟨_, rfl⟩
  have hRR := span_rank (rows := likeL n D) (v := v) likeL_len hv.len
  rw [← hRR, ← hRd]
  have HRD := Lib.hid hRd
  clear h hv hRR hRd
  go_enter Tryz.func9, Tryz.ntmps9
  go_wp2
  go_loopw [5, 16] (fun o i wr => ∃ (k j : Nat) (qo : Option Addr) (co : Nat), k ≤ m ∧ j ≤ k ∧ i = .int .i64 k ∧ o = .slice qo j co ∧ Hid (OwnH 23 w wr w.heap.size (.slice qo j co) j (likeL n (D.take k))) ∧ Hid (Below w.heap.size w wr)) (fun _ i _ => m - (intOf i).toNat)
  case atStart => exact ⟨0, 0, none, 0, Nat.zero_le _, Nat.zero_le _, rfl, rfl, by show OwnH _ _ _ _ _ _ (likeL n (D.take 0)); rw [List.take_zero]; exact OwnH.nil _ _ _ _, Below.refl _ _⟩
  case round =>
    obtain ⟨k, j, qo, co, hk, hjk, rfl, rfl, hO, hB⟩ := hrel
    by_cases hlt : k < m
    · have kn : (k : Int) < (m : Int) := by omega
      obtain ⟨x, hx⟩ : ∃ x, D[k]? = some x := ⟨_, List.getElem?_eq_getElem (by rw [HLEN.out]; exact hlt)⟩
      obtain ⟨b, o, q1, m1, c1, q2, m2, c2, rfl, d1, d2, s1, s2⟩ := H.out.row k x hx
      have D1 := (hB.out.cell (p := ⟨b, o + k * 2, none⟩) (lt_of_cell d1)).trans d1
      have D2 := (hB.out.cell (p := ⟨b, o + k * 2 + 1, none⟩) (lt_of_cell d2)).trans d2
      have S1 := Lib.hid s1
      have HX := Lib.hid hx
      have hsz := hB.out.size
      have hl1 := s1.len
      by_cases hmn : m1 = n
      · have hmb : ((m1 : Int) == (n : Int)) = true := by simp; omega
        have hmn' : (m1 : Int) = (n : Int) := by omega
        have HSTEP : Hid (likeL n (D.take (k + 1)) = likeL n (D.take k) ++ [x.1]) := likeL_yes hx (by omega)
        obtain ⟨vs, oA, lA, rA⟩ := hO.out
        have OA := Lib.hid oA; have LA := Lib.hid lA; have RA := Lib.hid rA
        have hvl : Hid (vs.length = j) := by show _ = _; have := oA.1; simpa using this
        have hO2 : Hid (∀ o1 o2, ((wr.alloc o1).alloc o2).ownsRow w.heap.size 23 1 (.slice qo j co) j vs) := fun o1 o2 => owns_keep OA.out (bl (al (Below.refl _ _) (Nat.le_refl _)) (al (Below.refl _ _) (Nat.le_refl _)) (by simp))
        clear d1 d2 s1 s2 hx oA lA rA hO hmn hl1
        obtain rfl : m1 = n := by omega
        clear hmn'
        go_wp2_with (at_builtin; refine wpList_append_own _ rfl _ _ 22 rfl w.heap.size 23 r0 (.slice none 0 0) 1 24 Tryz.underlying22 hr0 hrz hr1 hr2 rfl (by omega) _ j _ rfl (hO2.out _ _) ⟨wr.heap.size + 1, 0, none⟩ 1 1 [.slice q1 m1 c1] rfl rfl (one_cell' (by simp)) ?d2 ?d3 ?d4 ?d5 ?_)
        case d2 => intro y hy; simp at hy; subst hy; rfl
        case d3 => unfold maxLen; omega
        case d4 => omega
        case d5 => simp; omega
        intro v6 w6 ho6 hg6 _
        obtain ⟨q6, c6, rfl⟩ := owns_shape ho6
        have P6 : Hid (OwnH 23 w w6 w.heap.size (.slice q6 (j + 1) c6) (j + 1) (likeL m1 (D.take (k + 1))) ∧ Below w.heap.size w w6) := by
          refine ⟨?_, (al (al hB.out hsz) (by simp; omega)).grown hg6 (by simp; omega) (fun kk hk => (OA.out.lt kk hk).1)⟩
          rw [HSTEP.out]
          exact OwnH.push hvl.out LA.out RA.out S1.out ho6
        clear ho6 hg6 hO2 OA LA RA hvl hsz D1 D2 S1 hB
        go_wp2
        go_roundw
        case rel => exact ⟨k + 1, j + 1, q6, c6, by omega, by omega, by go_num, rfl, P6.out.1, P6.out.2⟩
        case measure => simp [intOf]; omega
      · have hmb : ((m1 : Int) == (n : Int)) = false := by simp; omega
        have HSTEP : Hid (likeL n (D.take (k + 1)) = likeL n (D.take k)) := likeL_no hx (by omega)
        have HO1 : Hid (∀ o1, OwnH 23 w (wr.alloc o1) w.heap.size (.slice qo j co) j (likeL n (D.take (k + 1)))) := fun o1 => by
          rw [HSTEP.out]
          obtain ⟨vs, oA, lA, rA⟩ := hO.out
          exact ⟨vs, owns_keep oA (ba1 _ _), lA, rA⟩
        have HB1 : Hid (∀ o1, Below w.heap.size w (wr.alloc o1)) := fun o1 => al hB.out hsz
        clear d1 d2 s1 s2 hx hO hB hl1
        go_wp2
        go_roundw
        case rel => exact ⟨k + 1, j, qo, co, by omega, by omega, by go_num, rfl, HO1.out _, HB1.out _⟩
        case measure => simp [intOf]; omega
    · obtain rfl : k = m := by omega
      have hge : (k : Int) ≤ (k : Int) := Int.le_refl _
      rename World => wN
      obtain ⟨L, hLd⟩ : ∃ L, L = likeL n D := ⟨_, rfl⟩
      have HLL : Hid (∀ x, x ∈ L → x.length = n) := by rw [hLd]; exact likeL_len
      have HTK : Hid (D.take k = D) := List.take_of_length_le (by rw [HLEN.out]; exact Nat.le_refl _)
      rw [HTK.out, ← hLd] at hO
      rw [← hLd] at HRD
      have hsz := hB.out.size
      obtain ⟨vs, oA, lA, rA⟩ := hO.out
      have OA := Lib.hid oA; have LA := Lib.hid lA; have RA := Lib.hid rA
      have hvl : Hid (vs.length = j) := by show _ = _; have := oA.1; simpa using this
      have hO2 : Hid (∀ o1, (wN.alloc o1).ownsRow w.heap.size 23 1 (.slice qo j co) j vs) := fun o1 => owns_keep OA.out (al (Below.refl _ _) (Nat.le_refl _))
      clear oA lA rA hO hLd hlt HTK H HLEN
      go_wp2_with (at_builtin; refine wpList_append_old _ rfl _ _ 22 rfl w.heap.size 23 r0 (.slice none 0 0) 1 24 Tryz.underlying22 hr0 hrz hr1 hr2 rfl (by omega) _ j _ rfl (hO2.out _) ⟨wN.heap.size, 0, none⟩ 1 1 [.slice p n c] rfl rfl (one_cell' rfl) ?d2 ?d3 ?d4 ?d5 ?_)
      case d2 => intro y hy; simp at hy; subst hy; rfl
      case d3 => unfold maxLen; omega
      case d4 => omega
      case d5 => simp; omega
      intro v6 w6 ho6 hg6 hold
      obtain ⟨q6, c6, rfl⟩ := owns_shape ho6
      have B6 : Hid (Below w.heap.size w w6) := (al hB.out hsz).grown hg6 (by simp; omega) (fun kk hk => (OA.out.lt kk hk).1)
      have P6 : Hid (Sl2 w6 q6 (j + 1) c6 (L ++ [v])) := (OwnH.push hvl.out LA.out RA.out HV.out ho6).sl2 B6.out
      have Q6 : Hid (Sl2 w6 qo j co L) := OwnH.sl2 (T2 := 23) (base := w.heap.size) ⟨vs, hold, LA.out, RA.out⟩ B6.out
      clear ho6 hg6 hold hO2 OA LA RA hvl hB
      have HGO : Hid (∀ W, Sl2 W q6 (j + 1) c6 (L ++ [v]) → Calls Tryz.prog 21 #[.int .i64 n, .slice q6 (j + 1) c6] W (RetG2 5 W (j + 1) n (L ++ [v]).flatten 0)) := fun W h =>
        GOf_good n q6 (j + 1) c6 _ W h (by omega) (by omega) (by have : (j + 1) * n ≤ 31 * 20 := Nat.mul_le_mul (by omega) hn; omega) (by
          rw [List.all_eq_true]
          intro y hy
          rcases List.mem_append.1 hy with h1 | h1
          · exact decide_eq_true (HLL.out y h1)
          · rw [List.mem_singleton] at h1; subst h1; exact decide_eq_true HVL.out)
      go_wp2_with fail
      refine Calls.mono (HGO.out w6 P6.out) ?_
      rintro e w7 ⟨q8, n8, c8, -, rfl, -, hb⟩
      have B7 : Hid (Below w.heap.size w w7) := bl B6.out hb B6.out.size
      have Q7 := Lib.hid (Q6.out.keep hb)
      clear hb B6 P6 Q6 HGO
      have B8' : Hid (Below w.heap.size w (w7.alloc (.cells #[.int .i64 ((j : Int) + 1), .int .i64 n, .slice q8 n8 c8] 59))) := al B7.out B7.out.size
      have Q8 : Hid (Sl2 (w7.alloc (.cells #[.int .i64 ((j : Int) + 1), .int .i64 n, .slice q8 n8 c8] 59)) qo j co L) := Q7.out.keep (ba1 _ _)
      clear B7 Q7
      go_wp2
      generalize w7.alloc (.cells #[.int .i64 ((j : Int) + 1), .int .i64 n, .slice q8 n8 c8] 59) = w8 at *
      have HKK : Hid (∀ k, Kept n 0 (kAr (L.take k))) := kAr_kept HLL.out
      have HKN : Hid (∀ k, (kAr (L.take k)).length ≤ k) := fun k => by
        induction k with
        | zero => simp [kAr]
        | succ k ih =>
          by_cases hk : k < L.length
          · rw [kAr_take (List.getElem?_eq_getElem hk)]; exact Nat.le_trans (keepF_len9 _ _) (Nat.succ_le_succ ih)
          · have e : L.take (k + 1) = L.take k := by rw [List.take_of_length_le (by omega), List.take_of_length_le (by omega)]
            rw [e]; omega
      have HLj : Hid (L.length = j) := Q8.out.len
      go_loopw [10, 46] (fun kept iv wr => ∃ (i nk : Nat) (qk : Option Addr) (ck : Nat), i ≤ j ∧ nk ≤ i ∧ iv = .int .i64 i ∧ kept = .slice qk nk ck ∧ Hid (RwL 46 5 wr w8.heap.size (.slice qk nk ck) nk (kAr (L.take i))) ∧ Hid (Below w8.heap.size w8 wr)) (fun _ iv _ => j - (intOf iv).toNat)
      case atStart => exact ⟨0, 0, none, 0, Nat.zero_le _, Nat.zero_le _, rfl, rfl, by show RwL _ _ _ _ _ _ (kAr (L.take 0)); rw [List.take_zero]; exact RwL.nil _ _ _ _, Below.refl _ _⟩
      case round =>
        obtain ⟨i, nk, qk, ck, hi, hnk, rfl, rfl, hK, hB⟩ := hrel
        by_cases hij : i < j
        · have ijn : (i : Int) < (j : Int) := by omega
          obtain ⟨b, o, ql, ml, cl, l, rfl, hc, hs, hx⟩ := (Q8.out.keep hB.out).at i hij
          have hll := hs.len
          obtain rfl : n = ml := by rw [HLL.out l (List.mem_of_getElem? hx.out)] at hll; exact hll
          have HS := Lib.hid hs
          have HSU : Hid (kAr (L.take (i + 1)) = keepF (kAr (L.take i)) (l, [])) := kAr_take hx.out
          have HKi := Lib.hid (HKK.out i)
          obtain ⟨K, hKd⟩ : ∃ K, K = kAr (L.take i) := ⟨_, rfl⟩
          rw [← hKd] at HSU hK HKi
          have hsz := hB.out.size
          clear hs hll hKd
          go_wp2_with fail
          refine Calls.mono (left_any ql _ n cl nk ck l K wr HS.out hK.out.rwS (fun r hr => (HKi.out.rows r hr).1) (by unfold Room; omega) (by omega)) ?_
          rintro e wa ⟨q1, g1, q2, g2, rfl, s1, s2, hb⟩
          obtain ⟨LF, hLF⟩ : ∃ LF, LF = restF K (l, []) := ⟨_, rfl⟩
          have fitX : Fit n 0 LF := by rw [hLF]; exact Fit.rest (fun r hr => (HKi.out.rows r hr).1) ⟨HS.out.len, rfl⟩
          rw [← hLF] at s1 s2
          have hsucc : Hid (kAr (L.take (i + 1)) = if leadS LF.1 < 0 then K else K ++ [normS LF]) := by show _ = _; rw [HSU.out, hLF]; rfl
          have S1 := Lib.hid s1; have S2 := Lib.hid s2
          have Ba : Hid (Below w8.heap.size w8 wa) := bl hB.out hb hsz
          have Ka := Lib.hid (hK.out.keep hb)
          have hsza : w8.heap.size ≤ wa.heap.size := Ba.out.size
          have hzero := zeroS_lead LF.1
          clear hc hb s1 s2 hB hK hLF HS HSU fitX hsz
          by_cases hneg : leadS LF.1 < 0
          · rw [decide_eq_true hneg] at hzero
            have HZ : Hid (∀ W, Sl B8 W q1 n g1 LF.1 → Calls Tryz.prog 23 #[.slice q1 n g1] W fun e w' => e = .returned (.bool true) ∧ W = w') := fun W h => by have := VZero_any _ _ _ LF.1 W h; rwa [hzero] at this
            have hs2 : Hid (kAr (L.take (i + 1)) = K) := by show _ = _; rw [hsucc.out, if_pos hneg]
            clear hzero hneg hsucc
            go_wp2_with fail
            refine Calls.mono (HZ.out _ (S1.out.keep (ba1 _ _))) ?_
            rintro e w' ⟨rfl, rfl⟩
            have Kb : Hid (RwL 46 5 (wa.alloc (.cells #[.slice q1 n g1, .slice q2 0 g2] 46)) w8.heap.size (.slice qk nk ck) nk (kAr (L.take (i + 1)))) := by rw [hs2.out]; exact Ka.out.keep (ba1 _ _)
            have Bb : Hid (Below w8.heap.size w8 (wa.alloc (.cells #[.slice q1 n g1, .slice q2 0 g2] 46))) := al Ba.out hsza
            clear Ka Ba S1 S2 HZ
            go_wp2
            go_roundw
            case rel => exact ⟨i + 1, nk, qk, ck, by omega, by omega, by go_num, rfl, Kb.out, Bb.out⟩
            case measure => simp [intOf]; omega
          · rw [decide_eq_false hneg] at hzero
            have HZ : Hid (∀ W, Sl B8 W q1 n g1 LF.1 → Calls Tryz.prog 23 #[.slice q1 n g1] W fun e w' => e = .returned (.bool false) ∧ W = w') := fun W h => by have := VZero_any _ _ _ LF.1 W h; rwa [hzero] at this
            have hs2 : Hid (kAr (L.take (i + 1)) = K ++ [normS LF]) := by show _ = _; rw [hsucc.out, if_neg hneg]
            clear hzero hneg hsucc
            go_wp2_with fail
            refine Calls.mono (HZ.out _ (S1.out.keep (ba1 _ _))) ?_
            rintro e w' ⟨rfl, rfl⟩
            go_wp2_with fail
            refine Calls.mono (Norm_any q1 q2 n g1 0 g2 LF.1 LF.2 _ (S1.out.keep (ba1 _ _)) (S2.out.keep (ba1 _ _)) (by unfold Room; omega) (by unfold Room; omega)) ?_
            rintro e w5 ⟨q5, m5, g5, q6, m6, g6, l5, l6, rfl, o5, o6, hb5⟩
            have hba : Below wa.heap.size wa w5 := bl (ba1 wa _) hb5 (ba1 wa _).size
            have B5 : Hid (Below w8.heap.size w8 w5) := bl Ba.out hba hsza
            have K5 := Ka.out.keep hba
            have hs5 : w8.heap.size ≤ w5.heap.size := B5.out.size
            have O1 : Hid (Bw 5 w5 w8.heap.size (.slice q5 m5 g5) (normS LF).1) := ⟨q5, m5, g5, rfl, l5.out, owns_mono o5 (by simp; omega)⟩
            have O2 : Hid (Bw 5 w5 w8.heap.size (.slice q6 m6 g6) (normS LF).2) := ⟨q6, m6, g6, rfl, l6.out, owns_mono o6 (by simp; omega)⟩
            obtain ⟨us, la, lb, lo, lr⟩ := K5
            have BAL : Hid (∀ o, Below w5.heap.size w5 (w5.alloc o)) := fun o => al (Below.refl _ _) (Nat.le_refl _)
            have LO : Hid (∀ o, (w5.alloc o).ownsRow w8.heap.size 46 2 (.slice qk nk ck) nk (fl2 us)) := fun o => owns_keep lo (BAL.out o)
            have LR : Hid (∀ o (j : Nat) (u : Value × Value), us[j]? = some u → ∃ k, K[j]? = some k ∧ Bw 5 (w5.alloc o) w8.heap.size u.1 k.1 ∧ Bw 5 (w5.alloc o) w8.heap.size u.2 k.2) := fun o jj u hj => by
              obtain ⟨kk, g1, g2, g3⟩ := lr jj u hj
              exact ⟨kk, g1, g2.keep (BAL.out o), g3.keep (BAL.out o)⟩
            have LA := Lib.hid la; have LB := Lib.hid lb
            clear lo lr la lb o5 o6 hb5 hba l5 l6 Ka Ba S1 S2 HZ
            go_wp2_with (at_builtin; refine wpList_append_lies _ rfl (.tmp 57) (.tmp 60) 27 rfl w8.heap.size 46 s0 (.agg #[.slice none 0 0, .slice none 0 0]) 2 48 Tryz.underlying27 ks0 ksz ks1 ks2 rfl (by omega) (.slice qk nk ck) nk (fl2 us) rfl (LO.out _) ⟨w5.heap.size, 0, none⟩ 1 1 [.slice q5 m5 g5, .slice q6 m6 g6] rfl rfl (two_cells rfl) (two_ones _ _ _ _ _ _) (by omega) (by unfold maxLen; omega) (by omega) (by simp; omega) _ rfl ?_)
            intro gl cl' w9 ho9 hg9 hat9 hlt9
            have L9 : Hid (RwL 46 5 w9 w8.heap.size (.slice (some ⟨gl, 0, none⟩) (nk + 1) cl') (nk + 1) (kAr (L.take (i + 1)))) := by
              rw [hs2.out]
              exact RwL.push LA.out LB.out (LO.out _) (LR.out _) (by decide) (O1.out.keep (BAL.out _)) (O2.out.keep (BAL.out _)) ho9 hg9
            have B9 : Hid (Below w8.heap.size w8 w9) := (al B5.out hs5).grown hg9 (by simp; omega) (fun kk hk => ((LO.out (.cells #[.slice q5 m5 g5, .slice q6 m6 g6] 46)).lt kk hk).1)
            clear ho9 hg9 hat9 hlt9 O1 O2 LO LR LA LB BAL B5
            go_wp2
            go_roundw
            case rel => exact ⟨i + 1, nk + 1, _, _, by omega, by omega, by go_num, rfl, L9.out, B9.out⟩
            case measure => simp [intOf]; omega
        · obtain rfl : i = j := by omega
          have hge2 : (i : Int) ≤ (i : Int) := Int.le_refl _
          have HKF : Hid (RwL 46 5 wr w8.heap.size (.slice qk nk ck) nk (kAr L)) := by
            have h := hK.out
            rwa [List.take_of_length_le (by rw [HLj.out]; exact Nat.le_refl _)] at h
          have HKi : Hid (Kept n 0 (kAr L)) := by
            have h := HKK.out i
            rwa [List.take_of_length_le (by rw [HLj.out]; exact Nat.le_refl _)] at h
          have Bw8 : Hid (Below w.heap.size w wr) := bl B8'.out hB.out B8'.out.size
          clear hK hB hij
          go_wp2_with fail
          refine Calls.mono (left_any p qk n c nk ck v (kAr L) wr (HV.out.keep Bw8.out) HKF.out.rwS (fun r hr => (HKi.out.rows r hr).1) (by unfold Room; omega) (by omega)) ?_
          rintro e wa ⟨q1, g1, q2, g2, rfl, s1, s2, hb⟩
          have Ba : Hid (Below w.heap.size w wa) := bl Bw8.out hb Bw8.out.size
          have S1 := Lib.hid s1
          have HZ : Hid (∀ W, Sl B8 W q1 n g1 (restF (kAr L) (v, [])).1 → Calls Tryz.prog 23 #[.slice q1 n g1] W fun e w' => e = .returned (.bool R) ∧ W = w') := fun W h => by rw [HRD.out]; exact VZero_any _ _ _ _ W h
          have hfd : ∀ W, (Instr.field 46 (.agg #[.slice q1 n g1, .slice q2 0 g2]) 0).run Tryz.prog W = .ok (.slice q1 n g1) W := fun _ => by kernel_rfl
          clear s1 s2 hb
          go_wp2_with fail
          refine Calls.mono (HZ.out _ S1.out) ?_
          rintro e w' ⟨rfl, rfl⟩
          clear HZ S1
          go_wp2
          go_ret
          exact ⟨rfl, Ba.out⟩
end Go.Proofs.YtbfmdfbnhakolaaGreatDoor
namespace Go.Proofs.YtbfmdfbnhakolaaGreatDoor
open Go.RowKit Go.By
theorem hold1_ref {S : List (List UInt8)} {x : Rw} (h1 : S.length = x.1.length) (h2 : ∀ s, s ∈ S → s.length = x.2.length) : hold1 S x = decide ((combS x.1 S).1 = x.2) := by
  have hn : (noughtS S).2 = 0 := by
    cases S with
    | nil => rfl
    | cons s l =>
      show (if ((s :: l).all fun y => decide (y.length = s.length)) = true then (List.replicate s.length (0 : UInt8), (0 : Int)) else ([], 4)).2 = 0
      rw [if_pos]
      rw [List.all_eq_true]
      intro y hy
      exact decide_eq_true ((h2 y hy).trans (h2 s (by simp)).symm)
  have hc : (combS x.1 S).2 = 0 := by unfold combS; rw [if_pos h1.symm, if_pos hn]
  unfold hold1
  rw [List.all_eq_true.2 (fun s hs => decide_eq_true (h2 s hs)), decide_eq_true hc, Bool.true_and, Bool.true_and]
theorem hold1_few {S : List (List UInt8)} {x : Rw} (h : ¬ S.length = x.1.length) : hold1 S x = false := by
  have hc : (combS x.1 S).2 = 4 := by unfold combS; rw [if_neg (fun e => h e.symm)]
  unfold hold1
  rw [hc, show decide ((4 : Int) = 0) = false from rfl, Bool.false_and, Bool.and_false]
theorem hold1_uneven {S : List (List UInt8)} {x : Rw} {s : List UInt8} (hs : s ∈ S) (h : ¬ s.length = x.2.length) : hold1 S x = false := by
  unfold hold1
  have : S.all (fun s => decide (s.length = x.2.length)) = false := by
    rw [List.all_eq_false]; exact ⟨s, hs, by simpa using h⟩
  rw [this, Bool.false_and]
theorem all_out {α : Type} {f : α → Bool} {D : List α} {x : α} (hx : x ∈ D) (h : f x = false) : D.all f = false := by
  rw [List.all_eq_false]; exact ⟨x, hx, by rw [h]; simp⟩
set_option maxRecDepth 100000 in
set_option maxHeartbeats 4000000 in
theorem RHolds_any (p q : Option Addr) (k c m d : Nat) (S : List (List UInt8)) (D : List Rw) (w : World) (h : Sl2 w p k c S) (hD : RwS w q m d D) (hR : ∀ x, x ∈ D → Room x.2.length) :
    Calls Tryz.prog 8 #[.slice p k c, .slice q m d] w fun e w' => e = .returned (.bool (D.all (hold1 S))) ∧ Below w.heap.size w w' := by
  have hkb := h.bound
  have hmb : m ≤ 9223372036854775807 := by have h1 := hD.le; have h2 := hD.max; unfold maxLen at h2; omega
  have H := Lib.hid h; have HD := Lib.hid hD; have HSL := Lib.hid h.len; have HDL := Lib.hid hD.len; have HR := Lib.hid hR
  obtain ⟨R, hRd⟩ : ∃ R : Bool, R = D.all (hold1 S) := ⟨_, rfl⟩
  rw [← hRd]
  have HRD := Lib.hid hRd
  clear h hD hR hRd
  go_enter Tryz.func8, Tryz.ntmps8
  go_wp2
  go_loopw [13] (fun iv wr => ∃ i : Nat, i ≤ m ∧ iv = .int .i64 i ∧ Hid (∀ (j : Nat) (x : Rw), j < i → D[j]? = some x → hold1 S x = true) ∧ Hid (Below w.heap.size w wr)) (fun iv _ => m - (intOf iv).toNat)
  case atStart => exact ⟨0, Nat.zero_le _, rfl, fun j x hj => by omega, Below.refl _ _⟩
  case round =>
    obtain ⟨i, hi, rfl, hA, hB⟩ := hrel
    by_cases hlt : i < m
    · have kn : (i : Int) < (m : Int) := by omega
      obtain ⟨x, hx⟩ : ∃ x, D[i]? = some x := ⟨_, List.getElem?_eq_getElem (by rw [HDL.out]; exact hlt)⟩
      obtain ⟨b, o, q1, m1, c1, q2, m2, c2, rfl, d1, d2, s1, s2⟩ := (HD.out.keep hB.out).row i x hx
      have S1 := Lib.hid s1; have S2 := Lib.hid s2; have HX := Lib.hid hx
      have l1 := s1.len; have l2 := s2.len
      have hb1 := s1.bound; have hb2 := s2.bound
      have hsz := hB.out.size
      have HNX : Hid (hold1 S x = true → ∀ (j : Nat) (y : Rw), j < i + 1 → D[j]? = some y → hold1 S y = true) := fun ht j y hj hy => by
        rcases Nat.lt_or_ge j i with h | h
        · exact hA.out j y h hy
        · obtain rfl : j = i := by omega
          rw [hx] at hy; cases hy; exact ht
      have HRF : Hid (hold1 S x = false → R = false) := fun hf => by rw [HRD.out]; exact all_out (List.mem_of_getElem? hx) hf
      have BA : Hid (∀ o, Below w.heap.size w (wr.alloc o)) := fun o => al hB.out hsz
      by_cases hk1 : k = m1
      · have hkb' : ((k : Int) != (m1 : Int)) = false := by simp; omega
        have HXS : Hid (S.length = x.1.length) := by show _ = _; rw [l1, HSL.out]; exact hk1
        have L2 := Lib.hid l2
        obtain ⟨W1, hW1⟩ : ∃ W1, W1 = wr.alloc (.cells #[.slice q1 m1 c1, .slice q2 m2 c2] 50) := ⟨_, rfl⟩
        have K1 : Hid (BlkIs wr.heap.size (.cells #[.slice q1 m1 c1, .slice q2 m2 c2] 50) W1) := by rw [hW1]; exact hnew rfl
        have B1 : Hid (Below w.heap.size w W1) := by rw [hW1]; exact BA.out _
        have T1 : Hid (Sl B8 W1 q1 m1 c1 x.1) := by rw [hW1]; exact S1.out.keep (ba1 _ _)
        have T2 : Hid (Sl B8 W1 q2 m2 c2 x.2) := by rw [hW1]; exact S2.out.keep (ba1 _ _)
        have bx : wr.heap.size < W1.heap.size := blk_lt K1.out
        obtain rfl := hk1
        clear s1 s2 l1 l2 hx hA S1 S2 hlt
        go_wp2
        rw [← hW1]
        clear hW1 d1 d2 hB BA
        obtain ⟨bw, hbw⟩ : ∃ bw, bw = wr.heap.size := ⟨_, rfl⟩
        rw [← hbw] at K1 bx hsz ⊢
        clear hbw
        have v1 : W1.cell? ⟨bw, 1, none⟩ = some (.slice q2 m2 c2) := cell_of_row _ _ 1 _ _ _ K1.out
        have v0 : W1.cell? ⟨bw, 0, none⟩ = some (.slice q1 k c1) := cell_of_row _ _ 0 _ _ _ K1.out
        go_loopw [25] (fun jv wq => ∃ t : Nat, t ≤ k ∧ jv = .int .i64 t ∧ Hid (∀ (j : Nat) (s : List UInt8), j < t → S[j]? = some s → s.length = m2) ∧ wq = W1) (fun jv _ => k - (intOf jv).toNat)
        case atStart => exact ⟨0, Nat.zero_le _, rfl, fun j s hj => by omega, rfl⟩
        case round =>
          obtain ⟨t, ht, rfl, hE, rfl⟩ := hrel
          by_cases htk : t < k
          · have tn : (t : Int) < (k : Int) := by omega
            obtain ⟨b', o', qs, ms, cs, s, rfl, hc, hs, hsx⟩ := (H.out.keep B1.out).at t htk
            have hsl := hs.len
            have hsb := hs.bound
            by_cases hm : ms = m2
            · have hmb' : ((ms : Int) != (m2 : Int)) = false := by simp; omega
              have HE2 : Hid (∀ (j : Nat) (s : List UInt8), j < t + 1 → S[j]? = some s → s.length = m2) := fun j y hj hy => by
                rcases Nat.lt_or_ge j t with h | h
                · exact hE.out j y h hy
                · obtain rfl : j = t := by omega
                  rw [hsx.out] at hy; cases hy; omega
              clear hs hsl hm hE
              go_wp2
              go_roundw
              case rel => exact ⟨t + 1, by omega, by go_num, HE2.out, trivial⟩
              case measure => simp [intOf]; omega
            · have hmb' : ((ms : Int) != (m2 : Int)) = true := by simp; omega
              have HF : Hid (R = false) := HRF.out (hold1_uneven (List.mem_of_getElem? hsx.out) (by rw [hsl, L2.out]; exact hm))
              clear hs hsl hm hE
              go_wp2
              go_ret
              exact ⟨by rw [HF.out]; rfl, B1.out⟩
          · obtain rfl : t = k := by omega
            have htn : (t : Int) ≤ (t : Int) := Int.le_refl _
            have HAL : Hid (∀ s, s ∈ S → s.length = x.2.length) := fun s hs => by
              obtain ⟨j, hj, rfl⟩ := List.mem_iff_getElem.1 hs
              rw [L2.out]
              exact hE.out j _ (by have := HSL.out; omega) (List.getElem?_eq_getElem hj)
            have HH : Hid (hold1 S x = decide ((combS x.1 S).1 = x.2)) := hold1_ref HXS.out HAL.out
            clear hE htk
            go_wp2_with fail
            refine Calls.mono (RComb_any q1 p t t c1 c x.1 S _ T1.out (H.out.keep B1.out) (fun s hs => by rw [HAL.out s hs]; exact HR.out x (List.mem_of_getElem? HX.out))) ?_
            rintro e w2 ⟨qq, mq, dq, -, rfl, ho, hb⟩
            have B2 : Hid (Below w.heap.size w w2) := bl B1.out hb B1.out.size
            have K2 : Hid (BlkIs bw (.cells #[.slice q1 t c1, .slice q2 m2 c2] 50) w2) := K1.out.keep hb
            have U1 := Lib.hid (Sl.of_owns ho)
            have U2 := Lib.hid (T2.out.keep hb)
            clear ho hb v0 v1 K1 T1 T2 B1
            have v1 : w2.cell? ⟨bw, 1, none⟩ = some (.slice q2 m2 c2) := cell_of_row _ _ 1 _ _ _ K2.out
            go_wp2_with fail
            refine Calls.mono (Same_any qq q2 mq m2 dq c2 _ x.2 _ U1.out U2.out) ?_
            rintro e w3 ⟨rfl, hb⟩
            have B3 : Hid (Below w.heap.size w w3) := bl B2.out hb B2.out.size
            rw [← HH.out]
            clear hb v1 K2 U1 U2 B2
            cases hx1 : hold1 S x with
            | true =>
              have HN := Lib.hid (HNX.out hx1)
              clear hx1 HH
              go_wp2
              go_roundw
              case rel => exact ⟨i + 1, by omega, by go_num, HN.out, B3.out⟩
              case measure => simp [intOf]; omega
            | false =>
              have HF := Lib.hid (HRF.out hx1)
              clear hx1 HH
              go_wp2
              go_ret
              exact ⟨by rw [HF.out]; rfl, B3.out⟩
      · have hkb' : ((k : Int) != (m1 : Int)) = true := by simp; omega
        have HF : Hid (R = false) := HRF.out (hold1_few (by rw [HSL.out, l1]; exact hk1))
        clear s1 s2 l1 l2 hx hA hk1 hB hlt
        go_wp2
        go_ret
        exact ⟨by rw [HF.out]; rfl, BA.out _⟩
    · obtain rfl : i = m := by omega
      have HT : Hid (R = true) := by
        show _ = _
        rw [HRD.out, List.all_eq_true]
        intro y hy
        obtain ⟨j, hj, rfl⟩ := List.mem_iff_getElem.1 hy
        exact hA.out j _ (by have := HDL.out; omega) (List.getElem?_eq_getElem hj)
      have BF := Lib.hid hB.out
      have hge : (i : Int) ≤ (i : Int) := Int.le_refl _
      clear hA hB hlt
      go_wp2
      go_ret
      exact ⟨by rw [HT.out]; rfl, BF.out⟩
end Go.Proofs.YtbfmdfbnhakolaaGreatDoor
namespace Go.Proofs.YtbfmdfbnhakolaaGreatDoor
open Go.RowKit Go.By
set_option maxRecDepth 100000 in
set_option maxHeartbeats 4000000 in
theorem SH_skip (p1 p2 p : Option Addr) (k c1 n c2 m c : Nat) (L : List Rw) (w : World) (h : RwS w p m c L) (hT : Tab w) (hb1 : k ≤ 9223372036854775807) (hb2 : n ≤ 9223372036854775807) (hs : few8 m L = false ∨ 30 < k ∨ 20 < n) :
    Calls Tryz.prog 3 #[.slice p1 k c1, .slice p2 n c2, .slice p m c] w fun e w' => e = .returned (.bool true) ∧ Below w.heap.size w w' := by
  have H := Lib.hid h; have HT := Lib.hid hT
  clear h hT
  obtain ⟨F, hF⟩ : ∃ F, F = few8 m L := ⟨_, rfl⟩
  have HF := Lib.hid hF
  rw [← hF] at hs
  clear hF
  go_enter Tryz.func3, Tryz.ntmps3
  go_wp2_with fail
  refine Calls.mono (awake09 _ HT.out) ?_
  rintro e w1 ⟨rfl, hb⟩
  have B1 := Lib.hid hb
  clear hb
  go_wp2_with fail
  refine Calls.mono (Few8_any p m c L _ (H.out.keep B1.out)) ?_
  rintro e w2 ⟨rfl, hb⟩
  have B2 : Hid (Below w.heap.size w w2) := bl B1.out hb B1.out.size
  rw [← HF.out]
  clear hb B1 H HF HT
  cases F with
  | false =>
    clear hs
    go_wp2
    go_ret
    exact ⟨rfl, B2.out⟩
  | true =>
    have hs' : 30 < k ∨ 20 < n := hs.resolve_left (by decide)
    clear hs
    by_cases h1 : 30 < k
    · have h1' : (30 : Int) < (k : Int) := by omega
      clear hs'
      go_wp2
      go_ret
      exact ⟨rfl, B2.out⟩
    · have h1' : (k : Int) ≤ 30 := by omega
      have h2' : (20 : Int) < (n : Int) := by omega
      clear hs' h1
      go_wp2
      go_ret
      exact ⟨rfl, B2.out⟩
set_option maxRecDepth 100000 in
set_option maxHeartbeats 8000000 in
theorem SH_main (p1 p2 p : Option Addr) (k c1 n c2 m c : Nat) (S : List (List UInt8)) (v : List UInt8) (L : List Rw) (w : World) (h1 : Sl2 w p1 k c1 S) (h2 : Sl B8 w p2 n c2 v) (h : RwS w p m c L) (hT : Tab w) (hf : few8 m L = true) (hm : m ≤ 30) (hk : k ≤ 30) (hn : n ≤ 20) (hl : ∀ x, x ∈ L → x.1.length ≤ 20 ∧ x.2.length ≤ 20) :
    Calls Tryz.prog 3 #[.slice p1 k c1, .slice p2 n c2, .slice p m c] w fun e w' => e = .returned (.bool true) ∧ Below w.heap.size w w' := by
  obtain ⟨r0, hr0, hrz, hr1, hr2⟩ := info_parts info_rows
  have H := Lib.hid h; have HT := Lib.hid hT; have HF := Lib.hid hf; have HL := Lib.hid hl; have H1 := Lib.hid h1; have H2 := Lib.hid h2; have HLEN := Lib.hid h.len; have HVL := Lib.hid h2.len
  have k1 : (k : Int) ≤ 30 := by omega
  have n1 : (n : Int) ≤ 20 := by omega
  clear h hT hf hl h1 h2
  go_enter Tryz.func3, Tryz.ntmps3
  go_wp2_with fail
  refine Calls.mono (awake09 _ HT.out) ?_
  rintro e w1 ⟨rfl, hb⟩
  have B1 := Lib.hid hb
  clear hb HT
  go_wp2_with fail
  refine Calls.mono (Few8_any p m c L _ (H.out.keep B1.out)) ?_
  rintro e w2 ⟨rfl, hb⟩
  have B2 : Hid (Below w.heap.size w w2) := bl B1.out hb B1.out.size
  rw [HF.out]
  clear hb B1 HF
  go_wp2_with fail
  refine Calls.mono (Rows9_any p m c L _ (H.out.keep B2.out) (by omega) (fun x hx => by have := HL.out x hx; unfold Room; omega)) ?_
  rintro e w3 ⟨qa, ca, qb, cb, rfl, ha, hbb, hb⟩
  have B3 : Hid (Below w.heap.size w w3) := bl B2.out hb B2.out.size
  have RA := Lib.hid ha; have RB := Lib.hid hbb
  clear hb B2 ha hbb k1 n1
  go_wp2
  go_loopw [9, 34] (fun o i wr => ∃ (i' j : Nat) (qo : Option Addr) (co : Nat), i' ≤ m ∧ j ≤ i' ∧ i = .int .i64 i' ∧ o = .slice qo j co ∧ Hid (OwnH 23 w3 wr w3.heap.size (.slice qo j co) j (likeL n (L.take i'))) ∧ Hid (Below w3.heap.size w3 wr)) (fun _ i _ => m - (intOf i).toNat)
  case atStart => exact ⟨0, 0, none, 0, Nat.zero_le _, Nat.zero_le _, rfl, rfl, by show OwnH _ _ _ _ _ _ (likeL n (L.take 0)); rw [List.take_zero]; exact OwnH.nil _ _ _ _, Below.refl _ _⟩
  case round =>
    obtain ⟨i, j, qo, co, hi, hji, rfl, rfl, hO, hB⟩ := hrel
    by_cases hlt : i < m
    · have kn : (i : Int) < (m : Int) := by omega
      obtain ⟨x, hx⟩ : ∃ x, L[i]? = some x := ⟨_, List.getElem?_eq_getElem (by rw [HLEN.out]; exact hlt)⟩
      obtain ⟨b, o, q1, m1, g1, q2, m2, g2, rfl, d1, d2, s1, s2⟩ := (H.out.keep B3.out).row i x hx
      have D1 := (hB.out.cell (p := ⟨b, o + i * 2, none⟩) (lt_of_cell d1)).trans d1
      have D2 := (hB.out.cell (p := ⟨b, o + i * 2 + 1, none⟩) (lt_of_cell d2)).trans d2
      have S1 := Lib.hid s1
      have HX := Lib.hid hx
      have hsz := hB.out.size
      have hl1 := s1.len
      by_cases hmn : m1 = n
      · have hmb : ((m1 : Int) == (n : Int)) = true := by simp; omega
        have HSTEP : Hid (likeL n (L.take (i + 1)) = likeL n (L.take i) ++ [x.1]) := likeL_yes hx (by omega)
        obtain ⟨vs, oA, lA, rA⟩ := hO.out
        have OA := Lib.hid oA; have LA := Lib.hid lA; have RA' := Lib.hid rA
        have hvl : Hid (vs.length = j) := by show _ = _; have := oA.1; simpa using this
        have hO2 : Hid (∀ o1 o2, ((wr.alloc o1).alloc o2).ownsRow w3.heap.size 23 1 (.slice qo j co) j vs) := fun o1 o2 => owns_keep OA.out (bl (al (Below.refl _ _) (Nat.le_refl _)) (al (Below.refl _ _) (Nat.le_refl _)) (by simp))
        clear d1 d2 s1 s2 hx oA lA rA hO hl1
        obtain rfl : m1 = n := hmn
        go_wp2_with (at_builtin; refine wpList_append_own _ rfl _ _ 22 rfl w3.heap.size 23 r0 (.slice none 0 0) 1 24 Tryz.underlying22 hr0 hrz hr1 hr2 rfl (by omega) _ j _ rfl (hO2.out _ _) ⟨wr.heap.size + 1, 0, none⟩ 1 1 [.slice q1 m1 g1] rfl rfl (one_cell' (by simp)) ?d2 ?d3 ?d4 ?d5 ?_)
        case d2 => intro y hy; simp at hy; subst hy; rfl
        case d3 => unfold maxLen; omega
        case d4 => omega
        case d5 => simp; omega
        intro v6 w6 ho6 hg6 _
        obtain ⟨q6, c6, rfl⟩ := owns_shape ho6
        have P6 : Hid (OwnH 23 w3 w6 w3.heap.size (.slice q6 (j + 1) c6) (j + 1) (likeL m1 (L.take (i + 1))) ∧ Below w3.heap.size w3 w6) := by
          refine ⟨?_, (al (al hB.out hsz) (by simp; omega)).grown hg6 (by simp; omega) (fun kk hk => (OA.out.lt kk hk).1)⟩
          rw [HSTEP.out]
          exact OwnH.push hvl.out LA.out RA'.out S1.out ho6
        clear ho6 hg6 hO2 OA LA RA' hvl hsz D1 D2 S1 hB
        go_wp2
        go_roundw
        case rel => exact ⟨i + 1, j + 1, q6, c6, by omega, by omega, by go_num, rfl, P6.out.1, P6.out.2⟩
        case measure => simp [intOf]; omega
      · have hmb : ((m1 : Int) == (n : Int)) = false := by simp; omega
        have HSTEP : Hid (likeL n (L.take (i + 1)) = likeL n (L.take i)) := likeL_no hx (by omega)
        have HO1 : Hid (∀ o1, OwnH 23 w3 (wr.alloc o1) w3.heap.size (.slice qo j co) j (likeL n (L.take (i + 1)))) := fun o1 => by
          rw [HSTEP.out]
          obtain ⟨vs, oA, lA, rA⟩ := hO.out
          exact ⟨vs, owns_keep oA (ba1 _ _), lA, rA⟩
        have HB1 : Hid (∀ o1, Below w3.heap.size w3 (wr.alloc o1)) := fun o1 => al hB.out hsz
        clear d1 d2 s1 s2 hx hO hB hl1
        go_wp2
        go_roundw
        case rel => exact ⟨i + 1, j, qo, co, by omega, by omega, by go_num, rfl, HO1.out _, HB1.out _⟩
        case measure => simp [intOf]; omega
    · obtain rfl : i = m := by omega
      have hge : (i : Int) ≤ (i : Int) := Int.le_refl _
      rename World => wN
      obtain ⟨K, hKd⟩ : ∃ K, K = likeL n L := ⟨_, rfl⟩
      have HLL : Hid (∀ x, x ∈ K → x.length = n) := by rw [hKd]; exact likeL_len
      have HTK : Hid (L.take i = L) := List.take_of_length_le (by rw [HLEN.out]; exact Nat.le_refl _)
      rw [HTK.out, ← hKd] at hO
      obtain ⟨R, hR⟩ : ∃ R : Bool, R = L.all (hold1 S) := ⟨_, rfl⟩
      obtain ⟨A1, hA1⟩ : ∃ A1 : Nat, A1 = (iK K).length := ⟨_, rfl⟩
      obtain ⟨A2, hA2⟩ : ∃ A2 : Nat, A2 = (iK (K ++ [v])).length := ⟨_, rfl⟩
      have HH : Hid (∀ W, Sl2 W p1 k c1 S → RwS W qa i ca L → Calls Tryz.prog 7 #[.slice p1 k c1, .slice qa i ca] W fun e w' => e = .returned (.bool R) ∧ Below W.heap.size W w') := fun W a b => by
        rw [hR]; exact Holds_any p1 qa k c1 i ca S L W a b (fun x hx => by have := HL.out x hx; unfold Room; omega)
      have HRH : Hid (∀ W, Sl2 W p1 k c1 S → RwS W qb i cb L → Calls Tryz.prog 8 #[.slice p1 k c1, .slice qb i cb] W fun e w' => e = .returned (.bool R) ∧ Below W.heap.size W w') := fun W a b => by
        rw [hR]; exact RHolds_any p1 qb k c1 i cb S L W a b (fun x hx => by have := HL.out x hx; unfold Room; omega)
      have HSP : Hid (∀ W, Sl B8 W p2 n c2 v → RwS W qa i ca L → Calls Tryz.prog 9 #[.slice p2 n c2, .slice qa i ca] W fun e w' => e = .returned (.bool (decide (A1 = A2))) ∧ Below W.heap.size W w') := fun W a b => by
        have := Span_any p2 qa n c2 i ca v L W a b hn hm
        rwa [← hKd, ← hA1, ← hA2] at this
      have HK1 : Hid (∀ W, Sl2 W qo j co K → Calls Tryz.prog 10 #[.slice qo j co] W fun e w' => e = .returned (.int .i64 A1) ∧ Below W.heap.size W w') := fun W a => by
        rw [hA1]; exact RRank_any n qo j co K W a HLL.out (by unfold Room; omega) (by omega)
      have HK2 : Hid (∀ W q c, Sl2 W q (j + 1) c (K ++ [v]) → Calls Tryz.prog 10 #[.slice q (j + 1) c] W fun e w' => e = .returned (.int .i64 A2) ∧ Below W.heap.size W w') := fun W q c a => by
        rw [hA2]; exact RRank_any n q (j + 1) c (K ++ [v]) W a (fun x hx => by
          rcases List.mem_append.1 hx with h | h
          · exact HLL.out x h
          · rw [List.mem_singleton] at h; rw [h]; exact HVL.out) (by unfold Room; omega) (by omega)
      have BN : Hid (Below w.heap.size w wN) := bl B3.out hB.out B3.out.size
      have RAN := Lib.hid (RA.out.keep hB.out); have RBN := Lib.hid (RB.out.keep hB.out)
      have ON := Lib.hid hO.out
      have B3N := Lib.hid hB.out
      clear hO hB hKd hR hA1 hA2 HTK hlt RA RB
      go_wp2_with fail
      refine Calls.mono (HH.out _ (H1.out.keep BN.out) RAN.out) ?_
      rintro e w4 ⟨rfl, hb⟩
      have B4 : Hid (Below w.heap.size w w4) := bl BN.out hb BN.out.size
      have RA4 := Lib.hid (RAN.out.keep hb); have RB4 := Lib.hid (RBN.out.keep hb)
      have B34 : Hid (Below w3.heap.size w3 w4) := bl B3N.out hb B3N.out.size
      have O4 : Hid (OwnH 23 w3 w4 w3.heap.size (.slice qo j co) j K) := by
        obtain ⟨vs, oA, lA, rA⟩ := ON.out
        exact ⟨vs, owns_keep oA hb, lA, rA⟩
      clear hb BN RAN RBN B3N ON HH
      go_wp2_with fail
      refine Calls.mono (HRH.out _ (H1.out.keep B4.out) RB4.out) ?_
      rintro e w5 ⟨rfl, hb⟩
      have B5 : Hid (Below w.heap.size w w5) := bl B4.out hb B4.out.size
      have RA5 := Lib.hid (RA4.out.keep hb)
      have B35 : Hid (Below w3.heap.size w3 w5) := bl B34.out hb B34.out.size
      have O5 : Hid (OwnH 23 w3 w5 w3.heap.size (.slice qo j co) j K) := by
        obtain ⟨vs, oA, lA, rA⟩ := O4.out
        exact ⟨vs, owns_keep oA hb, lA, rA⟩
      have hRR : (R == R) = true := by simp
      clear hb B4 RA4 RB4 B34 O4 HRH
      go_wp2_with fail
      refine Calls.mono (HSP.out _ (H2.out.keep B5.out) RA5.out) ?_
      rintro e w6 ⟨rfl, hb⟩
      have B6 : Hid (Below w.heap.size w w6) := bl B5.out hb B5.out.size
      have B36 : Hid (Below w3.heap.size w3 w6) := bl B35.out hb B35.out.size
      have O6 : Hid (OwnH 23 w3 w6 w3.heap.size (.slice qo j co) j K) := by
        obtain ⟨vs, oA, lA, rA⟩ := O5.out
        exact ⟨vs, owns_keep oA hb, lA, rA⟩
      clear hb B5 RA5 B35 O5 HSP hRR
      obtain ⟨Z, hZ⟩ : ∃ Z : Bool, Z = decide (A1 = A2) := ⟨_, rfl⟩
      rw [← hZ]
      have HZ := Lib.hid hZ
      clear hZ
      go_wp2_with fail
      refine Calls.mono (HK1.out _ (O6.out.sl2 B36.out)) ?_
      rintro e w7 ⟨rfl, hb⟩
      have B7 : Hid (Below w.heap.size w w7) := bl B6.out hb B6.out.size
      have B37 : Hid (Below w3.heap.size w3 w7) := bl B36.out hb B36.out.size
      obtain ⟨vs, oA, lA, rA⟩ := O6.out
      have OA := Lib.hid (owns_keep oA hb); have LA := Lib.hid lA; have RA := Lib.hid rA
      have hvl : Hid (vs.length = j) := by show _ = _; have := oA.1; simpa using this
      have hO2 : Hid (∀ o1, (w7.alloc o1).ownsRow w3.heap.size 23 1 (.slice qo j co) j vs) := fun o1 => owns_keep OA.out (al (Below.refl _ _) (Nat.le_refl _))
      have hsz7 := B37.out.size
      clear hb B6 B36 O6 HK1 oA lA rA
      go_wp2_with (at_builtin; refine wpList_append_own_if _ (by rfl) _ _ 22 rfl w3.heap.size 23 r0 (.slice none 0 0) 1 24 Tryz.underlying22 hr0 hrz hr1 hr2 rfl (by omega) _ j _ rfl (hO2.out _) ⟨w7.heap.size, 0, none⟩ 1 1 [.slice p2 n c2] rfl rfl (one_cell' rfl) ?d2 ?d3 ?d4 ?d5 ?_)
      case d2 => intro y hy; simp at hy; subst hy; rfl
      case d3 => unfold maxLen; omega
      case d4 => omega
      case d5 => simp; omega
      intro v8 w8 ho8 hg8 _
      obtain ⟨q8, c8, rfl⟩ := owns_shape ho8
      have B38 : Hid (Below w3.heap.size w3 w8) := (al B37.out hsz7).grown hg8 (by simp; omega) (fun kk hk => (OA.out.lt kk hk).1)
      have P8 : Hid (Sl2 w8 q8 (j + 1) c8 (K ++ [v])) := (OwnH.push hvl.out LA.out RA.out (H2.out.keep B3.out) ho8).sl2 B38.out
      have B8' : Hid (Below w.heap.size w w8) := bl B3.out B38.out B3.out.size
      clear ho8 hg8 hO2 OA LA RA hvl B7 B37
      go_wp2_with fail
      refine Calls.mono (HK2.out _ _ _ P8.out) ?_
      rintro e w9 ⟨rfl, hb⟩
      have B9 : Hid (Below w.heap.size w w9) := bl B8'.out hb B8'.out.size
      clear hb P8 HK2 B8' B38
      have HZZ : Hid (((Z : Bool) == ((A1 : Int) == (A2 : Int))) = true) := by
        show _ = _
        rw [HZ.out]
        by_cases e : A1 = A2
        · subst e; simp
        · have : ¬ (A1 : Int) = (A2 : Int) := by omega
          simp [e, this]
      go_wp2
      go_ret
      exact ⟨by rw [← HZZ.out]; rfl, B9.out⟩
theorem SolveHolds_any (p1 : Option Addr) (k c1 : Nat) (S : List (List UInt8)) (p2 : Option Addr) (n c2 : Nat) (v : List UInt8) (p : Option Addr) (m c : Nat) (L : List Rw) (w : World) (h1 : Sl2 w p1 k c1 S) (h2 : Sl B8 w p2 n c2 v) (h : RwS w p m c L) (hT : Tab w) :
    Calls Tryz.prog 3 #[.slice p1 k c1, .slice p2 n c2, .slice p m c] w fun e w' => e = .returned (.bool true) ∧ Below w.heap.size w w' := by
  by_cases hs : few8 m L = false ∨ 30 < k ∨ 20 < n
  · exact SH_skip p1 p2 p k c1 n c2 m c L w h hT h1.bound h2.bound hs
  · have hf : few8 m L = true := by
      cases hx : few8 m L with
      | true => rfl
      | false => exact absurd (.inl hx) hs
    obtain ⟨hm, hl⟩ := few8_parts hf
    exact SH_main p1 p2 p k c1 n c2 m c S v L w h1 h2 h hT hf hm (by omega) (by omega) hl
end Go.Proofs.YtbfmdfbnhakolaaGreatDoor
namespace Go.By
open Go.RowKit
theorem byte_of_wf {a : Int} (h : (Lit.int .u8 a).wf = true) : ∃ x : UInt8, Value.int .u8 a = B8 x ∧ a = (x.toNat : Int) := by
  have hb := bounds_u8 h
  have e : a = ((UInt8.ofNat a.toNat).toNat : Int) := by simp; omega
  exact ⟨UInt8.ofNat a.toNat, B8_congr e, e⟩
theorem sl_of_row {w : World} {a : Option Addr} {len cap : Nat} {zs : List Int}
    (h : (a = none ∧ len = 0 ∧ cap = 0 ∧ zs = []) ∨ ∃ x, a = some x ∧ len ≤ cap ∧ cap ≤ maxLen ∧ zs.length = cap ∧ (∀ i, i < zs.length → w.cell? (x.add i) = some (.int .u8 (zs.getD i 0))) ∧ ∀ n ∈ zs, (Lit.int .u8 n).wf = true) :
    ∃ xs, Sl B8 w a len cap xs := by
  rcases h with ⟨rfl, rfl, rfl, _⟩ | ⟨x, rfl, hl, hm, hz, hc, hw⟩
  · exact ⟨[], Sl.nil0 _ _⟩
  · refine ⟨(zs.take len).map fun z => UInt8.ofNat z.toNat, ⟨by simp; omega, hl, hm, fun h => by simp at h, ?_⟩⟩
    intro i hi
    have hi' : i < zs.length := by simp at hi; omega
    obtain ⟨b, o, hx, hc'⟩ := ints_at hc (by omega)
    refine ⟨b, o, by rw [hx], ?_⟩
    have hh := hc i hi'
    rw [hx, Addr.add_lit] at hh
    rw [hh]
    have e : zs.getD i 0 = zs[i] := by simp [hi']
    rw [e]
    have hb := bounds_u8 (hw _ (List.getElem_mem hi'))
    simp
    omega
end Go.By
namespace Go.By
open Go.RowKit
theorem spot_none {w : World} {x : Addr} {v : Value} (h : w.cell? (x.add 0) = some v) : ∃ b o, x = ⟨b, o, none⟩ := by
  obtain ⟨b, off, spot⟩ := x
  have hspot : spot = none := by simpa [Addr.add] using World.cell?_spot h
  subst hspot
  exact ⟨b, off, rfl⟩
theorem sl2_of_rows {w : World} {a : Option Addr} {len cap : Nat} (hl : len ≤ cap) (hm : cap ≤ maxLen) (hn : a = none → len = 0 ∧ cap = 0) (A : Nat → Option Addr) (L C : Nat → Nat) (Z : Nat → List Int)
    (h : ∀ x, a = some x → ∀ r, r < cap → w.cell? (x.add r) = some (.slice (A r) (L r) (C r)) ∧ L r ≤ C r ∧ C r ≤ maxLen ∧ (Z r).length = C r ∧ (∀ n ∈ Z r, (Lit.int .u8 n).wf = true) ∧ (A r = none → C r = 0) ∧
        ∀ a', A r = some a' → ∀ c, c < C r → w.cell? (a'.add c) = some (.int .u8 ((Z r).getD c 0))) : ∃ xss, Sl2 w a len cap xss := by
  have each : ∀ r, ∃ xs, r < len → Sl B8 w (A r) (L r) (C r) xs := by
    intro r
    by_cases hr : r < len
    · cases ha : a with
      | none => have := hn ha; omega
      | some x =>
        obtain ⟨_, h1, h2, h3, h4, h5, h6⟩ := h x ha r (by omega)
        cases hA : A r with
        | none =>
          have := h5 hA
          have hL : L r = 0 := by omega
          exact ⟨[], fun _ => by rw [hL, this]; exact Sl.nil0 _ _⟩
        | some a' =>
          obtain ⟨xs, hx⟩ := sl_of_row (w := w) (a := some a') (len := L r) (cap := C r) (zs := Z r) (.inr ⟨a', rfl, h1, h2, h3, fun i hi => h6 a' hA i (by omega), h4⟩)
          exact ⟨xs, fun _ => hx⟩
    · exact ⟨[], fun h => absurd h hr⟩
  refine ⟨(List.range len).map fun r => Classical.choose (each r), ⟨by simp, hl, hm, hn, ?_⟩⟩
  intro i xs hi
  obtain ⟨hi', e⟩ := List.getElem?_eq_some_iff.1 hi
  simp at hi' e
  have hs := Classical.choose_spec (each i) hi'
  rw [e] at hs
  cases ha : a with
  | none => have := hn ha; omega
  | some x =>
    obtain ⟨hc, _⟩ := h x ha i (by omega)
    obtain ⟨b, o, rfl⟩ := spot_none (h x ha 0 (by omega)).1
    rw [Addr.add_lit] at hc
    exact ⟨b, o, A i, C i, rfl, by rw [hs.len]; exact hc, by rw [hs.len]; exact hs⟩
end Go.By
namespace Go.Proofs.YtbfmdfbnhakolaaGreatDoor
open Go.RowKit Go.By
theorem tab_of {d32 : DataW Unit} {rest : List (String × DataW Unit)} {W : World} (h : laidMet Tryz.prog (("math/bits.deBruijn32tab", d32) :: ("math/bits.deBruijn64tab", Rows.laid_math_bits_deBruijn64tab) :: rest) W) : Tab W := by
  obtain ⟨zs, hz⟩ : ∃ zs : List Int, (Rows.laid_math_bits_deBruijn64tab : DataW Unit) = Lib.tabData .u8 zs ∧ zs.length = 64 ∧ zs.getD 15 0 = 4 := ⟨[0, 1, 56, 2, 57, 49, 28, 3, 61, 58, 42, 50, 38, 29, 17, 4, 62, 47, 59, 36, 45, 43, 51, 22, 53, 39, 33, 30, 24, 18, 12, 5, 63, 55, 48, 27, 60, 41, 37, 16, 46, 35, 44, 21, 52, 32, 23, 11, 54, 26, 40, 15, 34, 20, 31, 10, 25, 14, 19, 9, 13, 8, 7, 6], rfl, rfl, rfl⟩
  have h2 := laidMet.tail h
  rw [hz.1] at h2
  have h3 := Lib.tabIs_of_head (g := 3) (t := 162) (e := 5) (n := 64) (by kernel_rfl) (by kernel_rfl) (by kernel_rfl) (by kernel_rfl) (by kernel_rfl) (by kernel_rfl) h2
  have := h3.cell (g := 3) (by kernel_rfl) 15 (by omega)
  rw [hz.2.2] at this
  exact this
end Go.Proofs.YtbfmdfbnhakolaaGreatDoor
namespace Go.Proofs.YtbfmdfbnhakolaaGreatDoor
open Go.RowKit Go.By Go.ChangeShapes Go.WideShapes Go.Deep
section
variable {H : Type} {enc : TypeId × Value → H} {P : Program} {w : World} {base : Nat} {held : Bool}
theorem trod_struct2 {t : TypeId} {f0 f1 : Field} {fuel : Nat} {cs : List Value} {x : DataW H × List MemPlace} {spare : Nat → Bool} (ht : P.underlying t = some (.struct #[f0, f1])) (h : DataW.trod enc P w base spare held fuel t cs = some x) :
    ∃ y0 y1 n, cs.length = P.cellsOf t ∧ DataW.trod enc P w base spare held n f0.type ((cs.drop f0.offset).take (P.cellsOf f0.type)) = some y0 ∧
      DataW.trod enc P w base spare held n f1.type ((cs.drop f1.offset).take (P.cellsOf f1.type)) = some y1 := by
  obtain ⟨xs, n, _, rfl, hl, hlen, hf⟩ := DataW.trod_struct ht h
  match xs, hlen with
  | [y0, y1], _ => exact ⟨y0, y1, n, hl, by simpa using hf 0 f0 rfl, by simpa using hf 1 f1 rfl⟩
theorem list2 {α : Type} {cs : List α} (h : cs.length = 2) : ∃ c0 c1, cs = [c0, c1] := by
  match cs, h with
  | [c0, c1], _ => exact ⟨c0, c1, rfl⟩
theorem open_bytes1 {t q : TypeId} {fuel : Nat} {c4 : Value} {x : DataW H × List MemPlace} (h4 : P.underlying t = some (.slice q)) (hq : P.underlying q = some (.int .u8)) (cq : P.cellsOf q = 1) (g4 : DataW.trod enc P w base (fun _ => true) held fuel t [c4] = some x) : ∃ p m c bs, c4 = .slice p m c ∧ Sl B8 w p m c bs := by
  rcases open_ints h4 hq cq g4 with ⟨hcs, _⟩ | ⟨x, l, c, zs, hcs, _, hl, hm, hz, _, hcell, hwz⟩
  · simp at hcs
    exact ⟨none, 0, 0, [], hcs, Sl.nil0 _ _⟩
  · simp at hcs
    obtain ⟨xs, hx⟩ := sl_of_row (.inr ⟨_, rfl, hl, hm, by simpa using hz, hcell, hwz⟩)
    exact ⟨_, _, _, xs, hcs, hx⟩
/-- one, cell by cell -/
theorem open_one {t q : TypeId} {f0 f1 : Field} {fuel : Nat} {cs : List Value} {x : DataW H × List MemPlace} (ht : P.underlying t = some (.struct #[f0, f1])) (hone : oneCellFields P #[f0, f1] = true) (hC : P.cellsOf t = 2)
    (h0 : P.underlying f0.type = some (.slice q)) (h1 : P.underlying f1.type = some (.slice q)) (hq : P.underlying q = some (.int .u8)) (cq : P.cellsOf q = 1)
    (h : DataW.trod enc P w base (fun _ => true) held fuel t cs = some x) :
    ∃ (r : List UInt8 × List UInt8) (p1 : Option Addr) (m1 c1 : Nat) (p2 : Option Addr) (m2 c2 : Nat), cs = [.slice p1 m1 c1, .slice p2 m2 c2] ∧ Sl B8 w p1 m1 c1 r.1 ∧ Sl B8 w p2 m2 c2 r.2 := by
  obtain ⟨y0, y1, n, hl, g0, g1⟩ := trod_struct2 ht h
  obtain ⟨c0, c1, rfl⟩ := list2 (hl.trans hC)
  obtain ⟨o0, k0⟩ := hone_of hone 0 f0 rfl
  obtain ⟨o1, k1⟩ := hone_of hone 1 f1 rfl
  rw [o0, k0] at g0; rw [o1, k1] at g1
  obtain ⟨p1, m1, d1, b1, rfl, s1⟩ := open_bytes1 h0 hq cq g0
  obtain ⟨p2, m2, d2, b2, rfl, s2⟩ := open_bytes1 h1 hq cq g1
  exact ⟨(b1, b2), p1, m1, d1, p2, m2, d2, rfl, s1, s2⟩
theorem open_ones {t e q : TypeId} {f0 f1 : Field} {fuel : Nat} {cs : List Value} {x : DataW H × List MemPlace} (ht : P.underlying t = some (.slice e)) (he : P.underlying e = some (.struct #[f0, f1])) (hone : oneCellFields P #[f0, f1] = true) (hC : P.cellsOf e = 2)
    (h0 : P.underlying f0.type = some (.slice q)) (h1 : P.underlying f1.type = some (.slice q)) (hq : P.underlying q = some (.int .u8)) (cq : P.cellsOf q = 1)
    (h : DataW.trod enc P w base (fun _ => true) held fuel t cs = some x) : ∃ p n c K, cs = [.slice p n c] ∧ RwS w p n c K := by
  rcases open_slice ht h with ⟨hcs, _⟩ | ⟨a, len, cap, m, n, D, Pl, rfl, hb, hl, hm, hmm, rfl, hx⟩
  · exact ⟨none, 0, 0, [], hcs, RwS.nil0 _⟩
  simp only [if_true] at hmm
  have hmm' := hmm.symm
  subst hmm'
  have hsp : 0 < len → a.spot = none := fun h => by
    obtain ⟨cs', hc, htr⟩ := hx 0 (by omega)
    obtain ⟨y, p, m', c', p2, m2, c2, rfl, -⟩ := open_one he hone hC h0 h1 hq cq htr
    obtain ⟨_, _, hcell⟩ := World.cells?_some hc
    have z0 := hcell 0 (by omega)
    simpa [Addr.add] using World.cell?_spot (z0.trans rfl)
  have each : ∀ k, k < len → ∃ y : List UInt8 × List UInt8, ∃ b o q1 m1 c1 q2 m2 c2, a = ⟨b, o, none⟩ ∧ w.cell? ⟨b, o + k * 2, none⟩ = some (.slice q1 m1 c1) ∧ w.cell? ⟨b, o + k * 2 + 1, none⟩ = some (.slice q2 m2 c2) ∧ Sl B8 w q1 m1 c1 y.1 ∧ Sl B8 w q2 m2 c2 y.2 := by
    intro k hk
    obtain ⟨cs', hc, htr⟩ := hx k (by omega)
    obtain ⟨y, p, m', c', p2, m2, c2, rfl, s1, s2⟩ := open_one he hone hC h0 h1 hq cq htr
    obtain ⟨_, _, hcell⟩ := World.cells?_some hc
    rw [hC] at hcell
    obtain ⟨b, o, spot⟩ := a
    have z0 := hcell 0 (by omega)
    have hspot : spot = none := hsp (by omega)
    subst hspot
    have z1 := hcell 1 (by omega)
    simp only [add_plain] at z0 z1
    exact ⟨y, b, o, p, m', c', p2, m2, c2, rfl, z0, z1, s1, s2⟩
  obtain ⟨f, hf⟩ : ∃ f : Nat → List UInt8 × List UInt8, ∀ k, k < len → ∃ b o q1 m1 c1 q2 m2 c2, a = ⟨b, o, none⟩ ∧ w.cell? ⟨b, o + k * 2, none⟩ = some (.slice q1 m1 c1) ∧ w.cell? ⟨b, o + k * 2 + 1, none⟩ = some (.slice q2 m2 c2) ∧ Sl B8 w q1 m1 c1 (f k).1 ∧ Sl B8 w q2 m2 c2 (f k).2 :=
    ⟨fun k => if hk : k < len then Classical.choose (each k hk) else ([], []), fun k hk => by simp only [dif_pos hk]; exact Classical.choose_spec (each k hk)⟩
  refine ⟨some a, len, cap, (List.range len).map f, rfl, ⟨by simp, hl, hm, fun h => (by cases h), fun k y hk => ?_⟩⟩
  rw [List.getElem?_map] at hk
  cases hr : (List.range len)[k]? with
  | none => rw [hr] at hk; simp at hk
  | some k' =>
    rw [hr] at hk
    obtain ⟨hk1, hk2⟩ := List.getElem?_eq_some_iff.1 hr
    simp at hk1 hk2 hk
    subst hk2; subst hk
    obtain ⟨b, o, q1, m1, c1, q2, m2, c2, e, r⟩ := hf k hk1
    exact ⟨b, o, q1, m1, c1, q2, m2, c2, by rw [e], r⟩
end
end Go.Proofs.YtbfmdfbnhakolaaGreatDoor
