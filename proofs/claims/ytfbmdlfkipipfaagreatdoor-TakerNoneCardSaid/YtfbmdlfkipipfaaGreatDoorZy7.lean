/- What the laws of grids carry along from call to call. The contract of the reference's without. The contract of the reference's Det. Plain laws of GridRanks: ranks of turned grids and products, determinants, inverses of inverses. Plain law of ElimSolves: equations that symbols solve. Plain law: packets of one object. They never clash; the rows are as many as the rank of the vectors that came; full rows have the object. A sender while others turn; two takers beside each other. Of a plan that may not be there is no gate, no taker, no relay; a plan that may be as numbers. A region that draws its order, by shapes, by what holds of the world as operations run, and by ties between slots. Two slices of headers, each grown by one in a region that draws its order. A plan of an object; ranks of combinations; rows of headers of new bytes while others turn. Chapter 19: the law's awake. Chapter 19: TakerNone. The table of the sum, out of the row's condition. -/
import Derived.Test.YtfbmdlfkipipfaaGreatDoorZy6
import Derived.Test.YtfbmdlfkipipfaaGreatDoorRows
import Derived.Lib.LaidTab
namespace Go.Proofs.YtfbmdlfkipipfaaGreatDoor
open Go.RowKit Go.By
end Go.Proofs.YtfbmdlfkipipfaaGreatDoor
namespace Go.Proofs.YtfbmdlfkipipfaaGreatDoor
open Go.RowKit Go.By
end Go.Proofs.YtfbmdlfkipipfaaGreatDoor
namespace Go.Proofs.YtfbmdlfkipipfaaGreatDoor
open Go.RowKit Go.By Gf
end Go.Proofs.YtfbmdlfkipipfaaGreatDoor
namespace Go.Proofs.YtfbmdlfkipipfaaGreatDoor
open Go.RowKit Go.By Gf
end Go.Proofs.YtfbmdlfkipipfaaGreatDoor
namespace Go.Proofs.YtfbmdlfkipipfaaGreatDoor
open Go.RowKit Go.By Gf
end Go.Proofs.YtfbmdlfkipipfaaGreatDoor
namespace Go.By
end Go.By
namespace Go.Proofs.YtfbmdlfkipipfaaGreatDoor
open Go.RowKit Go.By Gf
end Go.Proofs.YtfbmdlfkipipfaaGreatDoor
namespace Go.By
open Go.RowKit Go.Maps Go.Proofs.YtfbmdlfkipipfaaGreatDoor
section
variable {w w' : World} {base gt be L t k D N : Nat} {M v : Value} {C : DataW Unit} {K : List Rw} {st : Nat}
theorem TChg.owns (h : TChg w w' gt be v) (hT : Tkr w base gt be L t k D N M v C K st) {b2 T e n : Nat} {v2 : Value} {ys : List Value} (ho : w.ownsRow b2 T e v2 n ys) (h1 : T ≠ 126) (h2 : T ≠ 201) (h3 : ∀ g, v2.ownBlock = some g → v.ownBlock ≠ some g) : w'.ownsRow b2 T e v2 n ys := by
  refine owns_same ho h.size fun g2 hg2 => ?_
  rcases ho.2 with ⟨e1, _⟩ | ⟨g', cap, cur, e1, _, hh, _⟩
  · rw [e1] at hg2; cases hg2
  · have h4 := h3 g2 hg2
    rw [e1] at hg2; cases hg2
    refine h.block _ (lt_of_block hh) (fun e => ?_) (fun e => ?_) h4
    · have := hT.box; rw [← e, hh] at this; injection this with this; injection this with _ this _; exact h1 this
    · have := hT.elm.box; rw [← e, hh] at this; injection this with this; injection this with _ this _; exact h2 this
theorem tkr_owns_ne {b2 T e n : Nat} {v2 : Value} {ys : List Value} (hT : Tkr w base gt be L t k D N M v C K st) (ho : w.ownsRow b2 T e v2 n ys) (h : 139 ≠ T) : ∀ g, v2.ownBlock = some g → v.ownBlock ≠ some g := by
  intro g hg
  rcases ho.2 with ⟨e1, _⟩ | ⟨g', cap, cur, e1, _, hh, _⟩
  · rw [e1] at hg; cases hg
  · rw [e1] at hg; cases hg
    exact hT.elm.rows.ne_box hh h
theorem TChg.bw (h : TChg w w' gt be v) (hT : Tkr w base gt be L t k D N M v C K st) {b : Nat} {u : Value} {xs : List UInt8} (hu : Bw 5 w b u xs) : Bw 5 w' b u xs := by
  obtain ⟨q, m, c, e, l, o⟩ := hu
  exact ⟨q, m, c, e, l, h.owns hT o (by decide) (by decide) (tkr_owns_ne hT o (by decide))⟩
theorem TChg.rwl (h : TChg w w' gt be v) (hT : Tkr w base gt be L t k D N M v C K st) {b2 n2 : Nat} {v2 : Value} {K2 : List Rw} (h2 : RwL 139 5 w b2 v2 n2 K2) (hne : ∀ g, v2.ownBlock = some g → v.ownBlock ≠ some g) : RwL 139 5 w' b2 v2 n2 K2 := by
  obtain ⟨vs, a, b, o, r⟩ := h2
  exact ⟨vs, a, b, h.owns hT o (by decide) (by decide) hne, fun j u hj => by obtain ⟨x, hk, g1, g2⟩ := r j u hj; exact ⟨x, hk, h.bw hT g1, h.bw hT g2⟩⟩
theorem TChg.cnt (h : TChg w w' gt be v) (hT : Tkr w base gt be L t k D N M v C K st) {M2 : Value} {N2 : Nat} {C2 : DataW Unit} (hc : CntM w M2 N2 C2) : CntM w' M2 N2 C2 := by
  refine ⟨?_, hc.small⟩
  rcases hc.at_ with h1 | ⟨b, e, ho⟩
  · exact .inl h1
  · refine .inr ⟨b, e, ?_⟩
    have hlt := ho.lt
    obtain ⟨es, clock, h1, F, hs, hD⟩ := ho
    refine ⟨es, clock, (h.block b hlt (fun e => ?_) (fun e => ?_) (fun e => ?_)).trans h1, F, hs, hD⟩
    · have := hT.box; rw [← e, h1] at this; cases this
    · have := hT.elm.box; rw [← e, h1] at this; cases this
    · obtain ⟨vs, _, _, o, _⟩ := hT.elm.rows
      rcases o.2 with ⟨e1, _⟩ | ⟨g', cap, cur, e1, _, hh, _⟩
      · rw [e1] at e; cases e
      · rw [e1] at e; cases e
        rw [h1] at hh; cases hh
end
theorem sl_gchg {w w' : World} {q : Option Addr} {n c g T : Nat} {ys : List UInt8} {cs : Array Value} {fr : Nat × Nat} (h : Sl B8 w q n c ys) (hg : w.heap[g]? = some (.cells cs T fr)) (hno : ∀ (j : Nat) (x : UInt8), cs[j]? ≠ some (B8 x)) (hc : GChg w g w') : Sl B8 w' q n c ys :=
  ⟨h.len, h.le, h.max, h.nil, fun j hj => by
    obtain ⟨b, o, e, hcl⟩ := h.rs j hj
    refine ⟨b, o, e, ?_⟩
    have hne : b ≠ g := fun e1 => by
      rw [e1, cell_of_row _ _ (o + j) _ _ _ hg] at hcl
      exact hno _ _ hcl
    exact (World.cell?_of_block (a := ⟨b, o + j, none⟩) (hc.block b (lt_of_cell hcl) hne)).trans hcl⟩
theorem GChg.trans {w a b : World} {g : Nat} (h : GChg w g a) (h2 : GChg a g b) : GChg w g b :=
  ⟨h2.os.trans h.os, h2.tape.trans h.tape, h2.output.trans h.output, Nat.le_trans h.size h2.size, fun i hi hg => (h2.block i (Nat.lt_of_lt_of_le hi h.size) hg).trans (h.block i hi hg)⟩
theorem GChg.then {w a b : World} {g B : Nat} (h : GChg w g a) (h2 : Below B a b) (hB : w.heap.size ≤ B) : GChg w g b :=
  ⟨h2.os.trans h.os, h2.tape.trans h.tape, h2.output.trans h.output, Nat.le_trans h.size h2.size, fun i hi hg => (h2.block i (Nat.lt_of_lt_of_le hi hB)).trans (h.block i hi hg)⟩
end Go.By
namespace Go.Proofs.YtfbmdlfkipipfaaGreatDoor
open Go.RowKit Go.By Go.Maps
end Go.Proofs.YtfbmdlfkipipfaaGreatDoor
namespace Go.Proofs.YtfbmdlfkipipfaaGreatDoor
open Go.RowKit Go.By Go.Maps
end Go.Proofs.YtfbmdlfkipipfaaGreatDoor
namespace Go.By
open Go.RowKit
section
variable {P : Program} {ops : Array Oper} {Q : Exit → Act → World → Prop}
end
end Go.By
namespace Go.By
open Go.RowKit
section
variable {T : Nat} {wz W w w' : World} {va vb : Value} {n i4 i9 i : Nat} {A B : List (List UInt8)} {dn : Nat → Bool}
end
end Go.By
namespace Go.Proofs.YtfbmdlfkipipfaaGreatDoor
open Go.RowKit Go.By Gf Go.Maps
end Go.Proofs.YtfbmdlfkipipfaaGreatDoor
namespace Go.By
open Go.RowKit Go.Maps Go.Proofs.YtfbmdlfkipipfaaGreatDoor
theorem fresh_same {T : TypeId} {B : Nat} {w w' : World} {q : Option Addr} {n c : Nat} {xs : List UInt8} (h : Fresh T B w q n c xs) (hp : ∀ (b : Nat) (cs : Array Value) (fr : Nat × Nat), w.heap[b]? = some (.cells cs T fr) → w'.heap[b]? = w.heap[b]?) : Fresh T B w' q n c xs := by
  have hd : ∀ a, q = some a → w'.heap[a.block]? = w.heap[a.block]? := fun a ha => by
    obtain ⟨cs, fr, e⟩ := h.ty a ha; exact hp _ cs fr e
  refine ⟨⟨h.sl.len, h.sl.le, h.sl.max, h.sl.nil, fun i hi => ?_⟩, h.new, fun a ha => ?_⟩
  · obtain ⟨b, o, e, hc⟩ := h.sl.rs i hi
    exact ⟨b, o, e, (World.cell?_of_block (a := ⟨b, o + i, none⟩) (show w'.heap[b]? = w.heap[b]? from hd ⟨b, o, none⟩ e)).trans hc⟩
  · obtain ⟨cs, fr, e⟩ := h.ty a ha
    exact ⟨cs, fr, (hd a ha).trans e⟩
theorem GChg.same {w w' : World} {g T' : Nat} {old : Array Value} {fr : Nat × Nat} (h : GChg w g w') (hg : w.heap[g]? = some (.cells old T' fr)) {T : TypeId} (hne : T' ≠ T) : ∀ (b : Nat) (cs : Array Value) (fr : Nat × Nat), w.heap[b]? = some (.cells cs T fr) → w'.heap[b]? = w.heap[b]? := fun b cs fr hb =>
  (h.blk hg hb hne).trans hb.symm
theorem TChg.same {w w' : World} {base gt be L t k D N : Nat} {M v : Value} {C : DataW Unit} {K : List Rw} {st : Nat} (h : TChg w w' gt be v) (hT : Tkr w base gt be L t k D N M v C K st) {T : TypeId} (h1 : T ≠ 126) (h2 : T ≠ 201) (h3 : 139 ≠ T) : ∀ (b : Nat) (cs : Array Value) (fr : Nat × Nat), w.heap[b]? = some (.cells cs T fr) → w'.heap[b]? = w.heap[b]? := fun b cs fr hb =>
  (h.blk hT hb h1 h2 h3).trans hb.symm
where
  r_of {T1 B : Nat} {w : World} {vs : List Value} {xss : List (List UInt8)} {j : Nat} {u : Value} (hr : ∀ (j : Nat) (u : Value), vs[j]? = some u → ∃ q m c xs, u = .slice q m c ∧ xss[j]? = some xs ∧ Fresh T1 B w q m c xs) (hj : vs[j]? = some u) := hr j u hj
end Go.By
namespace Go.Proofs.YtfbmdlfkipipfaaGreatDoor
open Go.RowKit Go.By Go.Maps
theorem pok131 : POK 3 3 1 0 := ⟨by decide, by decide, by decide, by decide, by decide, by decide, by decide⟩
theorem of33 : ofS 3 3 0 = .tuple #[PVal 3 3 1 0, .int .i64 0] := by
  have h : fitS 3 3 = 0 := by decide
  have h2 : needS 3 3 = 1 := by decide
  unfold ofS; rw [if_pos h, h2]; rfl
def pkt9a : List UInt8 := pktB 0 0 0 [0] 0 [0, 0, 0]
def pkt9b : List UInt8 := pktB 0 0 1 [7] 0 (combS [7] [[1, 2, 3]]).1
theorem comb9a : (combS [0] [[1, 2, 3]]).1 = [0, 0, 0] := by decide +kernel
theorem put9a : putK [] ([0], [0, 0, 0]) = [] ∧ nextS [] ([0], [0, 0, 0]) 1 = 0 := by decide +kernel
theorem put9b : putK [] ([7], (combS [7] [[1, 2, 3]]).1) = [([1], [1, 2, 3])] ∧ nextS [] ([7], (combS [7] [[1, 2, 3]]).1) 1 = 1 := by decide +kernel
theorem len9c : (combS [7] [[1, 2, 3]]).1.length = 3 := by decide +kernel
theorem read9a : readC 1 3 0 pkt9a = 0 ∧ eqX 1 3 pkt9a = ([0], [0, 0, 0]) := by
  obtain ⟨h1, h2, h3, h4, h5, h6⟩ := read_write (m := 0) (D := 0) (n := 0) (s := 0) (k := 1) (t := 3) (xs := [0]) (ys := [0, 0, 0]) rfl (fun _ => rfl) rfl (by decide) (by decide)
  refine ⟨h1, ?_⟩
  unfold eqX
  rw [show pktM pkt9a = 0 from h2, show pktX 1 pkt9a = [0] from h4, show pktY 1 3 pkt9a = [0, 0, 0] from h6]
  rfl
theorem read9b : readC 1 3 0 pkt9b = 0 ∧ eqX 1 3 pkt9b = ([7], (combS [7] [[1, 2, 3]]).1) := by
  obtain ⟨h1, h2, h3, h4, h5, h6⟩ := read_write (m := 0) (D := 0) (n := 1) (s := 0) (k := 1) (t := 3) (xs := [7]) (ys := (combS [7] [[1, 2, 3]]).1) rfl (fun _ => rfl) len9c (by decide) (by decide)
  refine ⟨h1, ?_⟩
  unfold eqX
  rw [show pktM pkt9b = 0 from h2, show pktX 1 pkt9b = [7] from h4, show pktY 1 3 pkt9b = (combS [7] [[1, 2, 3]]).1 from h6]
  rfl
theorem take9a : takeK 1 3 0 [] 0 pkt9a = [] ∧ takeS 1 3 0 [] 0 pkt9a = 0 := by
  unfold takeK takeS
  rw [if_pos ⟨read9a.1, rfl⟩, if_pos ⟨read9a.1, rfl⟩, read9a.2]
  exact put9a
theorem take9b : takeK 1 3 0 [] 0 pkt9b = [([1], [1, 2, 3])] ∧ takeS 1 3 0 [] 0 pkt9b = 1 := by
  unfold takeK takeS
  rw [if_pos ⟨read9b.1, rfl⟩, if_pos ⟨read9b.1, rfl⟩, read9b.2]
  exact put9b
theorem len9a : pkt9a.length = 18 := by simp [pkt9a, pktB, bodyP, headB, srcB, put4_len]
theorem len9b : pkt9b.length = 18 := by simp [pkt9b, pktB, bodyP, headB, srcB, put4_len, len9c]
theorem pieces9 : (List.range 1).map (pieceS [1, 2, 3] 3) = [[1, 2, 3]] := by decide
theorem join9 : joinS 3 3 1 (([([1], [1, 2, 3])] : List Rw).map (fun x : Rw => x.2)) = ([1, 2, 3], 0) := by decide +kernel
set_option maxRecDepth 100000 in
set_option maxHeartbeats 8000000 in
theorem awake19 (w : World) (hT : HalfT w) : Calls Tryz.prog 28 #[] w fun e w' => e = .returned (.bool true) ∧ Below w.heap.size w w' := by
  have HT := Lib.hid hT
  have HOf : Hid (∀ w, Calls Tryz.prog 24 #[.int .i64 3, .int .i64 3, .int .u32 0] w fun e w' => e = .returned (.tuple #[PVal 3 3 1 0, .int .i64 0]) ∧ Below w.heap.size w w') := fun w => by have := POf_any 3 3 0 w (by decide); rw [of33] at this; exact this
  have HSm : Hid (∀ xs p1 p2 n1 n2 c1 c2 w, Sl B8 w p1 n1 c1 xs → Sl B8 w p2 n2 c2 xs → Calls Tryz.prog 36 #[.slice p1 n1 c1, .slice p2 n2 c2] w fun e w' => e = .returned (.bool true) ∧ Below w.heap.size w w') := fun xs p1 p2 n1 n2 c1 c2 w h1 h2 => by
    have := Same_any p1 p2 n1 n2 c1 c2 xs xs w h1 h2
    rw [decide_eq_true rfl] at this
    exact this
  clear hT
  go_enter Tryz.func28, Tryz.ntmps28
  go_wp2_with fail
  refine Calls.mono (HOf.out w) ?_
  rintro e w1 ⟨rfl, hb1⟩
  have HB1 := Lib.hid hb1
  clear hb1
  go_wp2_with fail
  refine Calls.mono (SNew_ok 3 3 1 0 _ 3 3 [1, 2, 3] _ pok131 (sl_block [1, 2, 3] 3 (hnew (by simp)) rfl rfl (by simp [maxLen])) (fun i hi => by omega) rfl) ?_
  rintro e w2 ⟨gs, rfl, hgs, hsn, hb⟩
  rw [pieces9] at hsn
  obtain ⟨hb2, kp, -, hs2⟩ := two_of hb
  have HB2 := Lib.hid (bl HB1.out hb2 HB1.out.size)
  have HSn := Lib.hid hsn
  have HGS : Hid (w.heap.size ≤ gs) := by have := HB1.out.size; show w.heap.size ≤ gs; simp at hgs; omega
  clear hb hb2 hsn hgs hs2
  obtain ⟨p0, p1, p2, p3⟩ := cells_four kp
  go_wp2_with fail
  refine Calls.mono (TNew_ok 3 3 1 0 w2 pok131) ?_
  rintro e w3 ⟨gt, be, v, rfl, ht, hb⟩
  have HB3 := Lib.hid (bl HB2.out hb HB2.out.size)
  have HT3 := Lib.hid ht
  have HSn3 := Lib.hid (HSn.out.keep hb)
  clear hb ht HSn kp p0 p1 p2 p3
  go_wp2_with fail
  have ba := al (o := .cells #[.int .u8 0] 5 (0, 0)) (Below.refl w3.heap.size w3) (Nat.le_refl _)
  have HT4 := Lib.hid (HT3.out.keep ba)
  have HSn4 := Lib.hid (HSn3.out.keep ba)
  have HB4 := Lib.hid (bl HB3.out ba HB3.out.size)
  have HX4 : Hid (Sl B8 (w3.alloc (.cells #[.int .u8 0] 5 (0, 0))) (some ⟨w3.heap.size, 0, none⟩) 1 1 [0]) := sl_block [0] 1 (hnew rfl) rfl rfl (by simp [maxLen])
  clear ba HT3 HSn3
  refine Calls.mono (SExplicit_ok gs 3 3 1 0 0 [[1, 2, 3]] _ 1 1 [0] _ HSn4.out (by decide) rfl HX4.out (HT.out.keep HB4.out)) ?_
  rintro e w5 ⟨ql, nl, cl, rfl, hl, hsn, hg⟩
  rw [comb9a] at hl
  obtain ⟨_, _, hbx, -⟩ := HSn4.out.mem
  have HL := Lib.hid hl
  have HSn5 := Lib.hid hsn
  have HT5 := Lib.hid (hg.tkr hbx HT4.out (by decide) (by decide) (by decide) (by decide))
  have HB5 := Lib.hid (HB4.out.trans (hg.below HGS.out HB4.out.size))
  have hnl : nl = 18 := by rw [← hl.len]; exact len9a
  have HNL := Lib.hid hnl
  clear hg hbx hl hsn HT4 HSn4 HB4 HX4 hnl
  go_wp2_with fail
  have ba := al (o := .cells #[.int .u8 7] 5 (0, 0)) (Below.refl w5.heap.size w5) (Nat.le_refl _)
  have HT6 := Lib.hid (HT5.out.keep ba)
  have HSn6 := Lib.hid (HSn5.out.keep ba)
  have HL6 := Lib.hid (HL.out.keep ba)
  have HB6 := Lib.hid (bl HB5.out ba HB5.out.size)
  have HX6 : Hid (Sl B8 (w5.alloc (.cells #[.int .u8 7] 5 (0, 0))) (some ⟨w5.heap.size, 0, none⟩) 1 1 [7]) := sl_block [7] 1 (hnew rfl) rfl rfl (by simp [maxLen])
  clear ba HT5 HSn5 HL
  refine Calls.mono (SExplicit_okF gs 3 3 1 0 1 [[1, 2, 3]] _ 1 1 [7] _ HSn6.out (by decide) rfl HX6.out (HT.out.keep HB6.out)) ?_
  rintro e w7 ⟨⟨qm, nm, cm, rfl, hl⟩, _, _, _, -, -, -, hg⟩
  obtain ⟨_, _, hbx, -⟩ := HSn6.out.mem
  have HM := Lib.hid hl
  have HL7 := Lib.hid (sl_gchg HL6.out hbx noByte6 hg)
  have HT7 := Lib.hid (hg.tkr hbx HT6.out (by decide) (by decide) (by decide) (by decide))
  have HB7 := Lib.hid (HB6.out.trans (hg.below HGS.out HB6.out.size))
  have hnm : nm = 18 := by rw [← hl.sl.len]; exact len9b
  have HNM := Lib.hid hnm
  clear hg hbx hl HT6 HSn6 HB6 HX6 hnm HL6
  go_wp2_with fail
  refine Calls.mono (TTake_any _ gt be 3 3 1 0 0 (.map none) v (.map []) [] 0 ql nl cl pkt9a w7 HT7.out (HT.out.keep HB7.out) (by decide) HL7.out (by rw [HNL.out]; show 18 ≤ 140737488355328; decide)) ?_
  rintro e w8 ⟨he, M8, v8, hT8, hc8, -⟩
  rw [read9a.1] at he
  subst he
  rw [take9a.1, take9a.2] at hT8
  have HT8 := Lib.hid hT8
  have HM8 : Hid (Sl B8 w8 qm nm cm pkt9b) := (fresh_same HM.out (hc8.same HT7.out (by decide) (by decide) (by decide))).sl
  have HB8 := Lib.hid (HB7.out.trans (hc8.below HT7.out HB2.out.size HB7.out.size))
  clear hT8 hc8 HT7 HB7 HL7 HNL HM
  go_wp2_with fail
  refine Calls.mono (TStatus_any _ gt be 3 3 1 0 _ M8 v8 _ [] 0 w8 HT8.out) ?_
  rintro e w9 ⟨rfl, rfl⟩
  go_wp2_with fail
  refine Calls.mono (TTake_any _ gt be 3 3 1 0 1 M8 v8 _ [] 0 qm nm cm pkt9b w8 HT8.out (HT.out.keep HB8.out) (by decide) HM8.out (by rw [HNM.out]; show 18 ≤ 140737488355328; decide)) ?_
  rintro e w9 ⟨he, M9, v9, hT9, hc9, -⟩
  rw [read9b.1] at he
  subst he
  rw [take9b.1, take9b.2] at hT9
  have HT9 := Lib.hid hT9
  have HB9 := Lib.hid (HB8.out.trans (hc9.below HT8.out HB2.out.size HB8.out.size))
  clear hT9 hc9 HT8 HB8 HM8 HNM
  go_wp2_with fail
  have hob := TObject_done _ gt be 3 3 1 0 _ M9 v9 _ _ w9 HT9.out rfl
  rw [show joinS ((3 : Nat) : Int) ((3 : Nat) : Int) ((1 : Nat) : Int) (([([1], [1, 2, 3])] : List Rw).map (fun x : Rw => x.2)) = ([1, 2, 3], 0) from join9] at hob
  refine Calls.mono hob ?_
  rintro e wA ⟨qo, no, co, rfl, ho, hb⟩
  have HO := Lib.hid ho
  have HTA := Lib.hid (HT9.out.keep hb)
  have HBA := Lib.hid (bl HB9.out hb HB9.out.size)
  clear hob hb ho HT9 HB9
  go_wp2_with fail
  refine Calls.mono (TStatus_any _ gt be 3 3 1 0 _ M9 v9 _ _ 1 wA HTA.out) ?_
  rintro e wB ⟨rfl, rfl⟩
  go_wp2_with fail
  refine Calls.mono (HSm.out [1, 2, 3] _ _ _ _ _ _ _ (HO.out.keep (al (Below.refl _ _) (Nat.le_refl _))) (sl_block [1, 2, 3] 3 (hnew rfl) rfl rfl (by simp [maxLen]))) ?_
  rintro e wC ⟨rfl, hb⟩
  have HBC := Lib.hid (bl HBA.out (one_of hb).1 HBA.out.size)
  clear hb
  go_wp2
  go_ret
  exact ⟨rfl, HBC.out⟩
end Go.Proofs.YtfbmdlfkipipfaaGreatDoor
namespace Go.Proofs.YtfbmdlfkipipfaaGreatDoor
open Go.RowKit Go.By Go.Maps
set_option maxHeartbeats 1000000 in
theorem TTake_nil (p : Option Addr) (n c : Nat) (w : World) : Calls Tryz.prog 19 #[.pointer none, .slice p n c] w fun e w' => e = .returned (.int .i64 1) ∧ w = w' := by
  go_enter Tryz.func19, Tryz.ntmps19
  go_wp2
  go_ret
  exact ⟨rfl, rfl⟩
set_option maxHeartbeats 1000000 in
theorem TStatus_nil (w : World) : Calls Tryz.prog 23 #[.pointer none] w fun e w' => e = .returned (.int .i64 0) ∧ w = w' := by
  go_enter Tryz.func23, Tryz.ntmps23
  go_wp2
  go_ret
  exact ⟨rfl, rfl⟩
set_option maxHeartbeats 1000000 in
theorem TRank_nil (w : World) : Calls Tryz.prog 18 #[.pointer none] w fun e w' => e = .returned (.int .i64 0) ∧ w = w' := by
  go_enter Tryz.func18, Tryz.ntmps18
  go_wp2
  go_ret
  exact ⟨rfl, rfl⟩
set_option maxHeartbeats 1000000 in
theorem TRows_nil (w : World) : Calls Tryz.prog 20 #[.pointer none] w fun e w' => e = .returned (.slice none 0 0) ∧ w = w' := by
  go_enter Tryz.func20, Tryz.ntmps20
  go_wp2
  go_ret
  exact ⟨rfl, rfl⟩
set_option maxHeartbeats 1000000 in
theorem TClone_nil (w : World) : Calls Tryz.prog 46 #[.pointer none] w fun e w' => e = .returned (.pointer none) ∧ w = w' := by
  go_enter Tryz.func46, Tryz.ntmps46
  go_wp2
  go_ret
  exact ⟨rfl, rfl⟩
set_option maxHeartbeats 1000000 in
theorem TSome_nil (w : World) : Calls Tryz.prog 54 #[.pointer none] w fun e w' => e = .returned (.tuple #[.slice none 0 0, .slice none 0 0]) ∧ Below w.heap.size w w' := by
  go_enter Tryz.func54, Tryz.ntmps54
  go_wp2
  go_ret2
  exact ⟨rfl, Below.refl _ _⟩
set_option maxRecDepth 100000 in
set_option maxHeartbeats 1000000 in
theorem TGate_nil (w : World) : Calls Tryz.prog 48 #[.pointer none] w fun e w' => e = .returned (.agg #[.int .i64 0, .int .i64 0, .int .i64 0, .int .u32 0, .map none]) ∧ Below w.heap.size w w' := by
  go_enter Tryz.func48, Tryz.ntmps48
  go_wp2_with (refine wpList_store_row (o := ⟨none, .store 105 (.tmp 2) (.tmp 5), _, _, _, _⟩) rfl 105 (.tmp 2) (.tmp 5) rfl w.heap.size #[.int .i64 0, .int .i64 0, .int .i64 0, .int .u32 0, .map none] rfl rfl _ _ (hnew rfl) info_gate rfl (by simp [Value.oneCell']) ?_)
  refine bodyPost_ret (results_cell_row rfl _ _ _ 105 #[.int .i64 0, .int .i64 0, .int .i64 0, .int .u32 0, .map none] (0, 0) _ rfl (hrs (hnew rfl)) Tryz.underlying105 rfl info_gate) rfl ?_
  exact ⟨rfl, below_row (al (Below.refl _ _) (Nat.le_refl _)) (Nat.le_refl _)⟩
set_option maxRecDepth 100000 in
set_option maxHeartbeats 1000000 in
/-- a gate that nothing came to was never asked -/
theorem GSeen_nil (L t k D : Int) (w : World) : Calls Tryz.prog 49 #[.agg #[.int .i64 L, .int .i64 t, .int .i64 k, .int .u32 D, .map none]] w fun e w' => e = .returned (.int .i64 0) ∧ Below w.heap.size w w' := by
  have hrn := fun W => run_range_nilMap (P := Tryz.prog) W 103 _ _ Tryz.underlying103
  go_enter Tryz.func49, Tryz.ntmps49
  go_wp2_with fail
  obtain ⟨W1, hW1⟩ : ∃ W1, W1 = w.alloc (.cells #[.int .i64 L, .int .i64 t, .int .i64 k, .int .u32 D, .map none] 105 (0, 0)) := ⟨_, rfl⟩
  have hb1 : Below w.heap.size w W1 := by rw [hW1]; exact al (Below.refl _ _) (Nat.le_refl _)
  have hnx := run_next_nilMap (P := Tryz.prog) W1 0 0 0 #[]
  have hs : w.heap.size + 1 = W1.heap.size := by rw [hW1]; simp
  rw [← hW1]
  try rw [hs]
  have HB := Lib.hid (al (o := .mapIter none 0 #[] 0) hb1 hb1.size)
  clear hrn hW1 hb1 hs
  obtain ⟨W3, hW3⟩ : ∃ W3, W3 = W1.alloc (.mapIter none 0 #[] 0) := ⟨_, rfl⟩
  rw [← hW3] at HB hnx ⊢
  have HNX := Lib.hid hnx
  clear hW3 hnx
  go_loopw [3, 10] (fun s _ wr => s = .int .i64 0 ∧ Hid (wr = W3)) (fun _ _ _ => 0)
  case atStart => exact ⟨rfl, rfl⟩
  case round =>
    obtain ⟨rfl, hwr⟩ := hrel
    have hwr := hwr.out
    subst hwr
    have hnx := HNX.out
    go_wp2
    go_ret
    exact ⟨rfl, HB.out⟩
set_option maxRecDepth 100000 in
set_option maxHeartbeats 8000000 in
theorem TakerNone_any (w : World) (hT : HalfT w) : Calls Tryz.prog 9 #[] w fun e w' => e = .returned (.bool true) ∧ Below w.heap.size w w' := by
  have HT := Lib.hid hT
  clear hT
  go_enter Tryz.func9, Tryz.ntmps9
  go_wp2_with fail
  refine Calls.mono (TObject_nil w) ?_
  rintro e w0 ⟨rfl, rfl⟩
  go_wp2_with fail
  refine Calls.mono (TSome_nil w) ?_
  rintro e w1 ⟨rfl, hb⟩
  have HB1 := Lib.hid hb
  clear hb
  go_wp2_with fail
  refine Calls.mono (awake19 w1 (HT.out.keep HB1.out)) ?_
  rintro e w2 ⟨rfl, hb⟩
  have HB2 := Lib.hid (bl HB1.out hb HB1.out.size)
  clear hb HB1
  go_wp2_with fail
  refine Calls.mono (TTake_nil _ _ _ _) ?_
  rintro e w' ⟨rfl, rfl⟩
  go_wp2_with fail
  refine Calls.mono (TStatus_nil _) ?_
  rintro e w' ⟨rfl, rfl⟩
  go_wp2_with fail
  refine Calls.mono (TRank_nil _) ?_
  rintro e w' ⟨rfl, rfl⟩
  go_wp2_with fail
  refine Calls.mono (TRows_nil _) ?_
  rintro e w' ⟨rfl, rfl⟩
  go_wp2_with fail
  refine Calls.mono (TGate_nil _) ?_
  rintro e w3 ⟨rfl, hb⟩
  have HB3 := Lib.hid (bl HB2.out hb HB2.out.size)
  clear hb HB2
  go_wp2_with fail
  refine Calls.mono (GSeen_nil _ _ _ _ _) ?_
  rintro e w4 ⟨rfl, hb⟩
  have HB4 := Lib.hid (bl HB3.out hb HB3.out.size)
  clear hb HB3
  go_wp2_with fail
  refine Calls.mono (TClone_nil _) ?_
  rintro e w' ⟨rfl, rfl⟩
  go_wp2
  go_ret
  exact ⟨rfl, HB4.out⟩
end Go.Proofs.YtfbmdlfkipipfaaGreatDoor
namespace Go.Proofs.YtfbmdlfkipipfaaGreatDoor
open Go.RowKit Go.By
theorem halves_of {rest : List (String × DataW Unit)} {W : World} (h : laidMet Tryz.prog (("wellspring/sum.halves", Rows.laid_wellspring_sum_halves) :: rest) W) : HalfT W := by
  obtain ⟨zs, hz, hzl, hzc⟩ : ∃ zs : List Int, (Rows.laid_wellspring_sum_halves : DataW Unit) = Lib.tabData .u32 zs ∧ zs.length = 16 ∧ ∀ i, i < 16 → zs.getD i 0 = ((crcTab.getD i 0 : Nat) : Int) := ⟨[0, 498536548, 997073096, 651767980, 1994146192, 1802195444, 1303535960, 1342533948, 3988292384, 4027552580, 3604390888, 3412177804, 2607071920, 2262029012, 2685067896, 3183342108], rfl, rfl, by decide⟩
  rw [hz] at h
  have h3 := Lib.tabIs_of_head (g := 0) (t := 291) (e := 23) (n := 16) (by kernel_rfl) (by kernel_rfl) (by kernel_rfl) (by kernel_rfl) (by kernel_rfl) (by kernel_rfl) h
  intro i hi
  have := h3.cell (g := 0) (by kernel_rfl) i (by omega)
  rw [hzc i hi] at this
  exact this
end Go.Proofs.YtfbmdlfkipipfaaGreatDoor
