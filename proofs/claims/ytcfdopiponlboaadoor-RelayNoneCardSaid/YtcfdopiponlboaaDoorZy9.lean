/- Chapter 21: what a turn of a sender, a taker, a relay leaves as it is; sender.Explicit. Chapter 21: the law's awake. Chapter 21: RelayNone. The table of the sum, out of the row's condition. -/
import Derived.Test.YtcfdopiponlboaaDoorZy8
import Derived.Test.YtcfdopiponlboaaDoorRows
import Derived.Lib.LaidTab
namespace Go.By
open Go.RowKit Go.Maps Go.Proofs.YtcfdopiponlboaaDoor
section
variable {w w' : World} {g : Nat} {old : Array Value} {T' : Nat} {fr : Nat × Nat}
theorem GChg.blk (h : GChg w g w') (hg : w.heap[g]? = some (.cells old T' fr)) {b T : Nat} {cs : Array Value} {fr2 : Nat × Nat} (hb : w.heap[b]? = some (.cells cs T fr2)) (hne : T' ≠ T) : w'.heap[b]? = some (.cells cs T fr2) := by
  refine (h.block b (lt_of_block hb) fun e => ?_).trans hb
  rw [e, hg] at hb; injection hb with hb; injection hb with _ hb _; exact hne hb
theorem GChg.cnt (h : GChg w g w') (hg : w.heap[g]? = some (.cells old T' fr)) {M : Value} {N : Nat} {C : DataW Unit} (hc : CntM w M N C) : CntM w' M N C := by
  refine ⟨?_, hc.small⟩
  rcases hc.at_ with h1 | ⟨b, e, ho⟩
  · exact .inl h1
  · refine .inr ⟨b, e, ?_⟩
    have hlt := ho.lt
    obtain ⟨es, clock, h1, F, hs, hD⟩ := ho
    exact ⟨es, clock, (h.block b hlt (fun e => by rw [e, hg] at h1; cases h1)).trans h1, F, hs, hD⟩
theorem GChg.owns (h : GChg w g w') (hg : w.heap[g]? = some (.cells old T' fr)) {base T e n : Nat} {v : Value} {L : List Value} (ho : w.ownsRow base T e v n L) (hne : T' ≠ T) : w'.ownsRow base T e v n L := by
  refine owns_same ho h.size fun g2 hg2 => ?_
  rcases ho.2 with ⟨e1, _⟩ | ⟨g', cap, cur, e1, _, hh, _⟩
  · rw [e1] at hg2; cases hg2
  · rw [e1] at hg2; cases hg2
    exact (h.blk hg hh hne).trans hh.symm
theorem GChg.elm (h : GChg w g w') (hg : w.heap[g]? = some (.cells old T' fr)) {base be k t n : Nat} {v : Value} {K : List Rw} (hE : Elm w base be k t v n K) (h1 : T' ≠ 106) (h2 : T' ≠ 49) (h3 : T' ≠ 5) : Elm w' base be k t v n K := by
  refine ⟨h.blk hg hE.box h1, ?_, hE.old⟩
  obtain ⟨vs, a, b, o, r⟩ := hE.rows
  refine ⟨vs, a, b, h.owns hg o h2, fun j u hj => ?_⟩
  obtain ⟨x, hk, ⟨q1, m1, c1, e1, l1, o1⟩, ⟨q2, m2, c2, e2, l2, o2⟩⟩ := r j u hj
  exact ⟨x, hk, ⟨q1, m1, c1, e1, l1, h.owns hg o1 h3⟩, ⟨q2, m2, c2, e2, l2, h.owns hg o2 h3⟩⟩
theorem GChg.tkr (h : GChg w g w') (hg : w.heap[g]? = some (.cells old T' fr)) {base gt be L t k D N : Nat} {M v : Value} {C : DataW Unit} {K : List Rw} {st : Nat} (hT : Tkr w base gt be L t k D N M v C K st) (h1 : T' ≠ 106) (h2 : T' ≠ 49) (h3 : T' ≠ 5) (h4 : T' ≠ 75) : Tkr w' base gt be L t k D N M v C K st :=
  ⟨hT.ok, h.blk hg hT.box h4, h.cnt hg hT.cnt, h.elm hg hT.elm h1 h2 h3, hT.red, hT.old⟩
theorem GChg.rly (h : GChg w g w') (hg : w.heap[g]? = some (.cells old T' fr)) {base gr gt be L t k D N nx : Nat} {M v : Value} {C : DataW Unit} {K : List Rw} {st : Nat} (hR : Rly w base gr gt be L t k D N nx M v C K st) (h1 : T' ≠ 106) (h2 : T' ≠ 49) (h3 : T' ≠ 5) (h4 : T' ≠ 75) (h5 : T' ≠ 41) : Rly w' base gr gt be L t k D N nx M v C K st :=
  ⟨h.blk hg hR.box h5, h.tkr hg hR.tk h1 h2 h3 h4, hR.old⟩
end
theorem TChg.blk {w w' : World} {base gt be L t k D N : Nat} {M v : Value} {C : DataW Unit} {K : List Rw} {st : Nat} (h : TChg w w' gt be v) (hT : Tkr w base gt be L t k D N M v C K st) {b T : Nat} {cs : Array Value} {fr : Nat × Nat} (hb : w.heap[b]? = some (.cells cs T fr)) (h1 : T ≠ 75) (h2 : T ≠ 106) (h3 : 49 ≠ T) : w'.heap[b]? = some (.cells cs T fr) := by
  refine (h.block b (lt_of_block hb) (fun e => ?_) (fun e => ?_) (hT.elm.rows.ne_box hb h3)).trans hb
  · have := hT.box; rw [← e, hb] at this; injection this with this; injection this with _ this _; exact h1 this
  · have := hT.elm.box; rw [← e, hb] at this; injection this with this; injection this with _ this _; exact h2 this
theorem TChg.below {w w' : World} {B base gt be L t k D N : Nat} {M v : Value} {C : DataW Unit} {K : List Rw} {st : Nat} (h : TChg w w' gt be v) (hT : Tkr w base gt be L t k D N M v C K st) (hB : B ≤ base) (hw : B ≤ w.heap.size) : Below B w w' := by
  refine ⟨h.os, h.tape, h.output, h.size, fun i hi => h.block i (by omega) (by have := hT.old; omega) (by have := hT.elm.old; omega) (fun e => ?_)⟩
  have := (hT.elm.rows.lt _ e).1
  omega
end Go.By
namespace Go.Proofs.YtcfdopiponlboaaDoor
open Go.RowKit Go.By Go.Maps
theorem Snd.keep {w w' : World} {gs L t k D nx : Nat} {xss : List (List UInt8)} (h : Snd w gs L t k D nx xss) (hb : Below w.heap.size w w') : Snd w' gs L t k D nx xss := by
  obtain ⟨q, c, h1, h2, h3⟩ := h.mem
  exact ⟨h.ok, ⟨q, c, (hb.block _ (lt_of_block h1)).trans h1, h2.keep hb, h3⟩, h.fit⟩
/-- a relay that took -/
theorem Rly.took {w w' : World} {base gr gt be L t k D N nx : Nat} {M v : Value} {C : DataW Unit} {K : List Rw} {st : Nat} (h : Rly w base gr gt be L t k D N nx M v C K st) {N' : Nat} {M' v' : Value} {C' : DataW Unit} {K' : List Rw} {st' : Nat} (hT : Tkr w' base gt be L t k D N' M' v' C' K' st') (hc : TChg w w' gt be v) : Rly w' base gr gt be L t k D N' nx M' v' C' K' st' :=
  ⟨hc.blk h.tk h.box (by decide) (by decide) (by decide), hT, h.old⟩
set_option maxRecDepth 100000 in
set_option maxHeartbeats 1000000 in
theorem SExplicit_ok (gs L t k D nx : Nat) (xss : List (List UInt8)) (p : Option Addr) (n c : Nat) (xs : List UInt8) (w : World) (hS : Snd w gs L t k D nx xss) (hnx : nx < 4294967296) (hn : n = k) (h : Sl B8 w p n c xs) (hT : HalfT w) :
    Calls Tryd.prog 8 #[.pointer (some ⟨gs, 0, none⟩), .slice p n c] w (SdRet w gs L t k D xss (pktB 0 D nx xs 0 (combS xs xss).1) (nx + 1) 0) := by
  have hr : Room n := by have := hS.ok.k2; show n ≤ 140737488355328; omega
  have HE := Lib.hid (RExplicit_any p n c xs w h hr)
  have HS := Lib.hid (fun w' q c' (hb : Below w.heap.size w w') (hs : Sl B8 w' q n c' xs) => SSend_ok gs L t k D nx xss 0 q n c' 0 xs w' (hS.keep hb) hnx (by unfold srcC; rw [if_pos rfl, if_pos hn]) hs hr (hT.keep hb))
  clear hS hnx hn h hT hr
  go_enter Tryd.func8, Tryd.ntmps8
  go_wp2_with fail
  refine Calls.mono HE.out ?_
  rintro e w1 ⟨q, c', rfl, hf, hb⟩
  have HB := Lib.hid hb
  have HF := Lib.hid hf
  clear hb hf
  go_wp2_with fail
  refine Calls.mono (HS.out w1 q c' HB.out HF.out.sl) ?_
  rintro e w2 ⟨qo, no, co, rfl, ho, hsn, hg⟩
  have HO := Lib.hid ho
  have HSn := Lib.hid hsn
  have HG := Lib.hid hg
  clear ho hsn hg
  go_wp2
  go_ret2
  exact ⟨qo, no, co, rfl, HO.out, HSn.out, ⟨HG.out.os.trans HB.out.os, HG.out.tape.trans HB.out.tape, HG.out.output.trans HB.out.output, Nat.le_trans HB.out.size HG.out.size, fun b hb hne => (HG.out.block b (Nat.lt_of_lt_of_le hb HB.out.size) hne).trans (HB.out.block b hb)⟩⟩
end Go.Proofs.YtcfdopiponlboaaDoor
namespace Go.Proofs.YtcfdopiponlboaaDoor
open Go.RowKit Go.By Go.Maps
def pktA : List UInt8 := pktB 0 0 0 [2, 0] 0 [4]
def pktS9 : List UInt8 := pktB 0 0 9 [1, 0] 0 [2]
theorem readA : readC 2 1 0 pktA = 0 ∧ eqX 2 1 pktA = ([2, 0], [4]) := by
  obtain ⟨h1, h2, h3, h4, h5, h6⟩ := read_write (m := 0) (D := 0) (n := 0) (s := 0) (k := 2) (t := 1) (xs := [2, 0]) (ys := [4]) rfl (fun _ => rfl) rfl (by decide) (by decide)
  refine ⟨h1, ?_⟩
  unfold eqX
  rw [show pktM pktA = 0 from h2, show pktX 2 pktA = [2, 0] from h4, show pktY 2 1 pktA = [4] from h6]
  rfl
theorem takeA (st : Nat) (h : st = 0) : takeK 2 1 0 [] st pktA = [([1, 0], [2])] := by
  unfold takeK
  rw [if_pos ⟨readA.1, h⟩, readA.2, put_a]
theorem pieces24 : (List.range 2).map (pieceS [2, 4] 1) = [[2], [4]] := by decide
theorem lenA : pktA.length = 17 := by simp [pktA, pktB, bodyP, headB, srcB, put4_len]
theorem len9 : pktS9.length = 17 := by simp [pktS9, pktB, bodyP, headB, srcB, put4_len]
theorem saidA : pktB 0 0 9 (combS [1] (([([1, 0], [2])] : List Rw).map (·.1))).1 0 (combS [1] (([([1, 0], [2])] : List Rw).map (·.2))).1 = pktS9 := by
  show pktB 0 0 9 (combS [1] [[1, 0]]).1 0 (combS [1] [[2]]).1 = pktS9
  rw [comb_b, comb_c]; rfl
set_option maxRecDepth 100000 in
set_option maxHeartbeats 8000000 in
theorem awake21 (w : World) (hT : HalfT w) : Calls Tryd.prog 11 #[] w fun e w' => e = .returned (.bool true) ∧ Below w.heap.size w w' := by
  have HT := Lib.hid hT
  have HOf : Hid (∀ w, Calls Tryd.prog 5 #[.int .i64 2, .int .i64 1, .int .u32 0] w fun e w' => e = .returned (.tuple #[PVal 2 1 2 0, .int .i64 0]) ∧ Below w.heap.size w w') := fun w => by have := POf_any 2 1 0 w (by decide); rw [of21] at this; exact this
  have HRd : Hid (∀ w p n c, HalfT w → Sl B8 w p n c pktS9 → Calls Tryd.prog 26 #[PVal 2 1 2 0, .slice p n c] w (PRet w 0 0 9 [1, 0] 0 [2])) := fun w p n c hT hs => by
    have hn := hs.len
    rw [len9] at hn
    have := PRead_any 2 1 2 0 p n c pktS9 w pok21 hT hs (by rw [← hn]; show 17 ≤ 140737488355328; decide)
    obtain ⟨h1, h2, h3, h4, h5, h6⟩ := read_write (m := 0) (D := 0) (n := 9) (s := 0) (k := 2) (t := 1) (xs := [1, 0]) (ys := [2]) rfl (fun _ => rfl) rfl (by decide) (by decide)
    rw [show readC 2 1 0 pktS9 = 0 from h1, if_pos rfl, show pktM pktS9 = 0 from h2, show pktN pktS9 = 9 from h3, show pktX 2 pktS9 = [1, 0] from h4, show pktS 2 pktS9 = 0 from h5, show pktY 2 1 pktS9 = [2] from h6] at this
    exact this
  have HSm : Hid (∀ xs p1 p2 n1 n2 c1 c2 w, Sl B8 w p1 n1 c1 xs → Sl B8 w p2 n2 c2 xs → Calls Tryd.prog 27 #[.slice p1 n1 c1, .slice p2 n2 c2] w fun e w' => e = .returned (.bool true) ∧ Below w.heap.size w w') := fun xs p1 p2 n1 n2 c1 c2 w h1 h2 => by
    have := Same_any p1 p2 n1 n2 c1 c2 xs xs w h1 h2
    rw [decide_eq_true rfl] at this
    exact this
  clear hT
  go_enter Tryd.func11, Tryd.ntmps11
  go_wp2_with fail
  refine Calls.mono (HOf.out w) ?_
  rintro e w1 ⟨rfl, hb1⟩
  have HB1 := Lib.hid hb1
  clear hb1
  go_wp2_with fail
  refine Calls.mono (SNew_ok 2 1 2 0 _ 2 2 [2, 4] _ pok21 (sl_block [2, 4] 2 (hnew (by simp)) rfl rfl (by simp [maxLen])) (fun i hi => by omega) rfl) ?_
  rintro e w2 ⟨gs, rfl, hgs, hsn, hb⟩
  rw [pieces24] at hsn
  obtain ⟨hb2, kp, -, hs2⟩ := two_of hb
  have HB2 := Lib.hid (bl HB1.out hb2 HB1.out.size)
  have HSn := Lib.hid hsn
  have HGS : Hid (w.heap.size ≤ gs) := by have := HB1.out.size; show w.heap.size ≤ gs; simp at hgs; omega
  clear hb hb2 hsn hgs hs2
  obtain ⟨p0, p1, p2, p3⟩ := cells_four kp
  go_wp2_with fail
  refine Calls.mono (YNew_ok 2 1 2 0 9 _ pok21 (by decide)) ?_
  rintro e w3 ⟨gr, gt, be, v, rfl, hr, hb⟩
  have HB3 := Lib.hid (bl HB2.out hb HB2.out.size)
  have HR3 := Lib.hid hr
  have HSn3 := Lib.hid (HSn.out.keep hb)
  have kp3 := (hb.block _ (lt_of_block kp)).trans kp
  clear hb hr HSn kp p0 p1 p2 p3
  go_wp2_with fail
  have ba := al (o := .cells #[.int .u8 2, .int .u8 0] 5 (0, 0)) (Below.refl w3.heap.size w3) (Nat.le_refl _)
  have HR4 := Lib.hid (HR3.out.keep ba)
  have HSn4 := Lib.hid (HSn3.out.keep ba)
  have kp4 := (ba.block _ (lt_of_block kp3)).trans kp3
  have HB4 := Lib.hid (bl HB3.out ba HB3.out.size)
  have HX4 : Hid (Sl B8 (w3.alloc (.cells #[.int .u8 2, .int .u8 0] 5 (0, 0))) (some ⟨w3.heap.size, 0, none⟩) 2 2 [2, 0]) := sl_block [2, 0] 2 (hnew rfl) rfl rfl (by simp [maxLen])
  clear ba HR3 HSn3 kp3 HB3
  refine Calls.mono (SExplicit_ok gs 2 1 2 0 0 [[2], [4]] _ 2 2 [2, 0] _ HSn4.out (by decide) rfl HX4.out (HT.out.keep HB4.out)) ?_
  rintro e w5 ⟨ql, nl, cl, rfl, hl, hsn, hg⟩
  rw [comb_a] at hl
  obtain ⟨_, _, hbx, -⟩ := HSn4.out.mem
  have HL := Lib.hid hl
  have HR5 := Lib.hid (hg.rly hbx HR4.out (by decide) (by decide) (by decide) (by decide) (by decide))
  have kp5 := hg.blk hbx kp4 (by decide)
  have HB5 := Lib.hid (HB4.out.trans (hg.below HGS.out HB4.out.size))
  have hnl : nl = 17 := by rw [← hl.len]; exact lenA
  have HNL := Lib.hid hnl
  clear hg hbx hl hsn HR4 HSn4 kp4 HB4 HX4 hnl
  obtain ⟨r0, r1⟩ := cells2 HR5.out.box
  go_wp2_with fail
  refine Calls.mono (TTake_any _ gt be 2 1 2 0 0 (.map none) v (.map []) [] 0 ql nl cl pktA w5 HR5.out.tk (HT.out.keep HB5.out) (by decide) HL.out (by rw [HNL.out]; show 17 ≤ 140737488355328; decide)) ?_
  rintro e w6 ⟨he, M6, v6, hT6, hc6, -⟩
  rw [readA.1] at he
  subst he
  rw [takeA 0 rfl] at hT6
  have HR6 := Lib.hid (HR5.out.took hT6 hc6)
  have kp6 := hc6.blk HR5.out.tk kp5 (by decide) (by decide) (by decide)
  have HB6 := Lib.hid (HB5.out.trans (hc6.below HR5.out.tk HB2.out.size HB5.out.size))
  clear hT6 hc6 HR5 kp5 HB5 HL HNL r0 r1
  go_wp2_with fail
  have ba := al (o := .cells #[.int .u8 1] 5 (0, 0)) (Below.refl w6.heap.size w6) (Nat.le_refl _)
  have HR7 := Lib.hid (HR6.out.keep ba)
  have kp7 := (ba.block _ (lt_of_block kp6)).trans kp6
  have HB7 := Lib.hid (bl HB6.out ba HB6.out.size)
  have HX7 : Hid (Sl B8 (w6.alloc (.cells #[.int .u8 1] 5 (0, 0))) (some ⟨w6.heap.size, 0, none⟩) 1 1 [1]) := sl_block [1] 1 (hnew rfl) rfl rfl (by simp [maxLen])
  clear ba HR6 kp6 HB6
  refine Calls.mono (YSay_ok _ gr gt be 2 1 2 0 _ 9 M6 v6 _ _ _ _ 1 1 [1] _ HR7.out HX7.out (HT.out.keep HB7.out) (by decide) (by decide) rfl) ?_
  rintro e w8 ⟨qx, nx, cx, rfl, hx, hr8, hg8⟩
  rw [saidA] at hx
  have HX8 := Lib.hid hx
  have kp8 := hg8.blk HR7.out.box kp7 (by decide)
  have HB8 := Lib.hid (HB7.out.trans (hg8.below (Nat.le_trans HB2.out.size HR7.out.old) HB7.out.size))
  clear hx hr8 hg8 HR7 kp7 HB7 HX7
  obtain ⟨p0, p1, p2, p3⟩ := cells_four kp8
  go_wp2_with fail
  refine Calls.mono (HRd.out _ _ _ _ (HT.out.keep HB8.out) HX8.out) ?_
  rintro e w9 ⟨q1, n1, c1, q2, n2, c2, rfl, f1, f2, hb⟩
  have HB9 := Lib.hid (bl HB8.out hb HB8.out.size)
  have F1 := Lib.hid f1.sl
  have F2 := Lib.hid f2.sl
  clear hb f1 f2 kp8 p0 p1 p2 p3 HX8 HB8
  go_wp2_with fail
  refine Calls.mono (HSm.out [1, 0] _ _ _ _ _ _ _ (F1.out.keep (al (al (Below.refl _ _) (Nat.le_refl _)) (by simp))) (sl_block [1, 0] 2 (hnew (by simp)) rfl rfl (by simp [maxLen]))) ?_
  rintro e w10 ⟨rfl, hb⟩
  obtain ⟨hb10, k9, -, -⟩ := two_of hb
  have HB10 := Lib.hid (bl HB9.out hb10 HB9.out.size)
  have F3 := Lib.hid (F2.out.keep hb10)
  have f6 := (cells_seven k9).2.2.2.2.2.2
  clear hb hb10 k9 F1 F2 HB9
  go_wp2_with fail
  refine Calls.mono (HSm.out [2] _ _ _ _ _ _ _ (F3.out.keep (al (Below.refl _ _) (Nat.le_refl _))) (sl_block [2] 1 (hnew rfl) rfl rfl (by simp [maxLen]))) ?_
  rintro e w11 ⟨rfl, hb⟩
  have HB11 := Lib.hid (bl HB10.out (one_of hb).1 HB10.out.size)
  clear hb
  go_wp2
  go_ret
  exact ⟨rfl, HB11.out⟩
end Go.Proofs.YtcfdopiponlboaaDoor
namespace Go.Proofs.YtcfdopiponlboaaDoor
open Go.RowKit Go.By Go.Maps
def pktB5 : List UInt8 := pktB 0 0 0 [1] 0 [5]
theorem readB : readC 1 1 0 pktB5 = 0 ∧ eqX 1 1 pktB5 = ([1], [5]) := by
  obtain ⟨h1, h2, h3, h4, h5, h6⟩ := read_write (m := 0) (D := 0) (n := 0) (s := 0) (k := 1) (t := 1) (xs := [1]) (ys := [5]) rfl (fun _ => rfl) rfl (by decide) (by decide)
  refine ⟨h1, ?_⟩
  unfold eqX
  rw [show pktM pktB5 = 0 from h2, show pktX 1 pktB5 = [1] from h4, show pktY 1 1 pktB5 = [5] from h6]
  rfl
theorem takeB (st : Nat) (h : st = 0) : takeK 1 1 0 [] st pktB5 = [([1], [5])] := by
  unfold takeK
  rw [if_pos ⟨readB.1, h⟩, readB.2, put_b]
theorem pieces5 : (List.range 1).map (pieceS [5] 1) = [[5]] := by decide
theorem lenB : pktB5.length = 16 := by simp [pktB5, pktB, bodyP, headB, srcB, put4_len]
set_option maxRecDepth 100000 in
set_option maxHeartbeats 8000000 in
theorem RelayNone_any (w : World) (hT : HalfT w) : Calls Tryd.prog 3 #[] w fun e w' => e = .returned (.bool true) ∧ Below w.heap.size w w' := by
  have HT := Lib.hid hT
  have HOf : Hid (∀ w, Calls Tryd.prog 5 #[.int .i64 1, .int .i64 1, .int .u32 0] w fun e w' => e = .returned (.tuple #[PVal 1 1 1 0, .int .i64 0]) ∧ Below w.heap.size w w') := fun w => by have := POf_any 1 1 0 w (by decide); rw [of11] at this; exact this
  clear hT
  go_enter Tryd.func3, Tryd.ntmps3
  go_wp2_with fail
  refine Calls.mono (YSay_nil _ _ _ _) ?_
  rintro e w0 ⟨q0, n0, c0, rfl, -, hb0⟩
  have HB0 := Lib.hid (one_of hb0).1
  clear hb0
  go_wp2_with fail
  refine Calls.mono (HOf.out w0) ?_
  rintro e w1 ⟨rfl, hb1⟩
  have HB1 := Lib.hid (bl HB0.out hb1 HB0.out.size)
  clear hb1 HB0
  go_wp2_with fail
  refine Calls.mono (SNew_ok 1 1 1 0 _ 1 1 [5] _ pok11 (sl_block [5] 1 (hnew (by simp)) rfl rfl (by simp [maxLen])) (fun i hi => by omega) rfl) ?_
  rintro e w2 ⟨gs, rfl, hgs, hsn, hb⟩
  rw [pieces5] at hsn
  obtain ⟨hb2, kp, -, hs2⟩ := two_of hb
  have HB2 := Lib.hid (bl HB1.out hb2 HB1.out.size)
  have HSn := Lib.hid hsn
  have HGS : Hid (w.heap.size ≤ gs) := by have := HB1.out.size; show w.heap.size ≤ gs; simp at hgs; omega
  clear hb hb2 hsn hgs hs2
  obtain ⟨p0, p1, p2, p3⟩ := cells_four kp
  go_wp2_with fail
  refine Calls.mono (YNew_ok 1 1 1 0 4294967295 _ pok11 (by decide)) ?_
  rintro e w3 ⟨gr, gt, be, v, rfl, hr, hb⟩
  have HB3 := Lib.hid (bl HB2.out hb HB2.out.size)
  have HR3 := Lib.hid hr
  have HSn3 := Lib.hid (HSn.out.keep hb)
  clear hb hr HSn kp p0 p1 p2 p3
  go_wp2_with fail
  have ba := al (o := .cells #[.int .u8 1] 5 (0, 0)) (Below.refl w3.heap.size w3) (Nat.le_refl _)
  have HR4 := Lib.hid (HR3.out.keep ba)
  have HSn4 := Lib.hid (HSn3.out.keep ba)
  have HB4 := Lib.hid (bl HB3.out ba HB3.out.size)
  have HX4 : Hid (Sl B8 (w3.alloc (.cells #[.int .u8 1] 5 (0, 0))) (some ⟨w3.heap.size, 0, none⟩) 1 1 [1]) := sl_block [1] 1 (hnew rfl) rfl rfl (by simp [maxLen])
  clear ba HR3 HSn3 HB3
  refine Calls.mono (SExplicit_ok gs 1 1 1 0 0 [[5]] _ 1 1 [1] _ HSn4.out (by decide) rfl HX4.out (HT.out.keep HB4.out)) ?_
  rintro e w5 ⟨ql, nl, cl, rfl, hl, hsn, hg⟩
  rw [comb_d] at hl
  obtain ⟨_, _, hbx, -⟩ := HSn4.out.mem
  have HL := Lib.hid hl
  have HR5 := Lib.hid (hg.rly hbx HR4.out (by decide) (by decide) (by decide) (by decide) (by decide))
  have HB5 := Lib.hid (HB4.out.trans (hg.below HGS.out HB4.out.size))
  have hnl : nl = 16 := by rw [← hl.len]; exact lenB
  have HNL := Lib.hid hnl
  clear hg hbx hl hsn HR4 HSn4 HB4 HX4 hnl
  obtain ⟨r0, r1⟩ := cells2 HR5.out.box
  go_wp2_with fail
  refine Calls.mono (TTake_any _ gt be 1 1 1 0 0 (.map none) v (.map []) [] 0 ql nl cl pktB5 w5 HR5.out.tk (HT.out.keep HB5.out) (by decide) HL.out (by rw [HNL.out]; show 16 ≤ 140737488355328; decide)) ?_
  rintro e w6 ⟨he, M6, v6, hT6, hc6, -⟩
  rw [readB.1] at he
  subst he
  rw [takeB 0 rfl] at hT6
  have HR6 := Lib.hid (HR5.out.took hT6 hc6)
  have HB6 := Lib.hid (HB5.out.trans (hc6.below HR5.out.tk HB2.out.size HB5.out.size))
  clear hT6 hc6 HR5 HB5 HL HNL r0 r1
  go_wp2_with fail
  have ba := al (o := .cells #[.int .u8 1, .int .u8 2] 5 (0, 0)) (Below.refl w6.heap.size w6) (Nat.le_refl _)
  have HR7 := Lib.hid (HR6.out.keep ba)
  have HB7 := Lib.hid (bl HB6.out ba HB6.out.size)
  clear ba HR6 HB6
  refine Calls.mono (YSay_none _ gr gt be 1 1 1 0 _ 4294967295 M6 v6 _ _ _ _ 2 2 _ HR7.out (by decide) (by decide)) ?_
  rintro e w8 ⟨qx, nx, cx, rfl, -, hb⟩
  rw [show sayC ([([1], [5])] : List Rw) 4294967295 2 = 4 by decide]
  have HR8 := Lib.hid (HR7.out.keep hb)
  have HB8 := Lib.hid (bl HB7.out hb HB7.out.size)
  clear hb HR7 HB7
  go_wp2_with fail
  have ba := al (o := .cells #[.int .u8 3] 5 (0, 0)) (Below.refl w8.heap.size w8) (Nat.le_refl _)
  have HR9 := Lib.hid (HR8.out.keep ba)
  have HB9 := Lib.hid (bl HB8.out ba HB8.out.size)
  have HX9 : Hid (Sl B8 (w8.alloc (.cells #[.int .u8 3] 5 (0, 0))) (some ⟨w8.heap.size, 0, none⟩) 1 1 [3]) := sl_block [3] 1 (hnew rfl) rfl rfl (by simp [maxLen])
  clear ba HR8 HB8
  refine Calls.mono (YSay_ok _ gr gt be 1 1 1 0 _ 4294967295 M6 v6 _ _ _ _ 1 1 [3] _ HR9.out HX9.out (HT.out.keep HB9.out) (by decide) (by decide) rfl) ?_
  rintro e w10 ⟨qy, ny, cy, rfl, -, hr10, hg10⟩
  have HR10 := Lib.hid hr10
  have HB10 := Lib.hid (HB9.out.trans (hg10.below (Nat.le_trans HB2.out.size HR9.out.old) HB9.out.size))
  clear hr10 hg10 HR9 HB9 HX9
  go_wp2_with fail
  have ba := al (o := .cells #[.int .u8 3] 5 (0, 0)) (Below.refl w10.heap.size w10) (Nat.le_refl _)
  have HR11 := Lib.hid (HR10.out.keep ba)
  have HB11 := Lib.hid (bl HB10.out ba HB10.out.size)
  clear ba HR10 HB10
  refine Calls.mono (YSay_none _ gr gt be 1 1 1 0 _ (4294967295 + 1) M6 v6 _ _ _ _ 1 1 _ HR11.out (by decide) (by decide)) ?_
  rintro e w12 ⟨qz, nz, cz, rfl, -, hb⟩
  rw [show sayC ([([1], [5])] : List Rw) (4294967295 + 1) 1 = 11 by decide]
  have HR12 := Lib.hid (HR11.out.keep hb)
  have HB12 := Lib.hid (bl HB11.out hb HB11.out.size)
  clear hb HR11 HB11
  go_wp2_with fail
  refine Calls.mono (YNext_nil _) ?_
  rintro e w13 ⟨rfl, hb⟩
  have HR13 := Lib.hid (HR12.out.keep hb)
  have HB13 := Lib.hid (bl HB12.out hb HB12.out.size)
  clear hb HR12 HB12
  go_wp2_with fail
  refine Calls.mono (YNext_any _ gr gt be 1 1 1 0 _ (4294967295 + 1) M6 v6 _ _ _ _ HR13.out) ?_
  rintro e w14 ⟨rfl, hb⟩
  have HB14 := Lib.hid (bl HB13.out hb HB13.out.size)
  clear hb HR13 HB13
  go_wp2_with fail
  refine Calls.mono (awake21 _ (HT.out.keep HB14.out)) ?_
  rintro e w15 ⟨rfl, hb⟩
  have HB15 := Lib.hid (bl HB14.out hb HB14.out.size)
  clear hb HB14
  go_wp2
  go_ret
  exact ⟨rfl, HB15.out⟩
end Go.Proofs.YtcfdopiponlboaaDoor
namespace Go.Proofs.YtcfdopiponlboaaDoor
open Go.RowKit Go.By
theorem halves_of {rest : List (String × DataW Unit)} {W : World} (h : laidMet Tryd.prog (("wellspring/sum.halves", Rows.laid_wellspring_sum_halves) :: rest) W) : HalfT W := by
  obtain ⟨zs, hz, hzl, hzc⟩ : ∃ zs : List Int, (Rows.laid_wellspring_sum_halves : DataW Unit) = Lib.tabData .u32 zs ∧ zs.length = 16 ∧ ∀ i, i < 16 → zs.getD i 0 = ((crcTab.getD i 0 : Nat) : Int) := ⟨[0, 498536548, 997073096, 651767980, 1994146192, 1802195444, 1303535960, 1342533948, 3988292384, 4027552580, 3604390888, 3412177804, 2607071920, 2262029012, 2685067896, 3183342108], rfl, rfl, by decide⟩
  rw [hz] at h
  have h3 := Lib.tabIs_of_head (g := 0) (t := 150) (e := 27) (n := 16) (by kernel_rfl) (by kernel_rfl) (by kernel_rfl) (by kernel_rfl) (by kernel_rfl) (by kernel_rfl) h
  intro i hi
  have := h3.cell (g := 0) (by kernel_rfl) i (by omega)
  rw [hzc i hi] at this
  exact this
end Go.Proofs.YtcfdopiponlboaaDoor
