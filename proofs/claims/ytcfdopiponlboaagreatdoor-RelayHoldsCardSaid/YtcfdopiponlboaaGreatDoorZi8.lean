/- Chapter 21: what a turn of a sender, a taker, a relay leaves as it is; sender.Explicit. Chapter 19: taker.Status, Rank, Object. A sender while others turn; two takers beside each other. Of a plan that may not be there is no gate, no taker, no relay; a plan that may be as numbers. A region that draws its order, by shapes, by what holds of the world as operations run, and by ties between slots. Two slices of headers, each grown by one in a region that draws its order. A plan of an object; ranks of combinations; rows of headers of new bytes while others turn. Chapter 21: what RelayHolds carries along: a sender, a relay and a taker of one object. append(s, make([]byte, k)...): a row of bytes and k noughts; shorter rows stay. What the drawn region of RelayHolds holds in which a draw is brought to the rank's length. Arguments that came in, as bytes and slices of bytes. Slices of structs of two slices of bytes, that came in. Sources that came in: a slice of structs of a byte, bytes and a number, opened. What the laws of the packets ask first: few bytes, small plans. Chapter 21: the law's awake. Where equations first clash: plain law. What is left of a vector behind rows that were kept. A row of headers that read in an older world; vectors of rows. An append leaves what it appends to as it was. Whether a vector is a combination of rows: Span. -/
import Derived.Test.YtcfdopiponlboaaGreatDoorZi7
import Derived.Lib.AppendZerosOnto
import Derived.OpenShut
import Derived.Lib.SmallJoins
import Derived.WalkKit
import Derived.Laws.AppendOwn
namespace Go.By
open Go.RowKit Go.Maps Go.Proofs.YtcfdopiponlboaaGreatDoor
section
variable {w w' : World} {g : Nat} {old : Array Value} {T' : Nat} {fr : Nat × Nat}
theorem GChg.blk (h : GChg w g w') (hg : w.heap[g]? = some (.cells old T' fr)) {b T : Nat} {cs : Array Value} {fr2 : Nat × Nat} (hb : w.heap[b]? = some (.cells cs T fr2)) (hne : T' ≠ T) : w'.heap[b]? = some (.cells cs T fr2) := by
  refine (h.block b (lt_of_block hb) fun e => ?_).trans hb
  rw [e, hg] at hb; injection hb with hb; injection hb with _ hb _; exact hne hb
theorem GChg.cnt (h : GChg w g w') (hg : w.heap[g]? = some (.cells old T' fr)) {M : Value} {N : Nat} {C : DataW Unit} (hc : CntM w M N C) : CntM w' M N C := by
  refine ⟨?_, hc.small⟩
  rcases hc.at_ with h1 | ⟨b, e, ho⟩
  · exact .inl h1
  · refine .inr ⟨b, e, ?_⟩
    have hlt := ho.lt
    obtain ⟨es, clock, h1, F, hs, hD⟩ := ho
    exact ⟨es, clock, (h.block b hlt (fun e => by rw [e, hg] at h1; cases h1)).trans h1, F, hs, hD⟩
theorem GChg.owns (h : GChg w g w') (hg : w.heap[g]? = some (.cells old T' fr)) {base T e n : Nat} {v : Value} {L : List Value} (ho : w.ownsRow base T e v n L) (hne : T' ≠ T) : w'.ownsRow base T e v n L := by
  refine owns_same ho h.size fun g2 hg2 => ?_
  rcases ho.2 with ⟨e1, _⟩ | ⟨g', cap, cur, e1, _, hh, _⟩
  · rw [e1] at hg2; cases hg2
  · rw [e1] at hg2; cases hg2
    exact (h.blk hg hh hne).trans hh.symm
theorem GChg.elm (h : GChg w g w') (hg : w.heap[g]? = some (.cells old T' fr)) {base be k t n : Nat} {v : Value} {K : List Rw} (hE : Elm w base be k t v n K) (h1 : T' ≠ 140) (h2 : T' ≠ 47) (h3 : T' ≠ 5) : Elm w' base be k t v n K := by
  refine ⟨h.blk hg hE.box h1, ?_, hE.old⟩
  obtain ⟨vs, a, b, o, r⟩ := hE.rows
  refine ⟨vs, a, b, h.owns hg o h2, fun j u hj => ?_⟩
  obtain ⟨x, hk, ⟨q1, m1, c1, e1, l1, o1⟩, ⟨q2, m2, c2, e2, l2, o2⟩⟩ := r j u hj
  exact ⟨x, hk, ⟨q1, m1, c1, e1, l1, h.owns hg o1 h3⟩, ⟨q2, m2, c2, e2, l2, h.owns hg o2 h3⟩⟩
theorem GChg.tkr (h : GChg w g w') (hg : w.heap[g]? = some (.cells old T' fr)) {base gt be L t k D N : Nat} {M v : Value} {C : DataW Unit} {K : List Rw} {st : Nat} (hT : Tkr w base gt be L t k D N M v C K st) (h1 : T' ≠ 140) (h2 : T' ≠ 47) (h3 : T' ≠ 5) (h4 : T' ≠ 92) : Tkr w' base gt be L t k D N M v C K st :=
  ⟨hT.ok, h.blk hg hT.box h4, h.cnt hg hT.cnt, h.elm hg hT.elm h1 h2 h3, hT.red, hT.old⟩
theorem GChg.rly (h : GChg w g w') (hg : w.heap[g]? = some (.cells old T' fr)) {base gr gt be L t k D N nx : Nat} {M v : Value} {C : DataW Unit} {K : List Rw} {st : Nat} (hR : Rly w base gr gt be L t k D N nx M v C K st) (h1 : T' ≠ 140) (h2 : T' ≠ 47) (h3 : T' ≠ 5) (h4 : T' ≠ 92) (h5 : T' ≠ 40) : Rly w' base gr gt be L t k D N nx M v C K st :=
  ⟨h.blk hg hR.box h5, h.tkr hg hR.tk h1 h2 h3 h4, hR.old⟩
end
theorem TChg.blk {w w' : World} {base gt be L t k D N : Nat} {M v : Value} {C : DataW Unit} {K : List Rw} {st : Nat} (h : TChg w w' gt be v) (hT : Tkr w base gt be L t k D N M v C K st) {b T : Nat} {cs : Array Value} {fr : Nat × Nat} (hb : w.heap[b]? = some (.cells cs T fr)) (h1 : T ≠ 92) (h2 : T ≠ 140) (h3 : 47 ≠ T) : w'.heap[b]? = some (.cells cs T fr) := by
  refine (h.block b (lt_of_block hb) (fun e => ?_) (fun e => ?_) (hT.elm.rows.ne_box hb h3)).trans hb
  · have := hT.box; rw [← e, hb] at this; injection this with this; injection this with _ this _; exact h1 this
  · have := hT.elm.box; rw [← e, hb] at this; injection this with this; injection this with _ this _; exact h2 this
theorem TChg.below {w w' : World} {B base gt be L t k D N : Nat} {M v : Value} {C : DataW Unit} {K : List Rw} {st : Nat} (h : TChg w w' gt be v) (hT : Tkr w base gt be L t k D N M v C K st) (hB : B ≤ base) (hw : B ≤ w.heap.size) : Below B w w' := by
  refine ⟨h.os, h.tape, h.output, h.size, fun i hi => h.block i (by omega) (by have := hT.old; omega) (by have := hT.elm.old; omega) (fun e => ?_)⟩
  have := (hT.elm.rows.lt _ e).1
  omega
end Go.By
namespace Go.Proofs.YtcfdopiponlboaaGreatDoor
open Go.RowKit Go.By Go.Maps
theorem Snd.keep {w w' : World} {gs L t k D nx : Nat} {xss : List (List UInt8)} (h : Snd w gs L t k D nx xss) (hb : Below w.heap.size w w') : Snd w' gs L t k D nx xss := by
  obtain ⟨q, c, h1, h2, h3⟩ := h.mem
  exact ⟨h.ok, ⟨q, c, (hb.block _ (lt_of_block h1)).trans h1, h2.keep hb, h3⟩, h.fit⟩
/-- a relay that took -/
theorem Rly.took {w w' : World} {base gr gt be L t k D N nx : Nat} {M v : Value} {C : DataW Unit} {K : List Rw} {st : Nat} (h : Rly w base gr gt be L t k D N nx M v C K st) {N' : Nat} {M' v' : Value} {C' : DataW Unit} {K' : List Rw} {st' : Nat} (hT : Tkr w' base gt be L t k D N' M' v' C' K' st') (hc : TChg w w' gt be v) : Rly w' base gr gt be L t k D N' nx M' v' C' K' st' :=
  ⟨hc.blk h.tk h.box (by decide) (by decide) (by decide), hT, h.old⟩
set_option maxRecDepth 100000 in
set_option maxHeartbeats 1000000 in
theorem SExplicit_ok (gs L t k D nx : Nat) (xss : List (List UInt8)) (p : Option Addr) (n c : Nat) (xs : List UInt8) (w : World) (hS : Snd w gs L t k D nx xss) (hnx : nx < 4294967296) (hn : n = k) (h : Sl B8 w p n c xs) (hT : HalfT w) :
    Calls Tryz.prog 29 #[.pointer (some ⟨gs, 0, none⟩), .slice p n c] w (SdRet w gs L t k D xss (pktB 0 D nx xs 0 (combS xs xss).1) (nx + 1) 0) := by
  have hr : Room n := by have := hS.ok.k2; show n ≤ 140737488355328; omega
  have HE := Lib.hid (RExplicit_any p n c xs w h hr)
  have HS := Lib.hid (fun w' q c' (hb : Below w.heap.size w w') (hs : Sl B8 w' q n c' xs) => SSend_ok gs L t k D nx xss 0 q n c' 0 xs w' (hS.keep hb) hnx (by unfold srcC; rw [if_pos rfl, if_pos hn]) hs hr (hT.keep hb))
  clear hS hnx hn h hT hr
  go_enter Tryz.func29, Tryz.ntmps29
  go_wp2_with fail
  refine Calls.mono HE.out ?_
  rintro e w1 ⟨q, c', rfl, hf, hb⟩
  have HB := Lib.hid hb
  have HF := Lib.hid hf
  clear hb hf
  go_wp2_with fail
  refine Calls.mono (HS.out w1 q c' HB.out HF.out.sl) ?_
  rintro e w2 ⟨qo, no, co, rfl, ho, hsn, hg⟩
  have HO := Lib.hid ho
  have HSn := Lib.hid hsn
  have HG := Lib.hid hg
  clear ho hsn hg
  go_wp2
  go_ret2
  exact ⟨qo, no, co, rfl, HO.out, HSn.out, ⟨HG.out.os.trans HB.out.os, HG.out.tape.trans HB.out.tape, HG.out.output.trans HB.out.output, Nat.le_trans HB.out.size HG.out.size, fun b hb hne => (HG.out.block b (Nat.lt_of_lt_of_le hb HB.out.size) hne).trans (HB.out.block b hb)⟩⟩
end Go.Proofs.YtcfdopiponlboaaGreatDoor
namespace Go.Proofs.YtcfdopiponlboaaGreatDoor
open Go.RowKit Go.By Go.Maps
set_option maxRecDepth 100000 in
set_option maxHeartbeats 1000000 in
theorem TStatus_any (base gt be L t k D N : Nat) (M v : Value) (C : DataW Unit) (K : List Rw) (st : Nat) (w : World) (h : Tkr w base gt be L t k D N M v C K st) :
    Calls Tryz.prog 27 #[.pointer (some ⟨gt, 0, none⟩)] w fun e w' => e = .returned (.int .i64 (st : Nat)) ∧ w = w' := by
  obtain ⟨c0, c1, c2, c3, c4, c5, c6⟩ := cells_seven h.box
  clear h
  go_enter Tryz.func27, Tryz.ntmps27
  go_wp2
  go_ret
  exact ⟨rfl, rfl⟩
set_option maxRecDepth 100000 in
set_option maxHeartbeats 1000000 in
theorem TRank_any (base gt be L t k D N : Nat) (M v : Value) (C : DataW Unit) (K : List Rw) (st : Nat) (w : World) (h : Tkr w base gt be L t k D N M v C K st) :
    Calls Tryz.prog 21 #[.pointer (some ⟨gt, 0, none⟩)] w fun e w' => e = .returned (.int .i64 (K.length : Nat)) ∧ w = w' := by
  have HE := Lib.hid (Rank_any' base be k t K.length v K w h.elm)
  obtain ⟨c0, c1, c2, c3, c4, c5, c6⟩ := cells_seven h.box
  clear h
  go_enter Tryz.func21, Tryz.ntmps21
  go_wp2_with fail
  refine Calls.mono HE.out ?_
  rintro e w1 ⟨rfl, rfl⟩
  go_wp2
  go_ret
  exact ⟨rfl, rfl⟩
/-- what Object tells -/
def objC (st : Nat) : Int := if st = 0 then 12 else if st = 2 then 13 else 0
set_option maxRecDepth 100000 in
set_option maxHeartbeats 1000000 in
theorem TObject_none (base gt be L t k D N : Nat) (M v : Value) (C : DataW Unit) (K : List Rw) (st : Nat) (w : World) (h : Tkr w base gt be L t k D N M v C K st) (hs : st = 0 ∨ st = 2) :
    Calls Tryz.prog 28 #[.pointer (some ⟨gt, 0, none⟩)] w fun e w' => e = .returned (.tuple #[.slice none 0 0, .int .i64 (objC st)]) ∧ w = w' := by
  obtain ⟨c0, c1, c2, c3, c4, c5, c6⟩ := cells_seven h.box
  clear h
  rcases hs with rfl | rfl
  · go_enter Tryz.func28, Tryz.ntmps28
    go_wp2
    go_ret2
    exact ⟨rfl, rfl⟩
  · go_enter Tryz.func28, Tryz.ntmps28
    go_wp2
    go_ret2
    exact ⟨rfl, rfl⟩
set_option maxRecDepth 100000 in
set_option maxHeartbeats 2000000 in
theorem TObject_done (base gt be L t k D N : Nat) (M v : Value) (C : DataW Unit) (K : List Rw) (w : World) (h : Tkr w base gt be L t k D N M v C K 1) (hK : K.length = k) :
    Calls Tryz.prog 28 #[.pointer (some ⟨gt, 0, none⟩)] w (RetL w (joinS (L : Int) (t : Int) (k : Int) (K.map (fun x : Rw => x.2))).1 (joinS (L : Int) (t : Int) (k : Int) (K.map (fun x : Rw => x.2))).2) := by
  have hk2 := h.ok.k2
  have ht2 := h.ok.t2
  have hR := h.red
  have hel : Elm w base be k t v k K := by have := h.elm; rw [hK] at this; exact this
  have HE := Lib.hid (ESolve_full base be k t v K w hel (fun r hr => by have := (hR.kept.rows r hr).1.2; show _ ≤ _; omega) hk2)
  have HJ : Hid (∀ q c w, Sl2 w q k c (K.map (fun x : Rw => x.2)) → Calls Tryz.prog 71 #[PVal L t k D, .slice q k c] w (RetL w (joinS (L : Int) (t : Int) (k : Int) (K.map (fun x : Rw => x.2))).1 (joinS (L : Int) (t : Int) (k : Int) (K.map (fun x : Rw => x.2))).2)) := fun q c w hs => Join_any (L : Int) (t : Int) (k : Int) (D : Int) q k c _ w hs h.ok.l
  have kt := h.box
  obtain ⟨c0, c1, c2, c3, c4, c5, c6⟩ := cells_seven kt
  clear h hel hR hK
  generalize joinS (L : Int) (t : Int) (k : Int) (K.map (fun x : Rw => x.2)) = J at *
  go_enter Tryz.func28, Tryz.ntmps28
  go_wp2_with fail
  refine Calls.mono HE.out ?_
  rintro e w1 ⟨q, c, rfl, ho, hb⟩
  have kt1 := (hb.block _ (lt_of_block kt)).trans kt
  have HB := Lib.hid hb
  have HO := Lib.hid (ho.sl2)
  clear hb ho kt c0 c1 c2 c3 c4 c5 c6
  obtain ⟨c0, c1, c2, c3, c4, c5, c6⟩ := cells_seven kt1
  go_wp2_with fail
  refine Calls.mono (HJ.out _ _ _ HO.out) ?_
  rintro e w2 ⟨q2, m2, d2, rfl, hs, hb⟩
  have HS := Lib.hid hs
  have HB2 := Lib.hid (bl HB.out hb HB.out.size)
  clear hb hs
  go_wp2
  go_ret2
  exact ⟨_, _, _, rfl, HS.out, HB2.out⟩
end Go.Proofs.YtcfdopiponlboaaGreatDoor
namespace Go.By
open Go.RowKit Go.Maps Go.Proofs.YtcfdopiponlboaaGreatDoor
section
variable {w w' : World} {base gt be L t k D N : Nat} {M v : Value} {C : DataW Unit} {K : List Rw} {st : Nat}
theorem TChg.owns (h : TChg w w' gt be v) (hT : Tkr w base gt be L t k D N M v C K st) {b2 T e n : Nat} {v2 : Value} {ys : List Value} (ho : w.ownsRow b2 T e v2 n ys) (h1 : T ≠ 92) (h2 : T ≠ 140) (h3 : ∀ g, v2.ownBlock = some g → v.ownBlock ≠ some g) : w'.ownsRow b2 T e v2 n ys := by
  refine owns_same ho h.size fun g2 hg2 => ?_
  rcases ho.2 with ⟨e1, _⟩ | ⟨g', cap, cur, e1, _, hh, _⟩
  · rw [e1] at hg2; cases hg2
  · have h4 := h3 g2 hg2
    rw [e1] at hg2; cases hg2
    refine h.block _ (lt_of_block hh) (fun e => ?_) (fun e => ?_) h4
    · have := hT.box; rw [← e, hh] at this; injection this with this; injection this with _ this _; exact h1 this
    · have := hT.elm.box; rw [← e, hh] at this; injection this with this; injection this with _ this _; exact h2 this
theorem tkr_owns_ne {b2 T e n : Nat} {v2 : Value} {ys : List Value} (hT : Tkr w base gt be L t k D N M v C K st) (ho : w.ownsRow b2 T e v2 n ys) (h : 47 ≠ T) : ∀ g, v2.ownBlock = some g → v.ownBlock ≠ some g := by
  intro g hg
  rcases ho.2 with ⟨e1, _⟩ | ⟨g', cap, cur, e1, _, hh, _⟩
  · rw [e1] at hg; cases hg
  · rw [e1] at hg; cases hg
    exact hT.elm.rows.ne_box hh h
theorem TChg.bw (h : TChg w w' gt be v) (hT : Tkr w base gt be L t k D N M v C K st) {b : Nat} {u : Value} {xs : List UInt8} (hu : Bw 5 w b u xs) : Bw 5 w' b u xs := by
  obtain ⟨q, m, c, e, l, o⟩ := hu
  exact ⟨q, m, c, e, l, h.owns hT o (by decide) (by decide) (tkr_owns_ne hT o (by decide))⟩
theorem TChg.rwl (h : TChg w w' gt be v) (hT : Tkr w base gt be L t k D N M v C K st) {b2 n2 : Nat} {v2 : Value} {K2 : List Rw} (h2 : RwL 47 5 w b2 v2 n2 K2) (hne : ∀ g, v2.ownBlock = some g → v.ownBlock ≠ some g) : RwL 47 5 w' b2 v2 n2 K2 := by
  obtain ⟨vs, a, b, o, r⟩ := h2
  exact ⟨vs, a, b, h.owns hT o (by decide) (by decide) hne, fun j u hj => by obtain ⟨x, hk, g1, g2⟩ := r j u hj; exact ⟨x, hk, h.bw hT g1, h.bw hT g2⟩⟩
theorem TChg.cnt (h : TChg w w' gt be v) (hT : Tkr w base gt be L t k D N M v C K st) {M2 : Value} {N2 : Nat} {C2 : DataW Unit} (hc : CntM w M2 N2 C2) : CntM w' M2 N2 C2 := by
  refine ⟨?_, hc.small⟩
  rcases hc.at_ with h1 | ⟨b, e, ho⟩
  · exact .inl h1
  · refine .inr ⟨b, e, ?_⟩
    have hlt := ho.lt
    obtain ⟨es, clock, h1, F, hs, hD⟩ := ho
    refine ⟨es, clock, (h.block b hlt (fun e => ?_) (fun e => ?_) (fun e => ?_)).trans h1, F, hs, hD⟩
    · have := hT.box; rw [← e, h1] at this; cases this
    · have := hT.elm.box; rw [← e, h1] at this; cases this
    · obtain ⟨vs, _, _, o, _⟩ := hT.elm.rows
      rcases o.2 with ⟨e1, _⟩ | ⟨g', cap, cur, e1, _, hh, _⟩
      · rw [e1] at e; cases e
      · rw [e1] at e; cases e
        rw [h1] at hh; cases hh
/-- another taker stays as it is -/
structure TApart (gt be : Nat) (v : Value) (gt2 be2 : Nat) (v2 : Value) : Prop where
  t : gt2 ≠ gt
  e : be2 ≠ be
  v : ∀ g, v2.ownBlock = some g → v.ownBlock ≠ some g
theorem TApart.symm {gt be gt2 be2 : Nat} {v v2 : Value} (h : TApart gt be v gt2 be2 v2) : TApart gt2 be2 v2 gt be v :=
  ⟨fun e => h.t e.symm, fun e => h.e e.symm, fun g hg e => h.v g e hg⟩
/-- a taker that took: its rows lie where they lay, or in new memory -/
theorem TApart.next {gt be gt2 be2 : Nat} {v v' v2 : Value} {n : Nat} (h : TApart gt be v gt2 be2 v2) (hv : v'.ownBlock = v.ownBlock ∨ ∀ b, v'.ownBlock = some b → n ≤ b) (h2 : ∀ g, v2.ownBlock = some g → g < n) : TApart gt be v' gt2 be2 v2 :=
  ⟨h.t, h.e, fun g hg e => by
    rcases hv with h1 | h1
    · exact h.v g hg (h1 ▸ e)
    · have := h1 g e; have := h2 g hg; omega⟩
theorem TChg.tkr2 (h : TChg w w' gt be v) (hT : Tkr w base gt be L t k D N M v C K st) {base2 gt2 be2 N2 L2 t2 k2 D2 : Nat} {M2 v2 : Value} {C2 : DataW Unit} {K2 : List Rw} {st2 : Nat} (hT2 : Tkr w base2 gt2 be2 L2 t2 k2 D2 N2 M2 v2 C2 K2 st2) (ha : TApart gt be v gt2 be2 v2) : Tkr w' base2 gt2 be2 L2 t2 k2 D2 N2 M2 v2 C2 K2 st2 := by
  refine ⟨hT2.ok, (h.block gt2 (lt_of_block hT2.box) ha.t (fun e => ?_) (hT.elm.rows.ne_box hT2.box (by decide))).trans hT2.box, h.cnt hT hT2.cnt, ⟨(h.block be2 (lt_of_block hT2.elm.box) (fun e => ?_) ha.e (hT.elm.rows.ne_box hT2.elm.box (by decide))).trans hT2.elm.box, h.rwl hT hT2.elm.rows ha.v, hT2.elm.old⟩, hT2.red, hT2.old⟩
  · have := hT.elm.box; rw [← e, hT2.box] at this; injection this with this; injection this with _ this _; exact absurd this (by decide)
  · have := hT.box; rw [← e, hT2.elm.box] at this; injection this with this; injection this with _ this _; exact absurd this (by decide)
end
theorem sl_gchg {w w' : World} {q : Option Addr} {n c g T : Nat} {ys : List UInt8} {cs : Array Value} {fr : Nat × Nat} (h : Sl B8 w q n c ys) (hg : w.heap[g]? = some (.cells cs T fr)) (hno : ∀ (j : Nat) (x : UInt8), cs[j]? ≠ some (B8 x)) (hc : GChg w g w') : Sl B8 w' q n c ys :=
  ⟨h.len, h.le, h.max, h.nil, fun j hj => by
    obtain ⟨b, o, e, hcl⟩ := h.rs j hj
    refine ⟨b, o, e, ?_⟩
    have hne : b ≠ g := fun e1 => by
      rw [e1, cell_of_row _ _ (o + j) _ _ _ hg] at hcl
      exact hno _ _ hcl
    exact (World.cell?_of_block (a := ⟨b, o + j, none⟩) (hc.block b (lt_of_cell hcl) hne)).trans hcl⟩
theorem sl2_gchg {w w' : World} {q : Option Addr} {n c g T : Nat} {yss : List (List UInt8)} {cs : Array Value} {fr : Nat × Nat} (h : Sl2 w q n c yss) (hq : ∀ a, q = some a → a.block ≠ g) (hg : w.heap[g]? = some (.cells cs T fr)) (hno : ∀ (j : Nat) (x : UInt8), cs[j]? ≠ some (B8 x)) (hc : GChg w g w') : Sl2 w' q n c yss :=
  ⟨h.len, h.le, h.max, h.nil, fun j ys hj => by
    obtain ⟨b, o, q', c', e, hcl, hs⟩ := h.rs j ys hj
    exact ⟨b, o, q', c', e, (World.cell?_of_block (a := ⟨b, o + j, none⟩) (hc.block b (lt_of_cell hcl) (hq _ e))).trans hcl, sl_gchg hs hg hno hc⟩⟩
theorem GChg.trans {w a b : World} {g : Nat} (h : GChg w g a) (h2 : GChg a g b) : GChg w g b :=
  ⟨h2.os.trans h.os, h2.tape.trans h.tape, h2.output.trans h.output, Nat.le_trans h.size h2.size, fun i hi hg => (h2.block i (Nat.lt_of_lt_of_le hi h.size) hg).trans (h.block i hi hg)⟩
theorem GChg.then {w a b : World} {g B : Nat} (h : GChg w g a) (h2 : Below B a b) (hB : w.heap.size ≤ B) : GChg w g b :=
  ⟨h2.os.trans h.os, h2.tape.trans h.tape, h2.output.trans h.output, Nat.le_trans h.size h2.size, fun i hi hg => (h2.block i (Nat.lt_of_lt_of_le hi hB)).trans (h.block i hi hg)⟩
end Go.By
namespace Go.Proofs.YtcfdopiponlboaaGreatDoor
open Go.RowKit Go.By Go.Maps
/-- a sender, seen from the world in which it was made -/
structure SndO (w0 w : World) (gs L t k D nx : Nat) (xss : List (List UInt8)) : Prop where
  ok : POK L t k D
  mem : ∃ q c n0, w0.heap[gs]? = some (.cells #[.int .i64 (L : Nat), .int .i64 (t : Nat), .int .i64 (k : Nat), .int .u32 (D : Nat), .slice q k c, .int .u64 (n0 : Nat)] 110 (0, 0)) ∧ w.heap[gs]? = some (.cells #[.int .i64 (L : Nat), .int .i64 (t : Nat), .int .i64 (k : Nat), .int .u32 (D : Nat), .slice q k c, .int .u64 (nx : Nat)] 110 (0, 0)) ∧ Sl2 w0 q k c xss ∧ ∀ a, q = some a → a.block ≠ gs
  fit : ∀ xs, xs ∈ xss → xs.length = t
  chg : GChg w0 gs w
theorem SndO.start {w : World} {gs L t k D nx : Nat} {xss : List (List UInt8)} (h : Snd w gs L t k D nx xss) : SndO w w gs L t k D nx xss := by
  obtain ⟨q, c, h1, h2, h3⟩ := h.mem
  exact ⟨h.ok, ⟨q, c, nx, h1, h1, h2, h3⟩, h.fit, ⟨rfl, rfl, rfl, Nat.le_refl _, fun _ _ _ => rfl⟩⟩
theorem SndO.snd {w0 w : World} {gs L t k D nx : Nat} {xss : List (List UInt8)} (h : SndO w0 w gs L t k D nx xss) : Snd w gs L t k D nx xss := by
  obtain ⟨q, c, n0, h1, h2, h3, h4⟩ := h.mem
  exact ⟨h.ok, ⟨q, c, h2, sl2_gchg h3 h4 h1 noByte6 h.chg, h4⟩, h.fit⟩
theorem SndO.lt {w0 w : World} {gs L t k D nx : Nat} {xss : List (List UInt8)} (h : SndO w0 w gs L t k D nx xss) : gs < w0.heap.size := by
  obtain ⟨q, c, n0, h1, h2, h3, h4⟩ := h.mem
  exact lt_of_block h1
theorem SndO.keep {w0 w w' : World} {gs L t k D nx B : Nat} {xss : List (List UInt8)} (h : SndO w0 w gs L t k D nx xss) (hb : Below B w w') (hB : w0.heap.size ≤ B) : SndO w0 w' gs L t k D nx xss := by
  have hl := h.lt
  obtain ⟨q, c, n0, h1, h2, h3, h4⟩ := h.mem
  exact ⟨h.ok, ⟨q, c, n0, h1, (hb.block _ (Nat.lt_of_lt_of_le hl hB)).trans h2, h3, h4⟩, h.fit, h.chg.then hb hB⟩
theorem SndO.sent {w0 w w' : World} {gs L t k D nx nx' : Nat} {xss : List (List UInt8)} {ys : List UInt8} {code : Int} {e : Ending} (h : SndO w0 w gs L t k D nx xss) (hs : SdRetQ w gs L t k D xss ys nx nx' code e w') : SndO w0 w' gs L t k D nx' xss := by
  obtain ⟨q, c, n0, h1, h2, h3, h4⟩ := h.mem
  obtain ⟨⟨_, _, _, _, _, _, hg⟩, hq⟩ := hs
  exact ⟨h.ok, ⟨q, c, n0, h1, hq q c h2, h3, h4⟩, h.fit, h.chg.trans hg⟩
set_option maxRecDepth 100000 in
set_option maxHeartbeats 1000000 in
/-- of a source that does not fit nothing is sent -/
theorem SSend_bad (gs L t k D nx : Nat) (xss : List (List UInt8)) (m : UInt8) (p : Option Addr) (j c s : Nat) (xs : List UInt8) (w : World) (hS : Snd w gs L t k D nx xss) (hnx : nx < 4294967296) (hm : srcC m j k ≠ 0) (h : Sl B8 w p j c xs) (hr : Room j) :
    Calls Tryz.prog 20 #[.pointer (some ⟨gs, 0, none⟩), SVal m p j c s] w fun e w' => e = .returned (.tuple #[.slice none 0 0, .int .i64 (srcC m j k)]) ∧ Below w.heap.size w w' := by
  obtain ⟨qs, cs, hbox, hsx, hqs⟩ := hS.mem
  have hV : Hid (∀ w, Sl B8 w p j c xs → Calls Tryz.prog 51 #[SVal m p j c s, .int .i64 (k : Nat)] w (SRet w (if srcC m j k = 0 then vecS m xs s k else []) (srcC m j k))) := fun w h => SVector_any m p j c s k xs hS.ok.k1 hS.ok.k2 w h hr
  have e0 : ((nx : Int) == 4294967296) = false := beq_eq_false_iff_ne.2 (by omega)
  have hz : (srcC m j k != 0) = true := bne_iff_ne.2 hm
  generalize srcC m j k = R at *
  generalize (if R = 0 then vecS m xs s k else []) = V at *
  have H := Lib.hid h
  have HBOX := Lib.hid hbox
  have a0 : ∀ o', (w.alloc o').cell? ⟨gs, 5, none⟩ = some (.int .u64 (nx : Nat)) := fun _ => calloc (cells_six hbox).2.2.2.2.2
  clear hS h hm hsx hqs hbox hr hnx
  go_enter Tryz.func20, Tryz.ntmps20
  go_wp2_with fail
  have hgs := lt_of_block HBOX.out
  have B0 : Hid (Below w.heap.size w (w.alloc (.cells #[B8 m, .slice p j c, .int .u64 (s : Nat)] 67 (0, 0)))) := al (Below.refl _ _) (Nat.le_refl _)
  have k1 : (w.alloc (.cells #[B8 m, .slice p j c, .int .u64 (s : Nat)] 67 (0, 0))).heap[w.heap.size]? = some (.cells #[B8 m, .slice p j c, .int .u64 (s : Nat)] 67 (0, 0)) := hnew rfl
  have k2 := (B0.out.block _ hgs).trans HBOX.out
  generalize w.alloc (.cells #[B8 m, .slice p j c, .int .u64 (s : Nat)] 67 (0, 0)) = w1 at *
  have H1 := Lib.hid (H.out.keep B0.out)
  obtain ⟨b0, b1, b2⟩ := cells_three k1
  obtain ⟨c0, c1, c2, c3, c4, c5⟩ := cells_six k2
  refine wp_region_shapes (fun ix => ([.val (.agg #[B8 m, .slice p j c, .int .u64 (s : Nat)]), .val (.pointer (some ⟨gs, 0, none⟩)), .val (.pointer (some ⟨gs, 0, none⟩)), .val (.pointer (some ⟨gs, 0, none⟩)), .val (.pointer (some ⟨gs, 2, none⟩)), .val (.int .i64 (k : Nat)), ShSR (V) (R), ShSR (V) (R), .bytes (V), .val (.int .i64 (R)), .bytes (V), .val (.int .i64 (R))][ix]?).getD (.any)) 79 rfl (by kernel_rfl) (by decide) (by decide) (by decide) ?_ ?_
  · refine ⟨?_, ?_, ?_, ?_, ?_, ?_, ?_, ?_, ?_, ?_, ?_, ?_, trivial⟩
    · intro a W hb0 hs hp hi; have hb := undrew hb0; clear hb0
      have tt : sl a 3 = .pointer (some ⟨w.heap.size, 0, none⟩) := hi 3 (by decide)
      have dd0 := (hb.cell (p := ⟨w.heap.size, 0, none⟩) (lt_of_cell b0)).trans b0
      have dd1 := (hb.cell (p := ⟨w.heap.size, 1, none⟩) (lt_of_cell b1)).trans b1
      have dd2 := (hb.cell (p := ⟨w.heap.size, 2, none⟩) (lt_of_cell b2)).trans b2
      refine ite_y rfl (wp_val (.agg #[B8 m, .slice p j c, .int .u64 (s : Nat)]) ?_ ?_)
      · simp only [execOp, eval_tmp, tt]; simp [go_sem, dd0, dd1, dd2]
      · exact ⟨_, rfl, Below.refl _ _, rfl⟩
    · intro a W hb0 hs hp hi; have hb := undrew hb0; clear hb0
      have t0 : sl a 0 = .pointer (some ⟨gs, 0, none⟩) := hi 0 (by decide)
      exact ite_y rfl (wp_val (sl a 0) rfl ⟨_, rfl, Below.refl _ _, t0⟩)
    · intro a W hb0 hs hp hi; have hb := undrew hb0; clear hb0
      have tt : sl a 20 = .pointer (some ⟨gs, 0, none⟩) := hp 1 (by decide)
      refine ite_y rfl (wp_val (.pointer (some ⟨gs, 0, none⟩)) ?_ ?_)
      · simp only [execOp, eval_tmp, tt]; simp [go_sem]
      · exact ⟨_, rfl, Below.refl _ _, rfl⟩
    · intro a W hb0 hs hp hi; have hb := undrew hb0; clear hb0
      have tt : sl a 21 = .pointer (some ⟨gs, 0, none⟩) := hp 2 (by decide)
      refine ite_y rfl (wp_val (.pointer (some ⟨gs, 0, none⟩)) ?_ ?_)
      · simp only [execOp, eval_tmp, tt]; simp [go_sem]
      · exact ⟨_, rfl, Below.refl _ _, rfl⟩
    · intro a W hb0 hs hp hi; have hb := undrew hb0; clear hb0
      have tt : sl a 22 = .pointer (some ⟨gs, 0, none⟩) := hp 3 (by decide)
      refine ite_y rfl (wp_val (.pointer (some ⟨gs, 2, none⟩)) ?_ ?_)
      · simp only [execOp, eval_tmp, tt]; simp [go_sem]
      · exact ⟨_, rfl, Below.refl _ _, rfl⟩
    · intro a W hb0 hs hp hi; have hb := undrew hb0; clear hb0
      have tt : sl a 23 = .pointer (some ⟨gs, 2, none⟩) := hp 4 (by decide)
      have dd := (hb.cell (p := ⟨gs, 2, none⟩) (lt_of_cell c2)).trans c2
      refine ite_y rfl (wp_val (.int .i64 (k : Nat)) ?_ ?_)
      · simp only [execOp, eval_tmp, tt]; simp [go_sem, dd]
      · exact ⟨_, rfl, Below.refl _ _, rfl⟩
    · intro a W hb0 hs hp hi; have hb := undrew hb0; clear hb0
      have t19 : sl a 19 = .agg #[B8 m, .slice p j c, .int .u64 (s : Nat)] := hp 0 (by decide)
      have t24 : sl a 24 = .int .i64 (k : Nat) := hp 5 (by decide)
      refine ite_y rfl (wp_enter 51 #[SVal m p j c s, .int .i64 (k : Nat)] ?_ (hV.out _ (H1.out.keep hb)) ?_)
      · simp only [execOp, resolve, List.map_toArray, List.map, eval_tmp, eval_func, eval_const, t19, t24]; simp [go_sem]
      · rintro e W' ⟨q5, n5, g5, rfl, o5, hw⟩; exact ⟨_, rfl, _, rfl, hw, q5, n5, g5, rfl, o5⟩
    · intro a W hb0 hs hp hi; have hb := undrew hb0; clear hb0
      exact ite_y rfl (wp_val (sl a 25) rfl ⟨_, rfl, Below.refl _ _, hp 6 (by decide)⟩)
    · intro a W hb0 hs hp hi; have hb := undrew hb0; clear hb0
      have tt : SRT (V) (R) (sl a 18) W := hp 7 (by decide)
      obtain ⟨q5, n5, g5, tt, z5⟩ := tt
      refine ite_y rfl (wp_val (.slice q5 n5 g5) ?_ ?_)
      · simp only [execOp, eval_tmp, tt]; rfl
      · exact ⟨_, rfl, Below.refl _ _, q5, n5, g5, rfl, z5⟩
    · intro a W hb0 hs hp hi; have hb := undrew hb0; clear hb0
      have tt : SRT (V) (R) (sl a 18) W := hp 7 (by decide)
      obtain ⟨q5, n5, g5, tt, z5⟩ := tt
      refine ite_y rfl (wp_val (.int .i64 (R)) ?_ ?_)
      · simp only [execOp, eval_tmp, tt]; rfl
      · exact ⟨_, rfl, Below.refl _ _, rfl⟩
    · intro a W hb0 hs hp hi; have hb := undrew hb0; clear hb0
      exact ite_y rfl (wp_val (sl a 26) rfl ⟨_, rfl, Below.refl _ _, hp 8 (by decide)⟩)
    · intro a W hb0 hs hp hi; have hb := undrew hb0; clear hb0
      have t27 : sl a 27 = .int .i64 (R) := hp 9 (by decide)
      exact ite_y rfl (wp_val (sl a 27) rfl ⟨_, rfl, Below.refl _ _, t27⟩)
  intro a w2 hb hs hd hI ht
  have ha := act_is [19, 20, 21, 22, 23, 24, 25, 18, 26, 27, 6, 7] hs hd ht (by decide)
  have t7 : sl a 7 = .int .i64 (R) := hI 11 (by decide)
  have y6 := hI 10 (by decide)
  obtain ⟨q6, n6, c6, t6, z6⟩ := y6
  simp only [List.foldl, t7, t6] at ha
  generalize sl a 19 = u19 at ha
  generalize sl a 20 = u20 at ha
  generalize sl a 21 = u21 at ha
  generalize sl a 22 = u22 at ha
  generalize sl a 23 = u23 at ha
  generalize sl a 24 = u24 at ha
  generalize sl a 25 = u25 at ha
  generalize sl a 18 = u18 at ha
  generalize sl a 26 = u26 at ha
  generalize sl a 27 = u27 at ha
  simp only [Act.put, List.setIfInBounds_toArray, List.set_cons_zero, List.set_cons_succ] at ha
  rw [ha]
  clear ha hI ht
  have HB2 := Lib.hid (bl B0.out hb B0.out.size)
  clear hb z6 k1 k2 b0 b1 b2 c0 c1 c2 c3 c4 c5 H1
  go_wp2
  go_ret2
  exact ⟨rfl, HB2.out⟩
end Go.Proofs.YtcfdopiponlboaaGreatDoor
namespace Go.Proofs.YtcfdopiponlboaaGreatDoor
open Go.RowKit Go.By Go.Maps
theorem pok_of {l s n d : Int} (hl : l ≤ 9223372036854775807) (hc : checkS l s n = 0) (h0 : 0 ≤ d) (h1 : d < 4294967296) : ∃ L t k D : Nat, l = L ∧ s = t ∧ n = k ∧ d = D ∧ POK L t k D := by
  have hf : fitS l s = 0 ∧ n = needS l s := by
    unfold checkS at hc
    by_cases hf : fitS l s = 0
    · rw [if_pos hf] at hc
      refine ⟨hf, ?_⟩
      by_cases hn : n = needS l s
      · exact hn
      · rw [if_neg hn] at hc; omega
    · rw [if_neg hf] at hc; exact absurd hc hf
  obtain ⟨hf, hn⟩ := hf
  have hs : 0 ≤ l ∧ 1 ≤ s ∧ s ≤ 65535 ∧ needS l s ≤ 4096 := by
    unfold fitS at hf
    split at hf
    · omega
    · split at hf
      · omega
      · split at hf
        · omega
        · omega
  obtain ⟨g1, g2⟩ := needS_pos hs.1 hs.2.1
  refine ⟨l.toNat, s.toNat, n.toNat, d.toNat, by omega, by omega, by omega, by omega, ⟨?_, by omega, by omega, by omega, by omega, by omega, by omega⟩⟩
  rw [show ((l.toNat : Nat) : Int) = l by omega, show ((s.toNat : Nat) : Int) = s by omega, show ((n.toNat : Nat) : Int) = n by omega]
  exact hc
end Go.Proofs.YtcfdopiponlboaaGreatDoor
namespace Go.By
open Go.RowKit
section
variable {P : Program} {ops : Array Oper} {Q : Exit → Act → World → Prop}
/-- what is to be shown of one operation -/
def StepTie (P : Program) (ops : Array Oper) (Q : Exit → Act → World → Prop) (a0 : Act) (E : (Nat → Bool) → World → Prop) (R : Nat → World → World → Prop) (sh : Nat → Value → World → Prop) (X : Nat → (Nat → Value) → Prop) (i : Nat) (o : Oper) : Prop :=
  ∀ (a : Act) (w : World) (dn : Nat → Bool), dn i = false → E dn w → a.tmps.size = a0.tmps.size → (∀ k, k ∈ preds o → InvD ops sh k (sl a) w) → (∀ k, k ∈ preds o → X k (sl a)) → (∀ t, initAt ops i t = true → sl a t = sl a0 t) →
    if Region.wanted o (yielded ops a.tmps) = true then o.wp P a w (fun a' w' => ∃ v, a' = a.put o.dst v ∧ R i w w' ∧ sh i v w' ∧ X i (sl (a.put o.dst v))) Q
    else R i w w ∧ sh i undef w ∧ X i (sl (a.put o.dst undef))
def EachTie (P : Program) (ops : Array Oper) (Q : Exit → Act → World → Prop) (a0 : Act) (E : (Nat → Bool) → World → Prop) (R : Nat → World → World → Prop) (sh : Nat → Value → World → Prop) (X : Nat → (Nat → Value) → Prop) : List Oper → Nat → Prop
  | [], _ => True
  | o :: rest, i => StepTie P ops Q a0 E R sh X i o ∧ EachTie P ops Q a0 E R sh X rest (i + 1)
def InvTie (ops : Array Oper) (sh : Nat → Value → World → Prop) (X : Nat → (Nat → Value) → Prop) (i : Nat) (σ : Nat → Value) (w : World) : Prop := InvD ops sh i σ w ∧ X i σ
theorem eachTie_of {a0 : Act} {E : (Nat → Bool) → World → Prop} {R : Nat → World → World → Prop} {sh : Nat → Value → World → Prop} {X : Nat → (Nat → Value) → Prop} {n : Nat} (hn : a0.tmps.size = n) : ∀ (l : List Oper) (k : Nat), (∀ j o, l[j]? = some o → ops[k + j]? = some o) → (l.all fun o => match o.dst with
    | some d => decide (d < n)
    | none => false) = true →
    EachTie P ops Q a0 E R sh X l k → EachDn P ops Q a0 E R (InvTie ops sh X) l k := by
  intro l
  induction l with
  | nil => intro k _ _ _; trivial
  | cons o l ih =>
    intro k hk hd h
    simp only [List.all_cons, Bool.and_eq_true] at hd
    refine ⟨?_, ih (k + 1) (fun j o' hj => by have := hk (j + 1) o' (by simpa using hj); rwa [show k + (j + 1) = k + 1 + j by omega] at this) hd.2 h.2⟩
    intro a w dn hdn hE hs hp hi
    have ho : ops[k]? = some o := by have := hk 0 o (by simp); simpa using this
    have hs1 := h.1 a w dn hdn hE hs (fun k hk => (hp k hk).1) (fun k hk => (hp k hk).2) hi
    cases hdo : o.dst with
    | none => rw [hdo] at hd; simp at hd
    | some d =>
      rw [hdo] at hd
      have hd1 : d < n := of_decide_eq_true hd.1
      have hdn : d < a.tmps.size := by rw [hs, hn]; exact hd1
      have hdst : dstOf ops k = some d := by simp [dstOf, ho, hdo]
      split
      · rename_i hw
        rw [if_pos hw] at hs1
        refine Oper.wp_mono ?_ hs1
        rintro a' w' ⟨v, e, hb, hok, hx⟩
        refine ⟨v, e.trans (by rw [hdo]), hb, ?_, by rw [e]; exact hx⟩
        unfold InvD
        rw [hdst]
        show sh k (sl a' d) w'
        rw [e, hdo, put_same _ _ _ hdn]; exact hok
      · rename_i hw
        rw [if_neg hw] at hs1
        refine ⟨hs1.1, ?_, by rw [hdo] at hs1; exact hs1.2.2⟩
        unfold InvD
        rw [hdst]
        show sh k (sl (a.put (some d) undef) d) w
        rw [put_same _ _ _ hdn]; exact hs1.2.1
/-- no operation that may run behind j writes what j's tie speaks of -/
def depB (ops : Array Oper) (dep : Nat → List Nat) : Bool := (List.range ops.size).all fun j => (List.range ops.size).all fun i => decide (i = j) || predB ops i j || (dep j).all fun t => (dstOf ops i) != some t
/-- a drawn region by shapes, by what holds of the world, and by ties between slots -/
theorem wp_region_ties {id : Nat} {a0 : Act} {w0 : World} (E : (Nat → Bool) → World → Prop) (R : Nat → World → World → Prop) (sh : Nat → Value → World → Prop) (X : Nat → (Nat → Value) → Prop) (dep : Nat → List Nat) (n : Nat) (hn : a0.tmps.size = n) (hm : P.follows .mixedOrders = true) (hback : backB ops = true) (hdist : distB ops = true) (hdsts : dstsB ops n = true) (hdep : depB ops dep = true)
    (hX : ∀ j σ σ', (∀ t, t ∈ dep j → σ' t = σ t) → X j σ → X j σ')
    (E0 : E (fun _ => false) w0.drew) (ER : ∀ dn i w w', dn i = false → E dn w → R i w w' → E (fun j => if i = j then true else dn j) w') (keep : ∀ i j v w w', i ≠ j → predB ops i j = false → sh j v w → R i w w' → sh j v w')
    (each : EachTie P ops Q a0 E R sh X ops.toList 0)
    (fin : ∀ a w dn, E dn w → a.tmps.size = a0.tmps.size → a.defers = a0.defers → (∀ j, j < ops.size → InvD ops sh j (sl a) w) → (∀ j, j < ops.size → X j (sl a)) → (∀ t, (ops.toList.all fun o => o.dst != some t) = true → sl a t = sl a0 t) → Q .normal a w) :
    (Code.region id ops true).wp P Q a0 w0 := by
  refine wp_region_done hm hback E R (InvTie ops sh X) E0 ER ?_ (eachTie_of hn _ 0 (fun j o hj => by simpa using hj) hdsts each) (fun a w dn h1 h2 h3 h4 h5 => fin a w dn h1 h2 h3 (fun j hj => (h4 j hj).1) (fun j hj => (h4 j hj).2) h5)
  intro i j oi oj σ σ' w w' hij hoi hoj _ hI hR hσ _ hnp
  have hi' : i < ops.size := (Array.getElem?_eq_some_iff.1 hoi).1
  have hj' : j < ops.size := (Array.getElem?_eq_some_iff.1 hoj).1
  have hpf : predB ops i j = false := by
    unfold predB
    rw [hoj]
    show (preds oj).contains i = false
    cases hc : (preds oj).contains i with
    | false => rfl
    | true =>
      have hdo := List.all_eq_true.1 hdsts oi (by rw [Array.mem_toList_iff]; exact Array.mem_of_getElem? hoi)
      cases hd : oi.dst with
      | none => rw [hd] at hdo; simp at hdo
      | some d => exact (hnp d hd (by simpa using hc)).elim
  refine ⟨?_, ?_⟩
  · have hI := hI.1
    unfold InvD at hI ⊢
    cases hdj : dstOf ops j with
    | none => trivial
    | some d =>
      rw [hdj] at hI
      show sh j (σ' d) w'
      have hne : oi.dst ≠ some d := by
        intro e
        have := List.all_eq_true.1 (List.all_eq_true.1 hdist i (List.mem_range.2 hi')) j (List.mem_range.2 hj')
        rw [hoi, hoj] at this
        have hdj' : oj.dst = some d := by simpa [dstOf, hoj] using hdj
        simp [e, hdj', hij] at this
      rw [hσ d hne]
      exact keep i j _ _ _ hij hpf hI hR
  · refine hX j σ σ' (fun t ht => hσ t ?_) hI.2
    intro e
    have := List.all_eq_true.1 (List.all_eq_true.1 hdep j (List.mem_range.2 hj')) i (List.mem_range.2 hi')
    rw [hpf] at this
    have hd : dstOf ops i = some t := by simp [dstOf, hoi, e]
    simp [hij, hd] at this
    exact this t ht rfl
end
end Go.By
namespace Go.By
open Go.RowKit
theorem Hdr.keep {T base i : Nat} {w1 w w' : World} {v : Value} {xss : List (List UInt8)} (h : Hdr T w1 base w v i xss) (hb : Below w.heap.size w w') : Hdr T w1 base w' v i xss := by
  obtain ⟨vs, o, hl, hr⟩ := h
  exact ⟨vs, owns_keepv o hb, hl, hr⟩
section
variable {T : Nat} {wz W w w' : World} {va vb : Value} {n i4 i9 i : Nat} {A B : List (List UInt8)} {dn : Nat → Bool}
end
end Go.By
namespace Go.Proofs.YtcfdopiponlboaaGreatDoor
open Go.RowKit Go.By Gf Go.Maps
/-- an object that a plan fits -/
structure ObjP (n t k D : Nat) : Prop where
  ok : POK n t k D
  fit : ∀ i : Nat, i < k → i * t ≤ n
  le : n ≤ k * t
theorem of_obj {n : Nat} {s d : Int} (hf : fitS n s = 0) (hn : (n : Int) ≤ 9223372036854775807) (d0 : 0 ≤ d) (d1 : d < 4294967296) :
    ∃ t k D : Nat, s = t ∧ d = D ∧ ObjP n t k D ∧ ofS n s d = .tuple #[PVal n t k D, .int .i64 0] := by
  have hc : checkS (n : Int) s (needS n s) = 0 := by unfold checkS; rw [if_pos hf, if_pos rfl]
  obtain ⟨L, t, k, D, e1, e2, e3, e4, hP⟩ := pok_of hn hc d0 d1
  have e1' : L = n := by omega
  subst e1'
  subst e2
  subst e4
  refine ⟨t, k, D, rfl, rfl, ⟨hP, ?_, ?_⟩, ?_⟩
  · intro i hi
    by_cases h0 : (L : Int) = 0
    · have : needS L t = 1 := by unfold needS; rw [if_pos h0]
      have : i = 0 := by omega
      subst this; omega
    · have h5 := (needS_spec (l := L) (s := t) (by omega) (by have := hP.t1; omega)).1
      rw [e3] at h5
      have h6 : (i : Int) * t ≤ ((k : Int) - 1) * t := Int.mul_le_mul_of_nonneg_right (by omega) (by omega)
      have h7 : ((i * t : Nat) : Int) ≤ (L : Int) := by rw [Int.natCast_mul]; exact Int.le_of_lt (Int.lt_of_le_of_lt h6 h5)
      omega
  · by_cases h0 : (L : Int) = 0
    · have : L = 0 := by omega
      subst this; omega
    · have h5 := (needS_spec (l := L) (s := t) (by omega) (by have := hP.t1; omega)).2
      rw [e3] at h5
      have h7 : (L : Int) ≤ ((k * t : Nat) : Int) := by rw [Int.natCast_mul]; exact h5
      omega
  · unfold ofS; rw [if_pos hf, e3]
theorem of_none {n : Nat} {s d : Int} (hf : fitS n s ≠ 0) : ofS n s d = .tuple #[.agg #[.int .i64 0, .int .i64 0, .int .i64 0, .int .u32 0], .int .i64 (fitS n s)] := by
  unfold ofS; rw [if_neg hf]
/-- a combination of rows adds nothing to their rank -/
theorem iK_same {n : Nat} {V : List (List UInt8)} {v : List UInt8} (hV : ∀ r, r ∈ V → r.length = n) (hv : v.length = n) (hs : Sp (V.map vf) (vf v)) : (iK V).length = (iK (V ++ [v])).length := by
  refine Rk.same (ins_rank V hV) (ins_rank (V ++ [v]) (n := n) fun r hr => ?_) (fun a ha => Sp.mem ?_) (fun c hc => ?_)
  · rcases List.mem_append.1 hr with h | h
    · exact hV r h
    · rw [List.mem_singleton.1 h]; exact hv
  · rw [List.map_append]; exact List.mem_append_left _ ha
  · rw [List.map_append] at hc
    rcases List.mem_append.1 hc with h | h
    · exact Sp.mem h
    · rw [List.mem_singleton.1 h]; exact hs
theorem iK_le {n : Nat} {A : List (List UInt8)} {W : List V} (hV : ∀ r, r ∈ A → r.length = n) (hs : ∀ r, r ∈ A → Sp W (vf r)) : (iK A).length ≤ W.length :=
  Rk.le_length (ins_rank A hV) (fun a ha => by obtain ⟨r, hr, rfl⟩ := List.mem_map.1 ha; exact hs r hr)
theorem comb_sp {k : Nat} {V : List (List UInt8)} {u z : List UInt8} (hV : ∀ x, x ∈ V → x.length = k) (k1 : 1 ≤ V.length) (hu : u.length = V.length) (e : combS u V = (z, 0)) : Sp (V.map vf) (vf z) := by
  rw [comb_mulR hV rfl k1 hu] at e
  injection e with e _
  subst e
  refine ⟨u, by simpa using hu, ?_⟩
  funext j
  unfold mulR
  rw [vf_comb u V k _ hV (by simp), vf_zeros, zero_xor]
end Go.Proofs.YtcfdopiponlboaaGreatDoor
namespace Go.By
open Go.RowKit Go.Maps Go.Proofs.YtcfdopiponlboaaGreatDoor
theorem fresh_same {T : TypeId} {B : Nat} {w w' : World} {q : Option Addr} {n c : Nat} {xs : List UInt8} (h : Fresh T B w q n c xs) (hp : ∀ (b : Nat) (cs : Array Value) (fr : Nat × Nat), w.heap[b]? = some (.cells cs T fr) → w'.heap[b]? = w.heap[b]?) : Fresh T B w' q n c xs := by
  have hd : ∀ a, q = some a → w'.heap[a.block]? = w.heap[a.block]? := fun a ha => by
    obtain ⟨cs, fr, e⟩ := h.ty a ha; exact hp _ cs fr e
  refine ⟨⟨h.sl.len, h.sl.le, h.sl.max, h.sl.nil, fun i hi => ?_⟩, h.new, fun a ha => ?_⟩
  · obtain ⟨b, o, e, hc⟩ := h.sl.rs i hi
    exact ⟨b, o, e, (World.cell?_of_block (a := ⟨b, o + i, none⟩) (show w'.heap[b]? = w.heap[b]? from hd ⟨b, o, none⟩ e)).trans hc⟩
  · obtain ⟨cs, fr, e⟩ := h.ty a ha
    exact ⟨cs, fr, (hd a ha).trans e⟩
theorem GChg.same {w w' : World} {g T' : Nat} {old : Array Value} {fr : Nat × Nat} (h : GChg w g w') (hg : w.heap[g]? = some (.cells old T' fr)) {T : TypeId} (hne : T' ≠ T) : ∀ (b : Nat) (cs : Array Value) (fr : Nat × Nat), w.heap[b]? = some (.cells cs T fr) → w'.heap[b]? = w.heap[b]? := fun b cs fr hb =>
  (h.blk hg hb hne).trans hb.symm
theorem TChg.same {w w' : World} {base gt be L t k D N : Nat} {M v : Value} {C : DataW Unit} {K : List Rw} {st : Nat} (h : TChg w w' gt be v) (hT : Tkr w base gt be L t k D N M v C K st) {T : TypeId} (h1 : T ≠ 92) (h2 : T ≠ 140) (h3 : 47 ≠ T) : ∀ (b : Nat) (cs : Array Value) (fr : Nat × Nat), w.heap[b]? = some (.cells cs T fr) → w'.heap[b]? = w.heap[b]? := fun b cs fr hb =>
  (h.blk hT hb h1 h2 h3).trans hb.symm
/-- headers of bytes in new memory -/
def HdrF (T2 T1 : TypeId) (B : Nat) (w : World) (v : Value) (n : Nat) (xss : List (List UInt8)) : Prop :=
  ∃ vs, w.ownsRow B T2 1 v n vs ∧ xss.length = n ∧ ∀ (j : Nat) (u : Value), vs[j]? = some u → ∃ q m c xs, u = .slice q m c ∧ xss[j]? = some xs ∧ Fresh T1 B w q m c xs
theorem HdrF.nil (T2 T1 B : Nat) (w : World) : HdrF T2 T1 B w (.slice none 0 0) 0 [] := ⟨[], World.ownsRow_nil _ _ _ _, rfl, fun j u h => by simp at h⟩
theorem HdrF.shape {T2 T1 B n : Nat} {w : World} {v : Value} {xss : List (List UInt8)} (h : HdrF T2 T1 B w v n xss) : ∃ q c, v = .slice q n c := by
  obtain ⟨vs, o, _⟩ := h; exact owns_shape o
theorem HdrF.len {T2 T1 B n : Nat} {w : World} {v : Value} {xss : List (List UInt8)} (h : HdrF T2 T1 B w v n xss) : xss.length = n := by
  obtain ⟨vs, o, l, _⟩ := h; exact l
theorem HdrF.keep {T2 T1 B n : Nat} {w w' : World} {v : Value} {xss : List (List UInt8)} (h : HdrF T2 T1 B w v n xss) (hb : Below w.heap.size w w') : HdrF T2 T1 B w' v n xss := by
  obtain ⟨vs, o, l, r⟩ := h
  refine ⟨vs, owns_keepv o hb, l, fun j u hj => ?_⟩
  obtain ⟨q, m, c, xs, e, hx, hf⟩ := r j u hj
  exact ⟨q, m, c, xs, e, hx, hf.keep hb⟩
theorem HdrF.same {T2 T1 B n : Nat} {w w' : World} {v : Value} {xss : List (List UInt8)} (h : HdrF T2 T1 B w v n xss) (hs : w.heap.size ≤ w'.heap.size) (h2 : ∀ (b : Nat) (cs : Array Value) (fr : Nat × Nat), w.heap[b]? = some (.cells cs T2 fr) → w'.heap[b]? = w.heap[b]?) (h1 : ∀ (b : Nat) (cs : Array Value) (fr : Nat × Nat), w.heap[b]? = some (.cells cs T1 fr) → w'.heap[b]? = w.heap[b]?) : HdrF T2 T1 B w' v n xss := by
  obtain ⟨vs, o, l, r⟩ := h
  refine ⟨vs, owns_same o hs fun g hg => ?_, l, fun j u hj => ?_⟩
  · rcases o.2 with ⟨e1, _⟩ | ⟨g', cap, cur, e1, _, hh, _⟩
    · rw [e1] at hg; cases hg
    · rw [e1] at hg; cases hg
      exact h2 _ _ _ hh
  · obtain ⟨q, m, c, xs, e, hx, hf⟩ := r j u hj
    exact ⟨q, m, c, xs, e, hx, fresh_same hf h1⟩
theorem HdrF.sl2 {T2 T1 B n : Nat} {w : World} {q : Option Addr} {c : Nat} {xss : List (List UInt8)} (h : HdrF T2 T1 B w (.slice q n c) n xss) : Sl2 w q n c xss := by
  obtain ⟨vs, o, l, r⟩ := h
  have hd : Hdr T2 w B w (.slice q n c) n xss := ⟨vs, o, l, fun j u hj => by
    obtain ⟨q, m, c, xs, e, hx, hf⟩ := r j u hj
    exact ⟨q, m, c, xs, e, hx, hf.sl⟩⟩
  exact hd.sl2 (Below.refl _ _)
/-- one more -/
theorem HdrF.push {T2 T1 B n : Nat} {w w' : World} {v v' : Value} {xss : List (List UInt8)} {vs : List Value} {q : Option Addr} {m c : Nat} {xs : List UInt8} (ho : w'.ownsRow B T2 1 v' (n + 1) (vs ++ [.slice q m c])) (hvl : vs.length = n) (hl : xss.length = n)
    (hr : ∀ (j : Nat) (u : Value), vs[j]? = some u → ∃ q m c xs, u = .slice q m c ∧ xss[j]? = some xs ∧ Fresh T1 B w q m c xs) (hx : Fresh T1 B w q m c xs) (hp : ∀ (b : Nat) (cs : Array Value) (fr : Nat × Nat), w.heap[b]? = some (.cells cs T1 fr) → w'.heap[b]? = w.heap[b]?) : HdrF T2 T1 B w' v' (n + 1) (xss ++ [xs]) := by
  refine ⟨_, ho, by simp [hl], fun j u hj => ?_⟩
  by_cases h : j < vs.length
  · rw [List.getElem?_append_left h] at hj
    obtain ⟨q, m, c, ys, e, hy, hf⟩ := r_of hr hj
    exact ⟨q, m, c, ys, e, by rw [List.getElem?_append_left (by omega)]; exact hy, fresh_same hf hp⟩
  · rw [List.getElem?_append_right (by omega)] at hj
    by_cases h0 : j - vs.length = 0
    · rw [h0] at hj
      simp at hj
      refine ⟨q, m, c, xs, hj.symm, ?_, fresh_same hx hp⟩
      rw [List.getElem?_append_right (by omega), show j - xss.length = 0 by omega]; rfl
    · rw [List.getElem?_eq_none (by simp; omega)] at hj; cases hj
where
  r_of {T1 B : Nat} {w : World} {vs : List Value} {xss : List (List UInt8)} {j : Nat} {u : Value} (hr : ∀ (j : Nat) (u : Value), vs[j]? = some u → ∃ q m c xs, u = .slice q m c ∧ xss[j]? = some xs ∧ Fresh T1 B w q m c xs) (hj : vs[j]? = some u) := hr j u hj
end Go.By
namespace Go.By
open Go.RowKit Go.Maps Go.Proofs.YtcfdopiponlboaaGreatDoor
/-- what stays of other types -/
def OthT (T : TypeId) : Prop := T ≠ 92 ∧ T ≠ 140 ∧ 47 ≠ T ∧ 40 ≠ T ∧ 110 ≠ T
structure KeepT (w w' : World) : Prop where
  size : w.heap.size ≤ w'.heap.size
  same : ∀ T, OthT T → ∀ (b : Nat) (cs : Array Value) (fr : Nat × Nat), w.heap[b]? = some (.cells cs T fr) → w'.heap[b]? = w.heap[b]?
theorem KeepT.of {w w' : World} (h : Below w.heap.size w w') : KeepT w w' := ⟨h.size, fun _ _ b _ _ hb => h.block b (lt_of_block hb)⟩
theorem KeepT.trans {w a b : World} (h : KeepT w a) (h2 : KeepT a b) : KeepT w b :=
  ⟨Nat.le_trans h.size h2.size, fun T hT i cs fr hi => (h2.same T hT i cs fr ((h.same T hT i cs fr hi).trans hi)).trans (h.same T hT i cs fr hi)⟩
theorem KeepT.blk {w w' : World} (h : KeepT w w') {T b : Nat} {cs : Array Value} {fr : Nat × Nat} (hT : OthT T) (hb : w.heap[b]? = some (.cells cs T fr)) : w'.heap[b]? = some (.cells cs T fr) := (h.same T hT b cs fr hb).trans hb
theorem KeepT.fresh {w w' : World} (h : KeepT w w') {T B n c : Nat} {q : Option Addr} {xs : List UInt8} (hT : OthT T) (hf : Fresh T B w q n c xs) : Fresh T B w' q n c xs := fresh_same hf (h.same T hT)
theorem KeepT.hdr {w w' : World} (h : KeepT w w') {T2 T1 B n : Nat} {v : Value} {xss : List (List UInt8)} (h2 : OthT T2) (h1 : OthT T1) (hf : HdrF T2 T1 B w v n xss) : HdrF T2 T1 B w' v n xss := hf.same h.size (h.same T2 h2) (h.same T1 h1)
theorem oth_u8 : OthT 5 := ⟨by decide, by decide, by decide, by decide, by decide⟩
theorem oth_rows : OthT 36 := ⟨by decide, by decide, by decide, by decide, by decide⟩
theorem oth_plan : OthT 24 := ⟨by decide, by decide, by decide, by decide, by decide⟩
theorem TChg.keepT {w w' : World} {base gt be L t k D N : Nat} {M v : Value} {C : DataW Unit} {K : List Rw} {st : Nat} (h : TChg w w' gt be v) (hT : Tkr w base gt be L t k D N M v C K st) : KeepT w w' :=
  ⟨h.size, fun T hO => h.same hT hO.1 hO.2.1 hO.2.2.1⟩
theorem GChg.keepS {w w' : World} {g : Nat} {cs : Array Value} {fr : Nat × Nat} (h : GChg w g w') (hg : w.heap[g]? = some (.cells cs 110 fr)) : KeepT w w' :=
  ⟨h.size, fun T hO => h.same hg hO.2.2.2.2⟩
theorem GChg.keepR {w w' : World} {g : Nat} {cs : Array Value} {fr : Nat × Nat} (h : GChg w g w') (hg : w.heap[g]? = some (.cells cs 40 fr)) : KeepT w w' :=
  ⟨h.size, fun T hO => h.same hg hO.2.2.2.1⟩
theorem TChg.rowbox {w w' : World} {base gt be L t k D N : Nat} {M v : Value} {C : DataW Unit} {K : List Rw} {st : Nat} (h : TChg w w' gt be v) (hT : Tkr w base gt be L t k D N M v C K st) {g : Nat} {cs : Array Value} {fr : Nat × Nat} (hb : w.heap[g]? = some (.cells cs 47 fr)) (hne : v.ownBlock ≠ some g) : w'.heap[g]? = some (.cells cs 47 fr) := by
  refine (h.block g (lt_of_block hb) (fun e => ?_) (fun e => ?_) hne).trans hb
  · have := hT.box; rw [← e, hb] at this; injection this with this; injection this with _ this _; exact absurd this (by decide)
  · have := hT.elm.box; rw [← e, hb] at this; injection this with this; injection this with _ this _; exact absurd this (by decide)
end Go.By
namespace Go.Proofs.YtcfdopiponlboaaGreatDoor
open Go.RowKit Go.By Gf Go.Maps
/-- a sender, a relay and a taker of one object, in memory; wI: the world ahead, w0: the world in which the sender was made -/
structure H21 (wI w0 w : World) (gp gs gr gt be gt2 be2 base base2 L t k D : Nat) (FX : List (List UInt8)) (nx nr n1 n2 : Nat) (v v2 : Value) (X K X2 K2 : List Rw) : Prop where
  bel : Below wI.heap.size wI w
  i0 : wI.heap.size ≤ w0.heap.size
  le : w0.heap.size ≤ w.heap.size
  b1 : w0.heap.size ≤ base
  b2 : w0.heap.size ≤ base2
  gs0 : wI.heap.size ≤ gs
  pbox : w.heap[gp]? = some (.cells #[.int .i64 (L : Nat), .int .i64 (t : Nat), .int .i64 (k : Nat), .int .u32 (D : Nat)] 24 (0, 0))
  snd : SndO w0 w gs L t k D nx FX
  rl : ∃ M C, Rly w base gr gt be L t k D n1 nr M v C K (stF K k)
  tk : ∃ M C, Tkr w base2 gt2 be2 L t k D n2 M v2 C K2 (stF K2 k)
  ap : TApart gt be v gt2 be2 v2
  o1 : OneObj k t FX X K
  o2 : OneObj k t FX X2 K2
section
variable {wI w0 w w' : World} {gp gs gr gt be gt2 be2 base base2 L t k D nx nr n1 n2 : Nat} {FX : List (List UInt8)} {v v2 : Value} {X K X2 K2 : List Rw}
theorem H21.keep (h : H21 wI w0 w gp gs gr gt be gt2 be2 base base2 L t k D FX nx nr n1 n2 v v2 X K X2 K2) (hb : Below w.heap.size w w') : H21 wI w0 w' gp gs gr gt be gt2 be2 base base2 L t k D FX nx nr n1 n2 v v2 X K X2 K2 := by
  obtain ⟨M, C, h1⟩ := h.rl
  obtain ⟨M2, C2, h2⟩ := h.tk
  exact ⟨bl h.bel hb h.bel.size, h.i0, Nat.le_trans h.le hb.size, h.b1, h.b2, h.gs0, (hb.block _ (lt_of_block h.pbox)).trans h.pbox, h.snd.keep hb h.le, ⟨M, C, h1.keep hb⟩, ⟨M2, C2, h2.keep hb⟩, h.ap, h.o1, h.o2⟩
theorem H21.sbox (h : H21 wI w0 w gp gs gr gt be gt2 be2 base base2 L t k D FX nx nr n1 n2 v v2 X K X2 K2) : ∃ cs fr, w.heap[gs]? = some (.cells cs 110 fr) := by
  obtain ⟨q, c, n0, h1, h2, h3, h4⟩ := h.snd.mem
  exact ⟨_, _, h2⟩
theorem H21.rbox (h : H21 wI w0 w gp gs gr gt be gt2 be2 base base2 L t k D FX nx nr n1 n2 v v2 X K X2 K2) : w.heap[gr]? = some (.cells #[.pointer (some ⟨gt, 0, none⟩), .int .u64 (nr : Nat)] 40 (0, 0)) := by
  obtain ⟨M, C, h1⟩ := h.rl
  exact h1.box
/-- a row of headers grew -/
theorem H21.grown (h : H21 wI w0 w gp gs gr gt be gt2 be2 base base2 L t k D FX nx nr n1 n2 v v2 X K X2 K2) {u : Value} {n : Nat} {ys : List Value} (ho : w.ownsRow w0.heap.size 36 1 u n ys) (hg : w.grownBy w' u.ownBlock) : H21 wI w0 w' gp gs gr gt be gt2 be2 base base2 L t k D FX nx nr n1 n2 v v2 X K X2 K2 ∧ (∀ (b : Nat) (cs : Array Value) (fr : Nat × Nat), w.heap[b]? = some (.cells cs 5 fr) → w'.heap[b]? = w.heap[b]?) := by
  rcases ho.2 with ⟨e1, _⟩ | ⟨g, cap, cur, e1, hgb, hh, _⟩
  · have hb : Below w.heap.size w w' := ⟨hg.os, hg.tape, hg.output, hg.size, fun b hb => hg.block b hb (fun e => by rw [e1] at e; cases e)⟩
    exact ⟨h.keep hb, fun b cs fr hc => hb.block b (lt_of_block hc)⟩
  · have hc : GChg w g w' := ⟨hg.os, hg.tape, hg.output, hg.size, fun b hb hne => hg.block b hb (fun e => by rw [e1] at e; cases e; exact hne rfl)⟩
    obtain ⟨M, C, h1⟩ := h.rl
    obtain ⟨M2, C2, h2⟩ := h.tk
    exact ⟨⟨h.bel.trans (hc.below (Nat.le_trans h.i0 hgb) h.bel.size), h.i0, Nat.le_trans h.le hc.size, h.b1, h.b2, h.gs0, hc.blk hh h.pbox (by decide), h.snd.keep (hc.below hgb h.le) (Nat.le_refl _), ⟨M, C, hc.rly hh h1 (by decide) (by decide) (by decide) (by decide) (by decide)⟩, ⟨M2, C2, hc.tkr hh h2 (by decide) (by decide) (by decide) (by decide)⟩, h.ap, h.o1, h.o2⟩, hc.same hh (by decide)⟩
/-- the sender sent -/
theorem H21.sent (h : H21 wI w0 w gp gs gr gt be gt2 be2 base base2 L t k D FX nx nr n1 n2 v v2 X K X2 K2) {ys : List UInt8} {nx' : Nat} {code : Int} {e : Ending} (hs : SdRetQ w gs L t k D FX ys nx nx' code e w') : H21 wI w0 w' gp gs gr gt be gt2 be2 base base2 L t k D FX nx' nr n1 n2 v v2 X K X2 K2 ∧ KeepT w w' := by
  obtain ⟨cs, fr, hbx⟩ := h.sbox
  obtain ⟨M, C, h1⟩ := h.rl
  obtain ⟨M2, C2, h2⟩ := h.tk
  have hS := h.snd.sent hs
  obtain ⟨⟨_, _, _, _, _, _, hg⟩, -⟩ := hs
  exact ⟨⟨h.bel.trans (hg.below h.gs0 h.bel.size), h.i0, Nat.le_trans h.le hg.size, h.b1, h.b2, h.gs0, (hg.keepS hbx).blk oth_plan h.pbox, hS, ⟨M, C, hg.rly hbx h1 (by decide) (by decide) (by decide) (by decide) (by decide)⟩, ⟨M2, C2, hg.tkr hbx h2 (by decide) (by decide) (by decide) (by decide)⟩, h.ap, h.o1, h.o2⟩, hg.keepS hbx⟩
/-- the relay said something -/
theorem H21.said (h : H21 wI w0 w gp gs gr gt be gt2 be2 base base2 L t k D FX nx nr n1 n2 v v2 X K X2 K2) {nr' : Nat} {M : Value} {C : DataW Unit} (h1 : Rly w' base gr gt be L t k D n1 nr' M v C K (stF K k)) (hg : GChg w gr w') : H21 wI w0 w' gp gs gr gt be gt2 be2 base base2 L t k D FX nx nr' n1 n2 v v2 X K X2 K2 ∧ KeepT w w' := by
  have hbx := h.rbox
  obtain ⟨M2, C2, h2⟩ := h.tk
  obtain ⟨M0, C0, h0⟩ := h.rl
  have hgr : w0.heap.size ≤ gr := Nat.le_trans h.b1 h0.old
  have hB := hg.below hgr h.le
  refine ⟨⟨h.bel.trans (hg.below (Nat.le_trans h.i0 hgr) h.bel.size), h.i0, Nat.le_trans h.le hg.size, h.b1, h.b2, h.gs0, (hg.keepR hbx).blk oth_plan h.pbox, h.snd.keep hB (Nat.le_refl _), ⟨M, C, h1⟩, ⟨M2, C2, hg.tkr hbx h2 (by decide) (by decide) (by decide) (by decide)⟩, h.ap, h.o1, h.o2⟩, hg.keepR hbx⟩
/-- what a take of the object's packet leaves -/
theorem H21.took1 (h : H21 wI w0 w gp gs gr gt be gt2 be2 base base2 L t k D FX nx nr n1 n2 v v2 X K X2 K2) {M v' : Value} {C : DataW Unit} {x : Rw} (h1 : Tkr w' base gt be L t k D (n1 + 1) M v' C (putK K x) (stF (putK K x) k)) (hc : TChg w w' gt be v) (ho : v'.ownBlock = v.ownBlock ∨ ∀ b, v'.ownBlock = some b → w.heap.size ≤ b) (hx : Fit k t x) (hcx : ConsV k (FX.map vf) (vR x)) :
    H21 wI w0 w' gp gs gr gt be gt2 be2 base base2 L t k D FX nx nr (n1 + 1) n2 v' v2 (X ++ [x]) (putK K x) X2 K2 ∧ KeepT w w' := by
  obtain ⟨M0, C0, h0⟩ := h.rl
  obtain ⟨M2, C2, h2⟩ := h.tk
  have hB := hc.below h0.tk h.b1 h.le
  have hK := hc.keepT h0.tk
  exact ⟨⟨h.bel.trans (hc.below h0.tk (Nat.le_trans h.i0 h.b1) h.bel.size), h.i0, Nat.le_trans h.le hc.size, h.b1, h.b2, h.gs0, hK.blk oth_plan h.pbox, h.snd.keep hB (Nat.le_refl _), ⟨M, C, h0.took h1 hc⟩, ⟨M2, C2, hc.tkr2 h0.tk h2 h.ap⟩, h.ap.next ho (fun g hg => (h2.elm.rows.lt g hg).2), h.o1.put hx hcx, h.o2⟩, hK⟩
theorem H21.took2 (h : H21 wI w0 w gp gs gr gt be gt2 be2 base base2 L t k D FX nx nr n1 n2 v v2 X K X2 K2) {M v' : Value} {C : DataW Unit} {x : Rw} (h1 : Tkr w' base2 gt2 be2 L t k D (n2 + 1) M v' C (putK K2 x) (stF (putK K2 x) k)) (hc : TChg w w' gt2 be2 v2) (ho : v'.ownBlock = v2.ownBlock ∨ ∀ b, v'.ownBlock = some b → w.heap.size ≤ b) (hx : Fit k t x) (hcx : ConsV k (FX.map vf) (vR x)) :
    H21 wI w0 w' gp gs gr gt be gt2 be2 base base2 L t k D FX nx nr n1 (n2 + 1) v v' X K (X2 ++ [x]) (putK K2 x) ∧ KeepT w w' := by
  obtain ⟨M0, C0, h0⟩ := h.rl
  obtain ⟨M2, C2, h2⟩ := h.tk
  have hB := hc.below h2 h.b2 h.le
  have hK := hc.keepT h2
  have hr : Rly w' base gr gt be L t k D n1 nr M0 v C0 K (stF K k) := ⟨hc.blk h2 h0.box (by decide) (by decide) (by decide), hc.tkr2 h2 h0.tk h.ap.symm, h0.old⟩
  exact ⟨⟨h.bel.trans (hc.below h2 (Nat.le_trans h.i0 h.b2) h.bel.size), h.i0, Nat.le_trans h.le hc.size, h.b1, h.b2, h.gs0, hK.blk oth_plan h.pbox, h.snd.keep hB (Nat.le_refl _), ⟨M0, C0, hr⟩, ⟨M, C, h1⟩, (h.ap.symm.next ho (fun g hg => (h0.tk.elm.rows.lt g hg).2)).symm, h.o1, h.o2.put hx hcx⟩, hK⟩
/-- the relay takes a packet of the object -/
theorem H21_take1 (h : H21 wI w0 w gp gs gr gt be gt2 be2 base base2 L t k D FX nx nr n1 n2 v v2 X K X2 K2) (hT : HalfT wI) (hN : n1 < 1000000) {p : Option Addr} {n c : Nat} {xs : List UInt8} (hs : Sl B8 w p n c xs) (hn : Room n) (hr : readC k t D xs = 0) (hx : Fit k t (eqX k t xs)) (hcx : ConsV k (FX.map vf) (vR (eqX k t xs))) :
    Calls Tryz.prog 10 #[.pointer (some ⟨gt, 0, none⟩), .slice p n c] w fun e w' => e = .returned (.int .i64 0) ∧ ∃ v', H21 wI w0 w' gp gs gr gt be gt2 be2 base base2 L t k D FX nx nr (n1 + 1) n2 v' v2 (X ++ [eqX k t xs]) (putK K (eqX k t xs)) X2 K2 ∧ KeepT w w' ∧ TChg w w' gt be v := by
  obtain ⟨M, C, h1⟩ := h.rl
  refine Calls.mono (TTake_any base gt be L t k D n1 M v C K (stF K k) p n c xs w h1.tk (hT.keep h.bel) hN hs hn) ?_
  rintro e w1 ⟨rfl, M', v', hT', hc', ho⟩
  obtain ⟨e1, e2⟩ := h.o1.take hx hcx hr
  rw [e1, e2] at hT'
  obtain ⟨g1, g2⟩ := h.took1 hT' hc' ho hx hcx
  exact ⟨by rw [hr], v', g1, g2, hc'⟩
theorem H21_take2 (h : H21 wI w0 w gp gs gr gt be gt2 be2 base base2 L t k D FX nx nr n1 n2 v v2 X K X2 K2) (hT : HalfT wI) (hN : n2 < 1000000) {p : Option Addr} {n c : Nat} {xs : List UInt8} (hs : Sl B8 w p n c xs) (hn : Room n) (hr : readC k t D xs = 0) (hx : Fit k t (eqX k t xs)) (hcx : ConsV k (FX.map vf) (vR (eqX k t xs))) :
    Calls Tryz.prog 10 #[.pointer (some ⟨gt2, 0, none⟩), .slice p n c] w fun e w' => e = .returned (.int .i64 0) ∧ ∃ v', H21 wI w0 w' gp gs gr gt be gt2 be2 base base2 L t k D FX nx nr n1 (n2 + 1) v v' X K (X2 ++ [eqX k t xs]) (putK K2 (eqX k t xs)) ∧ KeepT w w' ∧ TChg w w' gt2 be2 v2 := by
  obtain ⟨M, C, h1⟩ := h.tk
  refine Calls.mono (TTake_any base2 gt2 be2 L t k D n2 M v2 C K2 (stF K2 k) p n c xs w h1 (hT.keep h.bel) hN hs hn) ?_
  rintro e w1 ⟨rfl, M', v', hT', hc', ho⟩
  obtain ⟨e1, e2⟩ := h.o2.take hx hcx hr
  rw [e1, e2] at hT'
  obtain ⟨g1, g2⟩ := h.took2 hT' hc' ho hx hcx
  exact ⟨by rw [hr], v', g1, g2, hc'⟩
/-- the sender sends by a source that fits -/
theorem H21_send (h : H21 wI w0 w gp gs gr gt be gt2 be2 base base2 L t k D FX nx nr n1 n2 v v2 X K X2 K2) (hT : HalfT wI) (hnx : nx < 4294967296) {m : UInt8} {p : Option Addr} {j c s : Nat} {xs : List UInt8} (hm : srcC m j k = 0) (hs : Sl B8 w p j c xs) (hr : Room j) :
    Calls Tryz.prog 20 #[.pointer (some ⟨gs, 0, none⟩), SVal m p j c s] w fun e w' => ∃ q n c', e = .returned (.tuple #[.slice q n c', .int .i64 0]) ∧ Sl B8 w' q n c' (pktB m D nx xs s (combS (vecS m xs s k) FX).1) ∧ H21 wI w0 w' gp gs gr gt be gt2 be2 base base2 L t k D FX (nx + 1) nr n1 n2 v v2 X K X2 K2 ∧ KeepT w w' := by
  refine Calls.mono (SSend_okQ gs L t k D nx FX m p j c s xs w h.snd.snd hnx hm hs hr (hT.keep h.bel)) ?_
  intro e w1 hq
  obtain ⟨g1, g2⟩ := h.sent hq
  obtain ⟨⟨q, n, c', he, hl, -, -⟩, -⟩ := hq
  exact ⟨q, n, c', he, hl, g1, g2⟩
end
end Go.Proofs.YtcfdopiponlboaaGreatDoor
namespace Go.By
open Go Go.RowKit
theorem zeroCells_one (x : Value) (k : Nat) : Builtin.zeroCells #[x] k = (List.replicate k x).toArray := by
  refine Array.ext (by simp [Builtin.zeroCells]) fun i h1 h2 => ?_
  simp [Builtin.zeroCells, Nat.mod_one]
section
variable {P : Program} (w : World)
/-- rows no longer than n, that start ahead of base or in it, stay -/
def RowsStay (base e n : Nat) (w w' : World) : Prop := ∀ m, m ≤ n → ∀ u zs, w.ownsRow base e 1 u m zs → w'.ownsRow base e 1 u m zs
theorem RowsStay.alloc {base e n : Nat} (o : Obj) : RowsStay base e n w (w.drew.alloc o) := fun m hm u zs hu => by
  refine ⟨hu.1, ?_⟩
  rcases hu.2 with h | ⟨g, cap, cur, h1, h2, h3, h4⟩
  · exact .inl h
  · exact .inr ⟨g, cap, cur, h1, h2, (heap_alloc_old w.drew _ (lt_of_block h3)).trans h3, h4⟩
theorem RowsStay.room {base e n g k : Nat} {cur : Array Value} {news : List Value} (hg : w.heap[g]? = some (.cells cur e (0, 0))) (hk : news.length = k) (hf : n + k ≤ cur.size) : RowsStay base e n w (w.setRow g (cur.toList.take n ++ news ++ cur.toList.drop (n + k)).toArray) := fun m hm u zs hu => by
  refine ⟨hu.1, ?_⟩
  rcases hu.2 with h | ⟨g', cap', cur', h1, h2, h3, h4, h5, h6, h7⟩
  · exact .inl h
  · by_cases hgg : g' = g
    · rw [hgg, hg] at h3
      injection h3 with h3
      injection h3 with h3 _ _
      subst h3
      refine .inr ⟨g', cap', _, h1, h2, by rw [hgg]; exact setRow_heap w g cur _ e _ hg, h4, h5, ?_, ?_⟩
      · simp only [List.size_toArray, List.length_append, List.length_take, List.length_drop, Array.length_toList]
        omega
      · simp only [List.append_assoc]
        rw [List.take_append_of_le_length (by rw [List.length_take, Array.length_toList]; omega), List.take_take, show min (m * 1) n = m * 1 by omega]
        exact h7
    · exact .inr ⟨g', cap', cur', h1, h2, (setRow_other w g g' _ hgg).trans h3, h4, h5, h6, h7⟩
theorem run_append_zeros_own (base : Nat) (t tn ty e : TypeId) (i : TypeInfo) (kq kn : IntKind) (ht : P.underlying t = some (.slice e)) (htn : P.underlying tn = some (.int kn)) (hi : P.info? e = some i) (hz : i.zero = some (.int .u8 0)) (hs : i.size = 1) (hby : i.bytes = 1)
    (v : Value) (n : Nat) (ys : List Value) (hown : w.ownsRow base e 1 v n ys) (k : Nat) (k1 : 0 < k) (hk : n + k ≤ 140737488355328) (hbase : base ≤ w.heap.size) :
    ∃ v' w', (Builtin.append_ #[t, tn] ty #[v, .int kq k]).run P w = .ok v' w' ∧ w'.ownsRow base e 1 v' (n + k) (ys ++ List.replicate k (.int .u8 0)) ∧ Below base w w' ∧ RowsStay base e n w w' := by
  have hlen : (ys ++ List.replicate k (Value.int .u8 0)).length = (n + k) * 1 := by rw [List.length_append, hown.1, List.length_replicate]; omega
  have hzc : (Value.int .u8 0).cells = #[.int .u8 0] := rfl
  have grown : ∀ (old : Nat), old < n + k →
      (w.drew.alloc (.cells (ys.toArray ++ Builtin.zeroCells (Value.int .u8 0).cells k ++ Builtin.zeroCells (Value.int .u8 0).cells (grownCap w (n + k) old e - (n + k))) e)).ownsRow base e 1 (.slice (some ⟨w.heap.size, 0, none⟩) (n + k) (grownCap w (n + k) old e)) (n + k) (ys ++ List.replicate k (.int .u8 0)) ∧
      Below base w (w.drew.alloc (.cells (ys.toArray ++ Builtin.zeroCells (Value.int .u8 0).cells k ++ Builtin.zeroCells (Value.int .u8 0).cells (grownCap w (n + k) old e - (n + k))) e)) ∧
      RowsStay base e n w (w.drew.alloc (.cells (ys.toArray ++ Builtin.zeroCells (Value.int .u8 0).cells k ++ Builtin.zeroCells (Value.int .u8 0).cells (grownCap w (n + k) old e - (n + k))) e)) := by
    intro old ho
    have hge := grownCap_ge w (n + k) old e
    have hcm : grownCap w (n + k) old e ≤ maxLen := grownCap_le_maxLen w (n + k) old e (by unfold maxLen; omega)
    refine ⟨⟨hlen, .inr ⟨w.heap.size, _, _, rfl, hbase, heap_alloc_new w.drew _, hge, hcm, ?_, ?_⟩⟩, ⟨rfl, rfl, rfl, by simp, fun b hb => heap_alloc_old w.drew _ (by show b < w.heap.size; omega)⟩, fun m hm u zs hu => ?_⟩
    · simp only [Array.size_append, List.size_toArray, size_zeroCells, hzc, hown.1]
      simp
      omega
    · rw [hzc, zeroCells_one]
      simp only [Array.toList_append]
      rw [← hlen]
      exact List.take_left
    · refine ⟨hu.1, ?_⟩
      rcases hu.2 with h | ⟨g, cap, cur, h1, h2, h3, h4⟩
      · exact .inl h
      · exact .inr ⟨g, cap, cur, h1, h2, (heap_alloc_old w.drew _ (lt_of_block h3)).trans h3, h4⟩
  have hk48 : k * i.bytes ≤ 281474976710656 := by rw [hby]; omega
  rcases hown.2 with ⟨rfl, rfl⟩ | ⟨g, cap, cur, rfl, hbg, hg, hnc, hcm, hcs, htake⟩
  · have hx : ys = [] := List.eq_nil_of_length_eq_zero (by simpa using hown.1)
    subst hx
    have hr := Lib.run_append_nil_zeros (P := P) w t tn ty e i (.int .u8 0) kq kn ht htn hi hz k k1 (by omega) (by omega) hk48
    have hgr := grown 0 (by omega)
    simp only [Nat.zero_add, List.nil_append, Array.empty_append] at hgr ⊢
    exact ⟨_, _, hr, hgr⟩
  · by_cases hroom : n + k ≤ cap
    · have hst := run_storeCells_at P g n e (List.replicate k (Value.int .u8 0)) 0 cur w hg (by rw [List.length_replicate]; omega) (fun u hu => by rw [(List.mem_replicate.1 hu).2]; rfl)
      simp only [Nat.add_zero, List.length_replicate] at hst
      have hneg : ¬ ((k : Int) < 0) := by omega
      have hw : IntKind.i64.wrap (k : Int) = k := by rw [IntKind.wrap_i64]; omega
      have h48i : ¬ (281474976710656 < (k : Int)) := by omega
      have hk0 : k ≠ 0 := by omega
      have hr : (Builtin.append_ #[t, tn] ty #[.slice (some ⟨g, 0, none⟩) n cap, .int kq k]).run P w = .ok (.slice (some ⟨g, 0, none⟩) (n + k) cap) (w.setRow g (cur.toList.take n ++ List.replicate k (Value.int .u8 0) ++ cur.toList.drop (n + k)).toArray) := by
        simp [Builtin.append_, run_underlying ht, run_underlying htn, sizeOf, typeInfo, zeroValue, hi, hz, hs, hby, asInt, asIntOf, hw, hneg, h48i, hk0, hroom, hzc, zeroCells_one, Addr.add_lit, hst]
      refine ⟨_, _, hr, ⟨hlen, .inr ⟨g, cap, _, rfl, hbg, setRow_heap w g cur _ e _ hg, hroom, hcm, ?_, ?_⟩⟩, ⟨rfl, rfl, rfl, by simp, fun b hb => setRow_other w g b _ (by omega)⟩, fun m hm u zs hu => ?_⟩
      · simp only [List.size_toArray, List.length_append, List.length_take, List.length_drop, Array.length_toList, List.length_replicate]
        omega
      · rw [Nat.mul_one] at htake
        rw [htake, ← hlen]
        exact List.take_left
      · refine ⟨hu.1, ?_⟩
        rcases hu.2 with h | ⟨g', cap', cur', h1, h2, h3, h4, h5, h6, h7⟩
        · exact .inl h
        · by_cases hgg : g' = g
          · rw [hgg, hg] at h3
            injection h3 with h3
            injection h3 with h3 _ _
            subst h3
            refine .inr ⟨g', cap', _, h1, h2, by rw [hgg]; exact setRow_heap w g cur _ e _ hg, h4, h5, ?_, ?_⟩
            · simp only [List.size_toArray, List.length_append, List.length_take, List.length_drop, Array.length_toList, List.length_replicate]
              omega
            · simp only [List.append_assoc]
              rw [List.take_append_of_le_length (by rw [List.length_take, Array.length_toList]; omega), List.take_take, show min (m * 1) n = m * 1 by omega]
              exact h7
          · exact .inr ⟨g', cap', cur', h1, h2, (setRow_other w g g' _ hgg).trans h3, h4, h5, h6, h7⟩
    · have holds : ∀ j u, ys[j]? = some u → w.drew.cell? ((⟨g, 0, none⟩ : Addr).add j) = some u := hown.cells (g := g) rfl
      have hf := run_firstCells_some (P := P) w.drew i.size n ⟨g, 0, none⟩ n cap ys (by rw [hs]; exact hown.1) holds
      have hr := Lib.run_append_grow_zeros (P := P) w t tn ty e i (.int .u8 0) kq kn ht htn hi hz (some ⟨g, 0, none⟩) n cap ys hf k k1 (by omega) (by omega) (by omega) hk48 (growslice_fits (by omega) (by rw [hby]; omega))
      exact ⟨_, _, hr, grown cap (by omega)⟩
theorem wp_append_zeros {o : Oper} {a : Act} {K : Act → World → Prop} {Q : Exit → Act → World → Prop} (s x : Operand) (t tn : TypeId) (ho : o.op = .call { callee := .builtin .append, args := #[s, x], argTypes := #[t, tn] })
    (base : Nat) (e : TypeId) (i : TypeInfo) (kq kn : IntKind) (ht : P.underlying t = some (.slice e)) (htn : P.underlying tn = some (.int kn)) (hi : P.info? e = some i) (hz : i.zero = some (.int .u8 0)) (hs : i.size = 1) (hby : i.bytes = 1)
    (v : Value) (n : Nat) (ys : List Value) (hsv : a.eval s = v) (hown : w.ownsRow base e 1 v n ys) (k : Nat) (hx : a.eval x = .int kq k) (k1 : 0 < k) (hk : n + k ≤ 140737488355328) (hbase : base ≤ w.heap.size)
    (h : ∀ v' w', w'.ownsRow base e 1 v' (n + k) (ys ++ List.replicate k (.int .u8 0)) → Below base w w' → RowsStay base e n w w' → K (a.put o.dst v') w') : o.wp P a w K Q := by
  obtain ⟨v', w', hrun, r1, r2, r3⟩ := run_append_zeros_own (P := P) w base t tn o.type e i kq kn ht htn hi hz hs hby v n ys hown k k1 hk hbase
  exact Lib.wp_append_run w s x t tn ho v (.int kq k) hsv hx v' w' hrun (h v' w' r1 r2 r3)
/-- append(s, x...) of bytes -/
theorem wp_append_bytes {o : Oper} {a : Act} {K : Act → World → Prop} {Q : Exit → Act → World → Prop} (s x : Operand) (t : TypeId) (ho : o.op = .call { callee := .builtin .append, args := #[s, x], argTypes := #[t, t] })
    (base : Nat) (e : TypeId) (i : TypeInfo) (z : Value) (ht : P.underlying t = some (.slice e)) (hi : P.info? e = some i) (hz : i.zero = some z) (hsize : i.size = 1) (hby : i.bytes = 1) (hzs : z.cells.size = 1)
    (v : Value) (n : Nat) (ys : List Value) (hs : a.eval s = v) (hown : w.ownsRow base e 1 v n ys) (p : Option Addr) (m c : Nat) (xs : List UInt8) (hx : a.eval x = .slice p m c) (hrs : Sl B8 w p m c xs)
    (hk : n + m ≤ 140737488355328) (hbase : base ≤ w.heap.size)
    (h : ∀ v' w', w'.ownsRow base e 1 v' (n + m) (ys ++ xs.map B8) → Below base w w' → RowsStay base e n w w' → (∀ g, v = .slice (some ⟨g, 0, none⟩) 0 0 → Below w.heap.size w w') → K (a.put o.dst v') w') : o.wp P a w K Q := by
  have below : ∀ w', w.grownBy w' v.ownBlock → Below base w w' := fun w' hg =>
    ⟨hg.os, hg.tape, hg.output, hg.size, fun b hb => hg.block b (by omega) (fun e => by have := (hown.lt b e.symm).1; omega)⟩
  have hm := hrs.len
  cases p with
  | none =>
    obtain ⟨rfl, rfl⟩ := hrs.nil rfl
    have hx0 : xs = [] := List.eq_nil_of_length_eq_zero hm
    subst hx0
    have hr := run_append_owned_none (P := P) w base t o.type e i 1 ht hi v n ys hown
    exact Lib.wp_append_run w s x t t ho v (.slice none 0 0) hs hx v w hr (h v w (by simpa using hown) (Below.refl _ _) (fun _ _ _ _ hu => hu) (fun _ _ => Below.refl _ _))
  | some ad =>
    have hnl : (xs.map B8).length = m * 1 := by rw [List.length_map, hm]; omega
    have hnews : ∀ j u, (xs.map B8)[j]? = some u → w.cell? (ad.add j) = some u := fun j u hj => by
      rw [List.getElem?_map] at hj
      cases hxj : xs[j]? with
      | none => rw [hxj] at hj; simp at hj
      | some y =>
        rw [hxj] at hj; simp at hj; subst hj
        have hjl : j < m := by have := (List.getElem?_eq_some_iff.1 hxj).1; omega
        obtain ⟨b, o, e, hc⟩ := hrs.rs j (by omega)
        cases e
        rw [Addr.add_lit, hc]
        have := (List.getElem?_eq_some_iff.1 hxj).2
        simp [this]
    have hone : ∀ u ∈ xs.map B8, u.oneCell' = true := fun u hu => by obtain ⟨y, _, rfl⟩ := List.mem_map.1 hu; rfl
    obtain ⟨v', w', hr, r1, r2, -⟩ := run_append_own (P := P) w base t o.type e i z 1 1 ht hi hz hsize hby hzs (by decide) v n ys hown ad m c (xs.map B8) hnl hnews hone (by unfold maxLen; omega) (by omega) hbase
    have r3 : RowsStay base e n w w' ∧ (∀ g, v = .slice (some ⟨g, 0, none⟩) 0 0 → Below w.heap.size w w') := by
      rcases hown.2 with ⟨rfl, rfl⟩ | ⟨g, cap, cur, rfl, hbg, hg, hnc, hcm, hcs, htake⟩
      · by_cases hm0 : m = 0
        · subst hm0
          have hx0 : xs = [] := List.eq_nil_of_length_eq_zero hm
          subst hx0
          have hr2 : (Builtin.append_ #[t, t] o.type #[.slice none 0 0, .slice (some ad) 0 c]).run P w = .ok (.slice none 0 0) w := by
            simp [Builtin.append_, run_underlying ht, sizeOf, typeInfo, hi, Builtin.lenOf, Builtin.firstCells, loadCells, loadCellsFrom]
          have e2 := hr.symm.trans hr2
          cases e2
          exact ⟨fun _ _ _ _ hu => hu, fun _ e => by cases e⟩
        · have hr2 := run_append_nil (P := P) w t o.type e i z ht hi hz ad m c (xs.map B8) (by rw [hsize]; exact hnl) hnews (by omega) (by omega) (by rw [hby]; omega)
          have e2 := hr.symm.trans hr2
          cases e2
          exact ⟨RowsStay.alloc w _, fun _ e => by cases e⟩
      · by_cases hroom : n + m ≤ cap
        · have hr2 := run_append_room (P := P) w t o.type e i ht hi g n cap cur hg ad m c (xs.map B8) (by rw [hsize]; exact hnl) hnews hone hroom (by rw [hsize, hnl]; omega)
          have e2 := hr.symm.trans hr2
          cases e2
          rw [hsize, Nat.mul_one, List.length_map, hm]
          refine ⟨RowsStay.room w hg (by rw [List.length_map, hm]) (by omega), fun g' e => ?_⟩
          cases e
          have hm0 : m = 0 := by omega
          have hx0 : xs = [] := List.eq_nil_of_length_eq_zero (by omega)
          subst hx0
          have hc0 : cur = #[] := Array.eq_empty_of_size_eq_zero (by omega)
          subst hc0
          have e3 := setRow_self w g #[] _ (0, 0) hg
          simp only [List.map_nil, List.take_nil, List.drop_nil, List.append_nil, hm0]
          rw [e3]
          exact Below.refl _ _
        · have holds : ∀ j u, ys[j]? = some u → w.cell? ((⟨g, 0, none⟩ : Addr).add j) = some u := hown.cells (g := g) rfl
          have hr2 := run_append_grow (P := P) w t o.type e i z ht hi hz ⟨g, 0, none⟩ n cap ys (by rw [hsize]; exact hown.1) holds ad m c (xs.map B8) (by rw [hsize]; exact hnl) hnews (by omega) (by omega) (growslice_fits (by omega) (by rw [hby]; omega))
          have e2 := hr.symm.trans hr2
          cases e2
          exact ⟨RowsStay.alloc w _, fun _ _ => ⟨rfl, rfl, rfl, by simp, fun b hb => heap_alloc_old w.drew _ hb⟩⟩
    exact Lib.wp_append_run w s x t t ho v (.slice (some ad) m c) hs hx v' w' hr (h v' w' r1 (below w' r2) r3.1 r3.2)
end
end Go.By
namespace Go.By
open Go.RowKit
/-- what an operation leaves: 5 may write behind a row -/
def R24 (B n : Nat) (i : Nat) (w w' : World) : Prop := (i = 5 ∧ Below B w w' ∧ RowsStay B 5 n w w') ∨ (i ≠ 5 ∧ Below w.heap.size w w')
theorem R24.below {B n i : Nat} {w w' : World} (h : R24 B n i w w') (hB : B ≤ w.heap.size) : Below B w w' := by
  rcases h with ⟨_, h, _⟩ | ⟨_, h⟩
  · exact h
  · exact h.mono hB
/-- what the operations give -/
def sh24 (B m k r gp gr gt : Nat) (ws : List UInt8) (vw : Value) (j : Nat) (v : Value) (w : World) : Prop := match j with
  | 0 => ∃ g, v = .slice (some ⟨g, 0, none⟩) 0 0 ∧ w.ownsRow B 5 1 v 0 []
  | 1 => v = vw
  | 2 => w.ownsRow B 5 1 v m (ws.map B8)
  | 3 => v = .pointer (some ⟨gp, 2, none⟩)
  | 4 => v = .int .i64 (k : Nat)
  | 5 => w.ownsRow B 5 1 v (m + k) (ws.map B8 ++ List.replicate k (.int .u8 0))
  | 6 => v = .pointer (some ⟨gr, 0, none⟩)
  | 7 => v = .pointer (some ⟨gr, 0, none⟩)
  | 8 => v = .pointer (some ⟨gr, 0, none⟩)
  | 9 => v = .pointer (some ⟨gt, 0, none⟩)
  | 10 => v = .int .i64 (r : Nat)
  | 11 => ∃ q c, v = .slice q r c ∧ Sl B8 w q r c ((ws ++ List.replicate k 0).take r)
  | 12 => ∃ q c, v = .slice q r c ∧ Sl B8 w q r c ((ws ++ List.replicate k 0).take r)
  | _ => True
theorem sh24.keep {B n m k r gp gr gt : Nat} {ws : List UInt8} {vw : Value} {i j : Nat} {v : Value} {w w' : World} (hmn : m = n) (h : sh24 B m k r gp gr gt ws vw j v w) (hR : R24 B n i w w') (h5 : i = 5 → j ≠ 5 ∧ j ≠ 11 ∧ j ≠ 12) : sh24 B m k r gp gr gt ws vw j v w' := by
  subst hmn
  match j, h with
  | 0, h =>
    obtain ⟨g, e, h⟩ := h
    refine ⟨g, e, ?_⟩
    rcases hR with ⟨_, _, hs⟩ | ⟨_, hb⟩
    · exact hs 0 (Nat.zero_le _) _ _ h
    · exact owns_keepv h hb
  | 1, h => exact h
  | 2, h =>
    rcases hR with ⟨_, _, hs⟩ | ⟨_, hb⟩
    · exact hs m (Nat.le_refl _) _ _ h
    · exact owns_keepv h hb
  | 3, h => exact h
  | 4, h => exact h
  | 5, h =>
    rcases hR with ⟨e, _, _⟩ | ⟨_, hb⟩
    · exact absurd rfl (h5 e).1
    · exact owns_keepv h hb
  | 6, h => exact h
  | 7, h => exact h
  | 8, h => exact h
  | 9, h => exact h
  | 10, h => exact h
  | 11, h =>
    rcases hR with ⟨e, _, _⟩ | ⟨_, hb⟩
    · exact absurd rfl (h5 e).2.1
    · obtain ⟨q, c, e, hs⟩ := h; exact ⟨q, c, e, hs.keep hb⟩
  | 12, h =>
    rcases hR with ⟨e, _, _⟩ | ⟨_, hb⟩
    · exact absurd rfl (h5 e).2.2
    · obtain ⟨q, c, e, hs⟩ := h; exact ⟨q, c, e, hs.keep hb⟩
  | j + 13, _ => exact trivial
theorem R24.other {B n i : Nat} {w w' : World} (h5 : i ≠ 5) (h : Below w.heap.size w w') : R24 B n i w w' := .inr ⟨h5, h⟩
/-- some noughts are bytes -/
theorem zeros_map (k : Nat) : List.replicate k (Value.int .u8 0) = (List.replicate k (0 : UInt8)).map B8 := by rw [List.map_replicate]; rfl
/-- rows in memory -/
def RowsS (K : List (List UInt8 × List UInt8)) (v : Value) (w : World) : Prop := ∃ q c, v = .slice q K.length c ∧ RwS w q K.length c K
def ShRows (K : List (List UInt8 × List UInt8)) : Shp := ⟨RowsS K, fun _ _ _ ⟨q, c, e, h⟩ hb => ⟨q, c, e, h.keep hb⟩⟩
end Go.By
namespace Go.By
open Go.RowKit
theorem byte_of_wf {a : Int} (h : (Lit.int .u8 a).wf = true) : ∃ x : UInt8, Value.int .u8 a = B8 x ∧ a = (x.toNat : Int) := by
  have hb := bounds_u8 h
  have e : a = ((UInt8.ofNat a.toNat).toNat : Int) := by simp; omega
  exact ⟨UInt8.ofNat a.toNat, B8_congr e, e⟩
theorem sl_of_row {w : World} {a : Option Addr} {len cap : Nat} {zs : List Int}
    (h : (a = none ∧ len = 0 ∧ cap = 0 ∧ zs = []) ∨ ∃ x, a = some x ∧ len ≤ cap ∧ cap ≤ maxLen ∧ zs.length = cap ∧ (∀ i, i < zs.length → w.cell? (x.add i) = some (.int .u8 (zs.getD i 0))) ∧ ∀ n ∈ zs, (Lit.int .u8 n).wf = true) :
    ∃ xs, Sl B8 w a len cap xs := by
  rcases h with ⟨rfl, rfl, rfl, _⟩ | ⟨x, rfl, hl, hm, hz, hc, hw⟩
  · exact ⟨[], Sl.nil0 _ _⟩
  · refine ⟨(zs.take len).map fun z => UInt8.ofNat z.toNat, ⟨by simp; omega, hl, hm, fun h => by simp at h, ?_⟩⟩
    intro i hi
    have hi' : i < zs.length := by simp at hi; omega
    obtain ⟨b, o, hx, hc'⟩ := ints_at hc (by omega)
    refine ⟨b, o, by rw [hx], ?_⟩
    have hh := hc i hi'
    rw [hx, Addr.add_lit] at hh
    rw [hh]
    have e : zs.getD i 0 = zs[i] := by simp [hi']
    rw [e]
    have hb := bounds_u8 (hw _ (List.getElem_mem hi'))
    simp
    omega
end Go.By
namespace Go.Proofs.YtcfdopiponlboaaGreatDoor
open Go.RowKit Go.By Go.ChangeShapes Go.WideShapes Go.Deep
section
variable {H : Type} {enc : TypeId × Value → H} {P : Program} {w : World} {base : Nat} {held : Bool}
theorem open_bytes1 {t q : TypeId} {fuel : Nat} {c4 : Value} {x : DataW H × List MemPlace} (h4 : P.underlying t = some (.slice q)) (hq : P.underlying q = some (.int .u8)) (cq : P.cellsOf q = 1) (g4 : DataW.trod enc P w base (fun _ => true) held fuel t [c4] = some x) : ∃ p m c bs, c4 = .slice p m c ∧ Sl B8 w p m c bs := by
  rcases open_ints h4 hq cq g4 with ⟨hcs, _⟩ | ⟨x, l, c, zs, hcs, _, hl, hm, hz, _, hcell, hwz⟩
  · simp at hcs
    exact ⟨none, 0, 0, [], hcs, Sl.nil0 _ _⟩
  · simp at hcs
    obtain ⟨xs, hx⟩ := sl_of_row (.inr ⟨_, rfl, hl, hm, by simpa using hz, hcell, hwz⟩)
    exact ⟨_, _, _, xs, hcs, hx⟩
end
end Go.Proofs.YtcfdopiponlboaaGreatDoor
namespace Go.By
open Go.RowKit
/-- a source -/
structure SrcD where
  m : UInt8
  xs : List UInt8
  s : Nat
/-- sources in memory -/
structure SlS (w : World) (p : Option Addr) (n c : Nat) (by_ : List SrcD) : Prop where
  len : by_.length = n
  max : c ≤ maxLen
  le : n ≤ c
  rs : ∀ k a, by_[k]? = some a → ∃ b o q j c', p = some ⟨b, o, none⟩ ∧ w.cell? ⟨b, o + k * 3, none⟩ = some (B8 a.m) ∧ w.cell? ⟨b, o + k * 3 + 1, none⟩ = some (.slice q j c') ∧ w.cell? ⟨b, o + k * 3 + 2, none⟩ = some (.int .u64 (a.s : Nat)) ∧ Sl B8 w q j c' a.xs ∧ a.s < 18446744073709551616
theorem SlS.keep {w w' : World} {p : Option Addr} {n c : Nat} {l : List SrcD} (h : SlS w p n c l) (hb : Below w.heap.size w w') : SlS w' p n c l :=
  ⟨h.len, h.max, h.le, fun k a hk => by
    obtain ⟨b, o, q, j, c', hp, h0, h1, h2, h3, h4⟩ := h.rs k a hk
    have hlt := lt_of_cell h0
    exact ⟨b, o, q, j, c', hp, (hb.cell (p := ⟨b, o + k * 3, none⟩) hlt).trans h0, (hb.cell (p := ⟨b, o + k * 3 + 1, none⟩) hlt).trans h1, (hb.cell (p := ⟨b, o + k * 3 + 2, none⟩) hlt).trans h2, h3.keep hb, h4⟩⟩
theorem SlS.bound {w : World} {p : Option Addr} {n c : Nat} {l : List SrcD} (h : SlS w p n c l) : n ≤ 9223372036854775807 := by have := h.le; have := h.max; unfold maxLen at this; omega
theorem SlS.at {w : World} {p : Option Addr} {n c : Nat} {l : List SrcD} (h : SlS w p n c l) {i : Nat} (hi : i < n) : ∃ b o q j c' a, p = some ⟨b, o, none⟩ ∧ Hid (l[i]? = some a) ∧ w.cell? ⟨b, o + i * 3, none⟩ = some (B8 a.m) ∧ w.cell? ⟨b, o + i * 3 + 1, none⟩ = some (.slice q j c') ∧ w.cell? ⟨b, o + i * 3 + 2, none⟩ = some (.int .u64 (a.s : Nat)) ∧ Sl B8 w q j c' a.xs ∧ a.s < 18446744073709551616 := by
  have e : l[i]? = some (l[i]'(by rw [h.len]; exact hi)) := List.getElem?_eq_getElem _
  obtain ⟨b, o, q, j, c', hp, r⟩ := h.rs i _ e
  exact ⟨b, o, q, j, c', _, hp, e, r⟩
end Go.By
namespace Go.Proofs.YtcfdopiponlboaaGreatDoor
open Go.RowKit Go.By Go.ChangeShapes Go.WideShapes Go.Deep
section
variable {H : Type} {enc : TypeId × Value → H} {P : Program} {w : World} {base : Nat} {held : Bool}
theorem trod_struct3 {t : TypeId} {f0 f1 f2 : Field} {fuel : Nat} {cs : List Value} {x : DataW H × List MemPlace} {spare : Nat → Bool} (ht : P.underlying t = some (.struct #[f0, f1, f2])) (h : DataW.trod enc P w base spare held fuel t cs = some x) :
    ∃ y0 y1 y2 n, cs.length = P.cellsOf t ∧ DataW.trod enc P w base spare held n f0.type ((cs.drop f0.offset).take (P.cellsOf f0.type)) = some y0 ∧
      DataW.trod enc P w base spare held n f1.type ((cs.drop f1.offset).take (P.cellsOf f1.type)) = some y1 ∧ DataW.trod enc P w base spare held n f2.type ((cs.drop f2.offset).take (P.cellsOf f2.type)) = some y2 := by
  obtain ⟨xs, n, _, rfl, hl, hlen, hf⟩ := DataW.trod_struct ht h
  match xs, hlen with
  | [y0, y1, y2], _ => exact ⟨y0, y1, y2, n, hl, by simpa using hf 0 f0 rfl, by simpa using hf 1 f1 rfl, by simpa using hf 2 f2 rfl⟩
theorem list3 {α : Type} {cs : List α} (h : cs.length = 3) : ∃ c0 c1 c2, cs = [c0, c1, c2] := by
  match cs, h with
  | [c0, c1, c2], _ => exact ⟨c0, c1, c2, rfl⟩
/-- one source, cell by cell -/
theorem open_src {t q : TypeId} {f0 f1 f2 : Field} {fuel : Nat} {cs : List Value} {x : DataW H × List MemPlace} (ht : P.underlying t = some (.struct #[f0, f1, f2])) (hone : oneCellFields P #[f0, f1, f2] = true) (hC : P.cellsOf t = 3)
    (h0 : P.underlying f0.type = some (.int .u8)) (h1 : P.underlying f1.type = some (.slice q)) (h2 : P.underlying f2.type = some (.int .u64)) (hq : P.underlying q = some (.int .u8)) (cq : P.cellsOf q = 1)
    (h : DataW.trod enc P w base (fun _ => true) held fuel t cs = some x) :
    ∃ (a : SrcD) (p : Option Addr) (m c : Nat), cs = [B8 a.m, .slice p m c, .int .u64 (a.s : Nat)] ∧ Sl B8 w p m c a.xs ∧ a.s < 18446744073709551616 := by
  obtain ⟨y0, y1, y2, n, hl, g0, g1, g2⟩ := trod_struct3 ht h
  obtain ⟨c0, c1, c2, rfl⟩ := list3 (hl.trans hC)
  obtain ⟨o0, k0⟩ := hone_of hone 0 f0 rfl
  obtain ⟨o1, k1⟩ := hone_of hone 1 f1 rfl
  obtain ⟨o2, k2⟩ := hone_of hone 2 f2 rfl
  rw [o0, k0] at g0; rw [o1, k1] at g1; rw [o2, k2] at g2
  obtain ⟨d, e0, -, w0⟩ := DataW.trod_int h0 g0
  obtain ⟨p, m, c, bs, e1, hs⟩ := open_bytes1 h1 hq cq g1
  obtain ⟨s, e2, -, w2⟩ := DataW.trod_int h2 g2
  have b0 : 0 ≤ d ∧ d ≤ 255 := by
    simp [Lit.wf, IntKind.min, IntKind.max, IntKind.signed, IntKind.bits] at w0
    omega
  have b2 : 0 ≤ s ∧ s ≤ 18446744073709551615 := by
    simp [Lit.wf, IntKind.min, IntKind.max, IntKind.signed, IntKind.bits] at w2
    omega
  obtain ⟨sn, rfl⟩ := Int.eq_ofNat_of_zero_le b2.1
  obtain ⟨xd, hxd, -⟩ := byte_of_wf w0
  simp at e0 e2
  subst e0; subst e1; subst e2

  exact ⟨⟨xd, bs, sn⟩, p, m, c, by show [_, _, _] = [B8 xd, _, _]; rw [hxd], hs, by show sn < 18446744073709551616; have := b2.2; omega⟩
theorem open_srcs {t e q : TypeId} {f0 f1 f2 : Field} {fuel : Nat} {cs : List Value} {x : DataW H × List MemPlace} (ht : P.underlying t = some (.slice e)) (he : P.underlying e = some (.struct #[f0, f1, f2])) (hone : oneCellFields P #[f0, f1, f2] = true) (hC : P.cellsOf e = 3)
    (h0 : P.underlying f0.type = some (.int .u8)) (h1 : P.underlying f1.type = some (.slice q)) (h2 : P.underlying f2.type = some (.int .u64)) (hq : P.underlying q = some (.int .u8)) (cq : P.cellsOf q = 1)
    (h : DataW.trod enc P w base (fun _ => true) held fuel t cs = some x) : ∃ p n c l, cs = [.slice p n c] ∧ SlS w p n c l := by
  rcases open_slice ht h with ⟨hcs, _⟩ | ⟨a, len, cap, m, n, D, Pl, rfl, hb, hl, hm, hmm, rfl, hx⟩
  · exact ⟨none, 0, 0, [], hcs, ⟨rfl, by simp [maxLen], Nat.le_refl _, fun k a hk => by simp at hk⟩⟩
  simp only [if_true] at hmm
  have hmm' := hmm.symm
  subst hmm'
  have hsp : 0 < len → a.spot = none := fun h => by
    obtain ⟨cs', hc, htr⟩ := hx 0 (by omega)
    obtain ⟨y, p, m', c', rfl, -⟩ := open_src he hone hC h0 h1 h2 hq cq htr
    obtain ⟨_, _, hcell⟩ := World.cells?_some hc
    have z0 := hcell 0 (by omega)
    simpa [Addr.add] using World.cell?_spot (z0.trans rfl)
  have each : ∀ k, k < len → ∃ y : SrcD, ∃ b o q j c', a = ⟨b, o, none⟩ ∧ w.cell? ⟨b, o + k * 3, none⟩ = some (B8 y.m) ∧ w.cell? ⟨b, o + k * 3 + 1, none⟩ = some (.slice q j c') ∧ w.cell? ⟨b, o + k * 3 + 2, none⟩ = some (.int .u64 (y.s : Nat)) ∧ Sl B8 w q j c' y.xs ∧ y.s < 18446744073709551616 := by
    intro k hk
    obtain ⟨cs', hc, htr⟩ := hx k (by omega)
    obtain ⟨y, p, m', c', rfl, hs, hb1⟩ := open_src he hone hC h0 h1 h2 hq cq htr
    obtain ⟨_, _, hcell⟩ := World.cells?_some hc
    rw [hC] at hcell
    obtain ⟨b, o, spot⟩ := a
    have z0 := hcell 0 (by omega)
    have hspot : spot = none := hsp (by omega)
    subst hspot
    have z1 := hcell 1 (by omega); have z2 := hcell 2 (by omega)
    simp only [add_plain] at z0 z1 z2
    exact ⟨y, b, o, p, m', c', rfl, z0, z1, z2, hs, hb1⟩
  obtain ⟨f, hf⟩ : ∃ f : Nat → SrcD, ∀ k, k < len → ∃ b o q j c', a = ⟨b, o, none⟩ ∧ w.cell? ⟨b, o + k * 3, none⟩ = some (B8 (f k).m) ∧ w.cell? ⟨b, o + k * 3 + 1, none⟩ = some (.slice q j c') ∧ w.cell? ⟨b, o + k * 3 + 2, none⟩ = some (.int .u64 ((f k).s : Nat)) ∧ Sl B8 w q j c' (f k).xs ∧ (f k).s < 18446744073709551616 :=
    ⟨fun k => if hk : k < len then Classical.choose (each k hk) else ⟨0, [], 0⟩, fun k hk => by simp only [dif_pos hk]; exact Classical.choose_spec (each k hk)⟩
  refine ⟨some a, len, cap, (List.range len).map f, rfl, ⟨by simp, hm, hl, fun k y hk => ?_⟩⟩
  rw [List.getElem?_map] at hk
  cases hr : (List.range len)[k]? with
  | none => rw [hr] at hk; simp at hk
  | some k' =>
    rw [hr] at hk
    obtain ⟨hk1, hk2⟩ := List.getElem?_eq_some_iff.1 hr
    simp at hk1 hk2 hk
    subst hk2; subst hk
    obtain ⟨b, o, q, j, c', e, r⟩ := hf k hk1
    exact ⟨b, o, q, j, c', by rw [e], r⟩
end
end Go.Proofs.YtcfdopiponlboaaGreatDoor
namespace Go.Proofs.YtcfdopiponlboaaGreatDoor
open Go.RowKit Go.By
/-- a plan is gone through here: none that may be, or a small one -/
def small19 (l s n : Int) : Bool := if checkS l s n = 0 then decide (n ≤ 12) && decide (s ≤ 20) else true
set_option maxRecDepth 100000 in
set_option maxHeartbeats 1000000 in
theorem Small19_any (l s n d : Int) (w : World) (hl2 : l ≤ 9223372036854775807) :
    Calls Tryz.prog 7 #[.agg #[.int .i64 l, .int .i64 s, .int .i64 n, .int .u32 d]] w fun e w' => e = .returned (.bool (small19 l s n)) ∧ Below w.heap.size w w' := by
  have HC := Lib.hid (fun w => Check_any l s n d w hl2)
  have HS : Hid (small19 l s n = if checkS l s n = 0 then decide (n ≤ 12) && decide (s ≤ 20) else true) := rfl
  generalize small19 l s n = R at *
  generalize checkS l s n = C at *
  by_cases hc : C = 0
  · subst hc
    by_cases hn : n ≤ 12
    · by_cases hs : s ≤ 20
      · have HR : Hid (R = true) := by show _ = _; rw [HS.out, if_pos rfl, decide_eq_true hn, decide_eq_true hs]; rfl
        clear HS
        go_enter Tryz.func7, Tryz.ntmps7
        go_wp2_with fail
        refine Calls.mono (HC.out _) ?_
        rintro e w1 ⟨rfl, hb⟩
        obtain ⟨hb1, h1, hsz⟩ := one_of hb
        obtain ⟨c0, c1, c2, c3⟩ := cells_four h1
        have HB := Lib.hid hb1
        clear hb hb1
        go_wp2
        go_ret
        exact ⟨by rw [HR.out]; first | rfl | (simp only [decide_eq_true hs]; rfl), HB.out⟩
      · have hs' : ¬ s ≤ 20 := by omega
        have HR : Hid (R = false) := by show _ = _; rw [HS.out, if_pos rfl, decide_eq_true hn, decide_eq_false hs']; rfl
        clear HS
        go_enter Tryz.func7, Tryz.ntmps7
        go_wp2_with fail
        refine Calls.mono (HC.out _) ?_
        rintro e w1 ⟨rfl, hb⟩
        obtain ⟨hb1, h1, hsz⟩ := one_of hb
        obtain ⟨c0, c1, c2, c3⟩ := cells_four h1
        have HB := Lib.hid hb1
        clear hb hb1
        go_wp2
        go_ret
        exact ⟨by rw [HR.out]; first | rfl | (simp only [show decide (s ≤ 20) = false from decide_eq_false (by omega)]; rfl), HB.out⟩
    · have HR : Hid (R = false) := by show _ = _; rw [HS.out, if_pos rfl, decide_eq_false hn]; rfl
      clear HS
      go_enter Tryz.func7, Tryz.ntmps7
      go_wp2_with fail
      refine Calls.mono (HC.out _) ?_
      rintro e w1 ⟨rfl, hb⟩
      obtain ⟨hb1, h1, hsz⟩ := one_of hb
      obtain ⟨c0, c1, c2, c3⟩ := cells_four h1
      have HB := Lib.hid hb1
      clear hb hb1
      go_wp2
      go_ret
      exact ⟨by rw [HR.out]; rfl, HB.out⟩
  · have hz : (C != 0) = true := bne_iff_ne.2 hc
    have HR : Hid (R = true) := by show _ = _; rw [HS.out, if_neg hc]
    clear HS hc
    go_enter Tryz.func7, Tryz.ntmps7
    go_wp2_with fail
    refine Calls.mono (HC.out _) ?_
    rintro e w1 ⟨rfl, hb⟩
    obtain ⟨hb1, h1, hsz⟩ := one_of hb
    have HB := Lib.hid hb1
    clear hb hb1
    go_wp2
    go_ret
    exact ⟨by rw [HR.out]; rfl, HB.out⟩
end Go.Proofs.YtcfdopiponlboaaGreatDoor
namespace Go.Proofs.YtcfdopiponlboaaGreatDoor
open Go.RowKit Go.By Go.Maps
def pktA : List UInt8 := pktB 0 0 0 [2, 0] 0 [4]
def pktS9 : List UInt8 := pktB 0 0 9 [1, 0] 0 [2]
theorem readA : readC 2 1 0 pktA = 0 ∧ eqX 2 1 pktA = ([2, 0], [4]) := by
  obtain ⟨h1, h2, h3, h4, h5, h6⟩ := read_write (m := 0) (D := 0) (n := 0) (s := 0) (k := 2) (t := 1) (xs := [2, 0]) (ys := [4]) rfl (fun _ => rfl) rfl (by decide) (by decide)
  refine ⟨h1, ?_⟩
  unfold eqX
  rw [show pktM pktA = 0 from h2, show pktX 2 pktA = [2, 0] from h4, show pktY 2 1 pktA = [4] from h6]
  rfl
theorem takeA (st : Nat) (h : st = 0) : takeK 2 1 0 [] st pktA = [([1, 0], [2])] := by
  unfold takeK
  rw [if_pos ⟨readA.1, h⟩, readA.2, put_a]
theorem pieces24 : (List.range 2).map (pieceS [2, 4] 1) = [[2], [4]] := by decide
theorem lenA : pktA.length = 17 := by simp [pktA, pktB, bodyP, headB, srcB, put4_len]
theorem len9 : pktS9.length = 17 := by simp [pktS9, pktB, bodyP, headB, srcB, put4_len]
theorem saidA : pktB 0 0 9 (combS [1] (([([1, 0], [2])] : List Rw).map (·.1))).1 0 (combS [1] (([([1, 0], [2])] : List Rw).map (·.2))).1 = pktS9 := by
  show pktB 0 0 9 (combS [1] [[1, 0]]).1 0 (combS [1] [[2]]).1 = pktS9
  rw [comb_b, comb_c]; rfl
set_option maxRecDepth 100000 in
set_option maxHeartbeats 8000000 in
theorem awake21 (w : World) (hT : HalfT w) : Calls Tryz.prog 5 #[] w fun e w' => e = .returned (.bool true) ∧ Below w.heap.size w w' := by
  have HT := Lib.hid hT
  have HOf : Hid (∀ w, Calls Tryz.prog 17 #[.int .i64 2, .int .i64 1, .int .u32 0] w fun e w' => e = .returned (.tuple #[PVal 2 1 2 0, .int .i64 0]) ∧ Below w.heap.size w w') := fun w => by have := POf_any 2 1 0 w (by decide); rw [of21] at this; exact this
  have HRd : Hid (∀ w p n c, HalfT w → Sl B8 w p n c pktS9 → Calls Tryz.prog 22 #[PVal 2 1 2 0, .slice p n c] w (PRet w 0 0 9 [1, 0] 0 [2])) := fun w p n c hT hs => by
    have hn := hs.len
    rw [len9] at hn
    have := PRead_any 2 1 2 0 p n c pktS9 w pok21 hT hs (by rw [← hn]; show 17 ≤ 140737488355328; decide)
    obtain ⟨h1, h2, h3, h4, h5, h6⟩ := read_write (m := 0) (D := 0) (n := 9) (s := 0) (k := 2) (t := 1) (xs := [1, 0]) (ys := [2]) rfl (fun _ => rfl) rfl (by decide) (by decide)
    rw [show readC 2 1 0 pktS9 = 0 from h1, if_pos rfl, show pktM pktS9 = 0 from h2, show pktN pktS9 = 9 from h3, show pktX 2 pktS9 = [1, 0] from h4, show pktS 2 pktS9 = 0 from h5, show pktY 2 1 pktS9 = [2] from h6] at this
    exact this
  have HSm : Hid (∀ xs p1 p2 n1 n2 c1 c2 w, Sl B8 w p1 n1 c1 xs → Sl B8 w p2 n2 c2 xs → Calls Tryz.prog 15 #[.slice p1 n1 c1, .slice p2 n2 c2] w fun e w' => e = .returned (.bool true) ∧ Below w.heap.size w w') := fun xs p1 p2 n1 n2 c1 c2 w h1 h2 => by
    have := Same_any p1 p2 n1 n2 c1 c2 xs xs w h1 h2
    rw [decide_eq_true rfl] at this
    exact this
  clear hT
  go_enter Tryz.func5, Tryz.ntmps5
  go_wp2_with fail
  refine Calls.mono (HOf.out w) ?_
  rintro e w1 ⟨rfl, hb1⟩
  have HB1 := Lib.hid hb1
  clear hb1
  go_wp2_with fail
  refine Calls.mono (SNew_ok 2 1 2 0 _ 2 2 [2, 4] _ pok21 (sl_block [2, 4] 2 (hnew (by simp)) rfl rfl (by simp [maxLen])) (fun i hi => by omega) rfl) ?_
  rintro e w2 ⟨gs, rfl, hgs, hsn, hb⟩
  rw [pieces24] at hsn
  obtain ⟨hb2, kp, -, hs2⟩ := two_of hb
  have HB2 := Lib.hid (bl HB1.out hb2 HB1.out.size)
  have HSn := Lib.hid hsn
  have HGS : Hid (w.heap.size ≤ gs) := by have := HB1.out.size; show w.heap.size ≤ gs; simp at hgs; omega
  clear hb hb2 hsn hgs hs2
  obtain ⟨p0, p1, p2, p3⟩ := cells_four kp
  go_wp2_with fail
  refine Calls.mono (YNew_ok 2 1 2 0 9 _ pok21 (by decide)) ?_
  rintro e w3 ⟨gr, gt, be, v, rfl, hr, hb⟩
  have HB3 := Lib.hid (bl HB2.out hb HB2.out.size)
  have HR3 := Lib.hid hr
  have HSn3 := Lib.hid (HSn.out.keep hb)
  have kp3 := (hb.block _ (lt_of_block kp)).trans kp
  clear hb hr HSn kp p0 p1 p2 p3
  go_wp2_with fail
  have ba := al (o := .cells #[.int .u8 2, .int .u8 0] 5 (0, 0)) (Below.refl w3.heap.size w3) (Nat.le_refl _)
  have HR4 := Lib.hid (HR3.out.keep ba)
  have HSn4 := Lib.hid (HSn3.out.keep ba)
  have kp4 := (ba.block _ (lt_of_block kp3)).trans kp3
  have HB4 := Lib.hid (bl HB3.out ba HB3.out.size)
  have HX4 : Hid (Sl B8 (w3.alloc (.cells #[.int .u8 2, .int .u8 0] 5 (0, 0))) (some ⟨w3.heap.size, 0, none⟩) 2 2 [2, 0]) := sl_block [2, 0] 2 (hnew rfl) rfl rfl (by simp [maxLen])
  clear ba HR3 HSn3 kp3 HB3
  refine Calls.mono (SExplicit_ok gs 2 1 2 0 0 [[2], [4]] _ 2 2 [2, 0] _ HSn4.out (by decide) rfl HX4.out (HT.out.keep HB4.out)) ?_
  rintro e w5 ⟨ql, nl, cl, rfl, hl, hsn, hg⟩
  rw [comb_a] at hl
  obtain ⟨_, _, hbx, -⟩ := HSn4.out.mem
  have HL := Lib.hid hl
  have HR5 := Lib.hid (hg.rly hbx HR4.out (by decide) (by decide) (by decide) (by decide) (by decide))
  have kp5 := hg.blk hbx kp4 (by decide)
  have HB5 := Lib.hid (HB4.out.trans (hg.below HGS.out HB4.out.size))
  have hnl : nl = 17 := by rw [← hl.len]; exact lenA
  have HNL := Lib.hid hnl
  clear hg hbx hl hsn HR4 HSn4 kp4 HB4 HX4 hnl
  obtain ⟨r0, r1⟩ := cells2 HR5.out.box
  go_wp2_with fail
  refine Calls.mono (TTake_any _ gt be 2 1 2 0 0 (.map none) v (.map []) [] 0 ql nl cl pktA w5 HR5.out.tk (HT.out.keep HB5.out) (by decide) HL.out (by rw [HNL.out]; show 17 ≤ 140737488355328; decide)) ?_
  rintro e w6 ⟨he, M6, v6, hT6, hc6, -⟩
  rw [readA.1] at he
  subst he
  rw [takeA 0 rfl] at hT6
  have HR6 := Lib.hid (HR5.out.took hT6 hc6)
  have kp6 := hc6.blk HR5.out.tk kp5 (by decide) (by decide) (by decide)
  have HB6 := Lib.hid (HB5.out.trans (hc6.below HR5.out.tk HB2.out.size HB5.out.size))
  clear hT6 hc6 HR5 kp5 HB5 HL HNL r0 r1
  go_wp2_with fail
  have ba := al (o := .cells #[.int .u8 1] 5 (0, 0)) (Below.refl w6.heap.size w6) (Nat.le_refl _)
  have HR7 := Lib.hid (HR6.out.keep ba)
  have kp7 := (ba.block _ (lt_of_block kp6)).trans kp6
  have HB7 := Lib.hid (bl HB6.out ba HB6.out.size)
  have HX7 : Hid (Sl B8 (w6.alloc (.cells #[.int .u8 1] 5 (0, 0))) (some ⟨w6.heap.size, 0, none⟩) 1 1 [1]) := sl_block [1] 1 (hnew rfl) rfl rfl (by simp [maxLen])
  clear ba HR6 kp6 HB6
  refine Calls.mono (YSay_ok _ gr gt be 2 1 2 0 _ 9 M6 v6 _ _ _ _ 1 1 [1] _ HR7.out HX7.out (HT.out.keep HB7.out) (by decide) (by decide) rfl) ?_
  rintro e w8 ⟨qx, nx, cx, rfl, hx, hr8, hg8⟩
  rw [saidA] at hx
  have HX8 := Lib.hid hx
  have kp8 := hg8.blk HR7.out.box kp7 (by decide)
  have HB8 := Lib.hid (HB7.out.trans (hg8.below (Nat.le_trans HB2.out.size HR7.out.old) HB7.out.size))
  clear hx hr8 hg8 HR7 kp7 HB7 HX7
  obtain ⟨p0, p1, p2, p3⟩ := cells_four kp8
  go_wp2_with fail
  refine Calls.mono (HRd.out _ _ _ _ (HT.out.keep HB8.out) HX8.out) ?_
  rintro e w9 ⟨q1, n1, c1, q2, n2, c2, rfl, f1, f2, hb⟩
  have HB9 := Lib.hid (bl HB8.out hb HB8.out.size)
  have F1 := Lib.hid f1.sl
  have F2 := Lib.hid f2.sl
  clear hb f1 f2 kp8 p0 p1 p2 p3 HX8 HB8
  go_wp2_with fail
  refine Calls.mono (HSm.out [1, 0] _ _ _ _ _ _ _ (F1.out.keep (al (al (Below.refl _ _) (Nat.le_refl _)) (by simp))) (sl_block [1, 0] 2 (hnew (by simp)) rfl rfl (by simp [maxLen]))) ?_
  rintro e w10 ⟨rfl, hb⟩
  obtain ⟨hb10, k9, -, -⟩ := two_of hb
  have HB10 := Lib.hid (bl HB9.out hb10 HB9.out.size)
  have F3 := Lib.hid (F2.out.keep hb10)
  have f6 := (cells_seven k9).2.2.2.2.2.2
  clear hb hb10 k9 F1 F2 HB9
  go_wp2_with fail
  refine Calls.mono (HSm.out [2] _ _ _ _ _ _ _ (F3.out.keep (al (Below.refl _ _) (Nat.le_refl _))) (sl_block [2] 1 (hnew rfl) rfl rfl (by simp [maxLen]))) ?_
  rintro e w11 ⟨rfl, hb⟩
  have HB11 := Lib.hid (bl HB10.out (one_of hb).1 HB10.out.size)
  clear hb
  go_wp2
  go_ret
  exact ⟨rfl, HB11.out⟩
end Go.Proofs.YtcfdopiponlboaaGreatDoor
namespace Go.Proofs.YtcfdopiponlboaaGreatDoor
open Gf Go.By
def vecsL (X : List Rw) : List (List UInt8) := X.map (fun x : Rw => x.1)
end Go.Proofs.YtcfdopiponlboaaGreatDoor
namespace Go.Proofs.YtcfdopiponlboaaGreatDoor
open Go.RowKit Go.By
theorem restF_snoc9 (K : List Rw) (k x : Rw) : restF (K ++ [k]) x = lessF (restF K x) (atS (restF K x).1 (leadS k.1)) k := by unfold restF; rw [List.foldl_append]; rfl
theorem restF_take9 {K : List Rw} {j : Nat} {k x : Rw} (h : K[j]? = some k) : restF (K.take (j + 1)) x = lessF (restF (K.take j) x) (atS (restF (K.take j) x).1 (leadS k.1)) k := by
  have e : K.take (j + 1) = K.take j ++ [k] := by
    rw [List.take_add_one, h]; rfl
  rw [e, restF_snoc9]
theorem lessS_fit9 {n t : Nat} {x k : Rw} {c : UInt8} (hx : Fit n t x) (hk : Fit n t k) : lessS x c k = (lessF x c k, 0) := by
  unfold lessS lessF
  rw [if_pos ⟨by rw [hx.1, hk.1], by rw [hx.2, hk.2]⟩]
set_option maxRecDepth 100000 in
set_option maxHeartbeats 4000000 in
theorem left_any (p qk : Option Addr) (n c nk ck : Nat) (v : List UInt8) (K : List Rw) (w : World) (hv : Sl B8 w p n c v) (hk : RwS w qk nk ck K) (hf : ∀ r, r ∈ K → Fit n 0 r) (hr : Room n) (hkb : nk ≤ 65536) :
    Calls Tryz.prog 60 #[.slice p n c, .slice qk nk ck] w fun e w' => ∃ q1 c1 q2 c2, e = .returned (.agg #[.slice q1 n c1, .slice q2 0 c2]) ∧ Sl B8 w' q1 n c1 (restF K (v, [])).1 ∧ Sl B8 w' q2 0 c2 (restF K (v, [])).2 ∧ Below w.heap.size w w' := by
  have hinfo := info_row
  have HV := Lib.hid hv; have HK := Lib.hid hk; have HF := Lib.hid hf; have HR := Lib.hid hr; have HVL := Lib.hid hv.len; have HKL := Lib.hid hk.len
  have HB : Hid (∀ o, Below w.heap.size w (w.alloc o)) := fun o => al (Below.refl _ _) (Nat.le_refl _)
  clear hv hk hf hr
  go_enter Tryz.func60, Tryz.ntmps60
  go_wp2_with fail
  refine Calls.mono (Of_any p none n c 0 0 v [] _ (HV.out.keep (HB.out _)) (Sl.nil0 _ _) HR.out (show Room 0 by unfold Room; omega)) ?_
  rintro e w3 ⟨q1, m1, g1, q2, m2, g2, l1, l2, rfl, o1, o2, hb3⟩
  have BW3 : Hid (Below w.heap.size w w3) := bl (HB.out _) hb3 (HB.out _).size
  have S1 := Lib.hid (Sl.of_owns o1); have S2 := Lib.hid (Sl.of_owns o2)
  have X3 : Hid (w3.heap[w.heap.size]? = some (.cells #[.slice none 0 0, .slice none 0 0] 47 (0, 0))) := (hb3.block _ (blk_lt (hnew rfl))).trans (hnew rfl)
  have NB3 : Hid ((∀ a, q1 = some a → w.heap.size < a.block) ∧ ∀ a, q2 = some a → w.heap.size < a.block) := ⟨fun a ha => by have := (owns_new o1 a ha).1; simp at this; omega, fun a ha => by have := (owns_new o2 a ha).1; simp at this; omega⟩
  have hne3 : Hid (w.heap.size ≠ w3.heap.size) := fun e => by have := blk_lt X3.out; omega
  clear o1 o2 hb3
  go_wp2
  go_loopw [12] (fun i wq => ∃ (j : Nat) (q1 : Option Addr) (m1 g1 : Nat) (q2 : Option Addr) (m2 g2 : Nat), j ≤ nk ∧ i = .int .i64 j ∧ Hid (wq.heap[w3.heap.size]? = some (.cells #[.slice q1 m1 g1, .slice q2 m2 g2] 47 (0, 0))) ∧
    Hid (Sl B8 wq q1 m1 g1 (restF (K.take j) (v, [])).1) ∧ Hid (Sl B8 wq q2 m2 g2 (restF (K.take j) (v, [])).2) ∧
    Hid (Below w.heap.size w wq) ∧ Hid (wq.heap[w.heap.size]? = some (.cells #[.slice none 0 0, .slice none 0 0] 47 (0, 0))) ∧ Hid ((∀ a, q1 = some a → w.heap.size < a.block) ∧ ∀ a, q2 = some a → w.heap.size < a.block)) (fun i _ => nk - (intOf i).toNat)
  case atStart => exact ⟨0, q1, m1, g1, q2, m2, g2, Nat.zero_le _, rfl, hnew rfl, S1.out.keep (al (Below.refl _ _) (Nat.le_refl _)), S2.out.keep (al (Below.refl _ _) (Nat.le_refl _)), al BW3.out BW3.out.size, hal X3.out, NB3.out⟩
  case round =>
    clear S1 S2 X3 l1 l2 NB3
    obtain ⟨j, q1, m1, g1, q2, m2, g2, hj, rfl, hL, hS1, hS2, hBw, hX, hNB⟩ := hrel
    by_cases hjl : j < nk
    · obtain ⟨kk, hkk'⟩ : ∃ x, K[j]? = some x := ⟨_, List.getElem?_eq_getElem (by rw [HKL.out]; exact hjl)⟩
      obtain ⟨gb, go, a1, b1, d1, a2, b2, d2, rfl, e1, e2, t1, t2⟩ := (HK.out.keep hBw.out).row j kk hkk'
      have hkk := Lib.hid hkk'
      have T1 := Lib.hid t1; have T2 := Lib.hid t2
      have jn : (j : Int) < (nk : Int) := by omega
      obtain ⟨y0, y1⟩ := cells2 hL.out
      have E1 := Lib.hid e1; have E2 := Lib.hid e2
      have hx : Fit n 0 ((v, []) : Rw) := ⟨HVL.out, rfl⟩
      have fitK : Fit n 0 kk := HF.out kk (List.mem_of_getElem? hkk')
      obtain ⟨XJ, hXJ⟩ : ∃ XJ, XJ = restF (K.take j) (v, []) := ⟨_, rfl⟩
      have fitX : Fit n 0 XJ := by rw [hXJ]; exact hx.rest (fun a ha => HF.out a (List.mem_of_mem_take ha))
      rw [← hXJ] at hS1 hS2
      obtain ⟨LJ, hLJ⟩ : ∃ LJ, LJ = leadS kk.1 := ⟨_, rfl⟩
      obtain ⟨CJ, hCJ⟩ : ∃ CJ, CJ = atS XJ.1 LJ := ⟨_, rfl⟩
      obtain ⟨YJ, hYJ⟩ : ∃ YJ, YJ = lessF XJ CJ kk := ⟨_, rfl⟩
      have hnext : Hid (restF (K.take (j + 1)) (v, []) = YJ) := by show _ = _; rw [restF_take9 hkk.out, ← hXJ, hYJ, hCJ, hLJ]
      have lm1 : m1 = n := by have := hS1.out.len; rw [fitX.1] at this; exact this.symm
      have lm2 : m2 = 0 := by have := hS2.out.len; rw [fitX.2] at this; exact this.symm
      have HLD : Hid (∀ W, Sl B8 W a1 b1 d1 kk.1 → Calls Tryz.prog 69 #[.slice a1 b1 d1] W fun e w' => e = .returned (.int .i64 LJ) ∧ W = w') := fun W h => by rw [hLJ]; exact Lead_any _ _ _ _ W h
      have HAT : Hid (∀ W, Sl B8 W q1 m1 g1 XJ.1 → Calls Tryz.prog 68 #[.slice q1 m1 g1, .int .i64 LJ] W fun e w' => e = .returned (B8 CJ) ∧ W = w') := fun W h => by rw [hCJ]; exact At_any _ _ _ _ LJ W h
      have HLS : Hid (∀ W, Sl B8 W q1 m1 g1 XJ.1 → Sl B8 W q2 m2 g2 XJ.2 → Sl B8 W a1 b1 d1 kk.1 → Sl B8 W a2 b2 d2 kk.2 → Calls Tryz.prog 67 #[.agg #[.slice q1 m1 g1, .slice q2 m2 g2], B8 CJ, .agg #[.slice a1 b1 d1, .slice a2 b2 d2]] W (RetR2 5 W YJ 0)) := fun W h1 h2 h3 h4 => by
        have := Less_any q1 q2 a1 a2 m1 g1 m2 g2 b1 d1 b2 d2 XJ.1 XJ.2 kk.1 kk.2 CJ W h1 h2 h3 h4 (by rw [lm1]; exact HR.out) (by rw [lm2]; unfold Room; omega)
        rw [lessS_fit9 (n := n) (t := 0) (x := XJ) (k := kk) fitX fitK, ← hYJ] at this
        exact this
      have AL : Hid (Below wr.heap.size wr (wr.alloc (.cells #[.slice a1 b1 d1, .slice a2 b2 d2] 47))) := al (Below.refl _ _) (Nat.le_refl _)
      have hsz3 : Hid (w.heap.size ≤ w3.heap.size) := BW3.out.size
      have hNX : Hid (∀ (w9 : World) (q5 : Option Addr) (m5 g5 : Nat) (q6 : Option Addr) (m6 g6 : Nat), Below wr.heap.size wr w9 → Sl B8 w9 q5 m5 g5 YJ.1 → Sl B8 w9 q6 m6 g6 YJ.2 → (∀ a, q5 = some a → wr.heap.size ≤ a.block) → (∀ a, q6 = some a → wr.heap.size ≤ a.block) →
          ((w9.setCell ⟨w3.heap.size, 0, none⟩ (.slice q5 m5 g5)).setCell ⟨w3.heap.size, 1, none⟩ (.slice q6 m6 g6)).heap[w3.heap.size]? = some (.cells #[.slice q5 m5 g5, .slice q6 m6 g6] 47 (0, 0)) ∧
          Sl B8 ((w9.setCell ⟨w3.heap.size, 0, none⟩ (.slice q5 m5 g5)).setCell ⟨w3.heap.size, 1, none⟩ (.slice q6 m6 g6)) q5 m5 g5 (restF (K.take (j + 1)) (v, [])).1 ∧
          Sl B8 ((w9.setCell ⟨w3.heap.size, 0, none⟩ (.slice q5 m5 g5)).setCell ⟨w3.heap.size, 1, none⟩ (.slice q6 m6 g6)) q6 m6 g6 (restF (K.take (j + 1)) (v, [])).2 ∧
          Below w.heap.size w ((w9.setCell ⟨w3.heap.size, 0, none⟩ (.slice q5 m5 g5)).setCell ⟨w3.heap.size, 1, none⟩ (.slice q6 m6 g6)) ∧
          ((w9.setCell ⟨w3.heap.size, 0, none⟩ (.slice q5 m5 g5)).setCell ⟨w3.heap.size, 1, none⟩ (.slice q6 m6 g6)).heap[w.heap.size]? = some (.cells #[.slice none 0 0, .slice none 0 0] 47 (0, 0)) ∧ ((∀ a, q5 = some a → w.heap.size < a.block) ∧ ∀ a, q6 = some a → w.heap.size < a.block)) := by
        intro w9 q5 m5 g5 q6 m6 g6 b9 s5 s6 s7 s8
        have L9 : w9.heap[w3.heap.size]? = some (.cells #[.slice q1 m1 g1, .slice q2 m2 g2] 47 (0, 0)) := (b9.block _ (blk_lt hL.out)).trans hL.out
        have X9 : w9.heap[w.heap.size]? = some (.cells #[.slice none 0 0, .slice none 0 0] 47 (0, 0)) := (b9.block _ (blk_lt hX.out)).trans hX.out
        rw [hnext.out]
        have hl3 := blk_lt hL.out
        have ne5 : ∀ a, q5 = some a → a.block ≠ w3.heap.size := fun a ha => by have := s7 a ha; omega
        have ne6 : ∀ a, q6 = some a → a.block ≠ w3.heap.size := fun a ha => by have := s8 a ha; omega
        exact ⟨hss (hss L9), (s5.set ne5).set ne5, (s6.set ne6).set ne6, ((bl hBw.out b9 hBw.out.size).setCell hsz3.out _).setCell hsz3.out _, hsc (hsc X9 hne3.out) hne3.out, fun a ha => by have h1 := s7 a ha; have h2 := blk_lt hX.out; omega, fun a ha => by have h1 := s8 a ha; have h2 := blk_lt hX.out; omega⟩
      clear hXJ hLJ hCJ hYJ hx fitK fitX lm1 lm2 t1 t2 hkk'
      clear y0 y1
      go_wp2
      have z0 : (wr.alloc (.cells #[.slice a1 b1 d1, .slice a2 b2 d2] 47)).cell? ⟨wr.heap.size, 0, none⟩ = some (.slice a1 b1 d1) := cell_of_row _ _ 0 _ _ _ (hnew rfl)
      have z1 : (wr.alloc (.cells #[.slice a1 b1 d1, .slice a2 b2 d2] 47)).cell? ⟨wr.heap.size, 1, none⟩ = some (.slice a2 b2 d2) := cell_of_row _ _ 1 _ _ _ (hnew rfl)
      obtain ⟨y0, y1⟩ := cells2 (hal (o := .cells #[.slice a1 b1 d1, .slice a2 b2 d2] 47) hL.out)
      refine wp_region_late (fun ix => ([.val (.agg #[.slice q1 m1 g1, .slice q2 m2 g2]), .val (.pointer (some ⟨w3.heap.size, 0, none⟩)), .val (.slice q1 m1 g1), .val (.pointer (some ⟨wr.heap.size, 0, none⟩)), .val (.slice a1 b1 d1), .val (.int .i64 LJ), .val (B8 CJ), .val (.agg #[.slice a1 b1 d1, .slice a2 b2 d2]), .rowTN (wr.heap.size) (YJ) (0), .rowTN (wr.heap.size) (YJ) (0), .rowN (wr.heap.size) (YJ), .val (.int .i64 0), .any][ix]?).getD (.any)) 30 12 11 16 27 rfl (by kernel_rfl) (by decide) (by decide) (by decide) _ rfl rfl rfl (by decide) (fun a u x w h => run_extract1 _ rfl h) (by decide) ?_ ?_
      · refine ⟨?_, ?_, ?_, ?_, ?_, ?_, ?_, ?_, ?_, ?_, ?_, ?_, trivial⟩
        · intro a W hb0 hs hp hi; have hb := undrew hb0; clear hb0
          have tt : sl a 5 = .pointer (some ⟨w3.heap.size, 0, none⟩) := hi 5 (by decide)
          have dd0 := (hb.cell (p := ⟨w3.heap.size, 0, none⟩) (lt_of_cell y0)).trans y0
          have dd1 := (hb.cell (p := ⟨w3.heap.size, 1, none⟩) (lt_of_cell y1)).trans y1
          refine ite_y rfl (wp_val (.agg #[.slice q1 m1 g1, .slice q2 m2 g2]) ?_ ?_)
          · simp only [execOp, eval_tmp, tt]; simp [go_sem, dd0, dd1]
          · exact ⟨_, rfl, Below.refl _ _, rfl⟩
        · intro a W hb0 hs hp hi; have hb := undrew hb0; clear hb0
          have t5 : sl a 5 = .pointer (some ⟨w3.heap.size, 0, none⟩) := hi 5 (by decide)
          refine ite_y rfl (wp_val (.pointer (some ⟨w3.heap.size, 0, none⟩)) ?_ ?_)
          · simp only [execOp, eval_tmp, eval_const, t5]; simp [go_sem]
          · exact ⟨_, rfl, Below.refl _ _, rfl⟩
        · intro a W hb0 hs hp hi; have hb := undrew hb0; clear hb0
          have tt : sl a 18 = .pointer (some ⟨w3.heap.size, 0, none⟩) := hp 1 (by decide)
          have dd0 := (hb.cell (p := ⟨w3.heap.size, 0, none⟩) (lt_of_cell y0)).trans y0
          refine ite_y rfl (wp_val (.slice q1 m1 g1) ?_ ?_)
          · simp only [execOp, eval_tmp, tt]; simp [go_sem, dd0]
          · exact ⟨_, rfl, Below.refl _ _, rfl⟩
        · intro a W hb0 hs hp hi; have hb := undrew hb0; clear hb0
          have t7 : sl a 7 = .pointer (some ⟨wr.heap.size, 0, none⟩) := hi 7 (by decide)
          refine ite_y rfl (wp_val (.pointer (some ⟨wr.heap.size, 0, none⟩)) ?_ ?_)
          · simp only [execOp, eval_tmp, eval_const, t7]; simp [go_sem]
          · exact ⟨_, rfl, Below.refl _ _, rfl⟩
        · intro a W hb0 hs hp hi; have hb := undrew hb0; clear hb0
          have tt : sl a 20 = .pointer (some ⟨wr.heap.size, 0, none⟩) := hp 3 (by decide)
          have dd0 := (hb.cell (p := ⟨wr.heap.size, 0, none⟩) (lt_of_cell z0)).trans z0
          refine ite_y rfl (wp_val (.slice a1 b1 d1) ?_ ?_)
          · simp only [execOp, eval_tmp, tt]; simp [go_sem, dd0]
          · exact ⟨_, rfl, Below.refl _ _, rfl⟩
        · intro a W hb0 hs hp hi; have hb := undrew hb0; clear hb0
          have t21 : sl a 21 = .slice a1 b1 d1 := hp 4 (by decide)
          refine ite_y rfl (wp_enter 69 #[.slice a1 b1 d1] ?_ (HLD.out _ (T1.out.keep (AL.out.trans (hb.mono AL.out.size)))) ?_)
          · simp only [execOp, resolve, List.map_toArray, List.map, eval_tmp, eval_func, eval_const, t21]; simp [go_sem]
          · rintro e W' ⟨rfl, rfl⟩; exact ⟨_, rfl, _, rfl, Below.refl _ _, rfl⟩
        · intro a W hb0 hs hp hi; have hb := undrew hb0; clear hb0
          have t19 : sl a 19 = .slice q1 m1 g1 := hp 2 (by decide)
          have t22 : sl a 22 = .int .i64 LJ := hp 5 (by decide)
          refine ite_y rfl (wp_enter 68 #[.slice q1 m1 g1, .int .i64 LJ] ?_ (HAT.out _ (hS1.out.keep (AL.out.trans (hb.mono AL.out.size)))) ?_)
          · simp only [execOp, resolve, List.map_toArray, List.map, eval_tmp, eval_func, eval_const, t19, t22]; simp [go_sem]
          · rintro e W' ⟨rfl, rfl⟩; exact ⟨_, rfl, _, rfl, Below.refl _ _, rfl⟩
        · intro a W hb0 hs hp hi; have hb := undrew hb0; clear hb0
          have tt : sl a 7 = .pointer (some ⟨wr.heap.size, 0, none⟩) := hi 7 (by decide)
          have dd0 := (hb.cell (p := ⟨wr.heap.size, 0, none⟩) (lt_of_cell z0)).trans z0
          have dd1 := (hb.cell (p := ⟨wr.heap.size, 1, none⟩) (lt_of_cell z1)).trans z1
          refine ite_y rfl (wp_val (.agg #[.slice a1 b1 d1, .slice a2 b2 d2]) ?_ ?_)
          · simp only [execOp, eval_tmp, tt]; simp [go_sem, dd0, dd1]
          · exact ⟨_, rfl, Below.refl _ _, rfl⟩
        · intro a W hb0 hs hp hi; have hb := undrew hb0; clear hb0
          have t17 : sl a 17 = .agg #[.slice q1 m1 g1, .slice q2 m2 g2] := hp 0 (by decide)
          have t23 : sl a 23 = B8 CJ := hp 6 (by decide)
          have t24 : sl a 24 = .agg #[.slice a1 b1 d1, .slice a2 b2 d2] := hp 7 (by decide)
          refine ite_y rfl (wp_enter 67 #[.agg #[.slice q1 m1 g1, .slice q2 m2 g2], B8 CJ, .agg #[.slice a1 b1 d1, .slice a2 b2 d2]] ?_ (HLS.out _ (hS1.out.keep (AL.out.trans (hb.mono AL.out.size))) (hS2.out.keep (AL.out.trans (hb.mono AL.out.size))) (T1.out.keep (AL.out.trans (hb.mono AL.out.size))) (T2.out.keep (AL.out.trans (hb.mono AL.out.size)))) ?_)
          · simp only [execOp, resolve, List.map_toArray, List.map, eval_tmp, eval_func, eval_const, t17, t23, t24]; simp [go_sem]
          · rintro e W' ⟨q5, m5, g5, q6, m6, g6, e5, e6, rfl, o5, o6, hw⟩; have hbs := hb.size; simp at hbs; exact ⟨_, rfl, _, rfl, hw, _, rfl, q5, m5, g5, q6, m6, g6, rfl, Sl.of_owns o5, Sl.of_owns o6, fun a ha => Nat.le_trans (by omega) (owns_new o5 a ha).1, fun a ha => Nat.le_trans (by omega) (owns_new o6 a ha).1⟩
        · intro a W hb0 hs hp hi; have hb := undrew hb0; clear hb0
          have tt : RowTN (wr.heap.size) (YJ) (0) (sl a 25) W := hp 8 (by decide)
          exact ite_y rfl (wp_val (sl a 25) rfl ⟨_, rfl, Below.refl _ _, tt⟩)
        · intro a W hb0 hs hp hi; have hb := undrew hb0; clear hb0
          have tt : RowTN (wr.heap.size) (YJ) (0) (sl a 16) W := hp 9 (by decide)
          obtain ⟨u, tt, hr⟩ := tt
          exact ite_y rfl (wp_val u (by simp only [execOp, eval_tmp, tt]; rfl) ⟨_, rfl, Below.refl _ _, hr⟩)
        · intro a W hb0 hs hp hi; have hb := undrew hb0; clear hb0
          have tt : RowTN (wr.heap.size) (YJ) (0) (sl a 16) W := hp 9 (by decide)
          obtain ⟨u, tt, hr⟩ := tt
          exact ite_y rfl (wp_val (.int .i64 0) (by simp only [execOp, eval_tmp, tt]; rfl) ⟨_, rfl, Below.refl _ _, rfl⟩)
      · intro a w9 o ho hb hs hd hI ht
        simp at ho; subst ho
        have t5 : sl a 5 = .pointer (some ⟨w3.heap.size, 0, none⟩) := ht 5 (by decide)
        have t16 : RowTN (wr.heap.size) (YJ) (0) (sl a 16) w9 := hI 9 (by decide) (by decide)
        have t26 : RowN (wr.heap.size) (YJ) (sl a 26) w9 := hI 10 (by decide) (by decide)
        obtain ⟨uu, t16, -⟩ := t16
        obtain ⟨q5, m5, g5, q6, m6, g6, t26, s5, s6, s7, s8⟩ := t26
        have b9 : Below wr.heap.size wr w9 := AL.out.trans (hb.mono AL.out.size)
        have L9 : w9.heap[w3.heap.size]? = some (.cells #[.slice q1 m1 g1, .slice q2 m2 g2] 47 (0, 0)) := (b9.block _ (blk_lt hL.out)).trans hL.out
        obtain ⟨d0, d1⟩ := cells2 L9
        have f0 : w9.frozen? ⟨w3.heap.size, 0, none⟩ = false := frozen_of_row _ _ 0 _ _ L9
        have f1 : w9.frozen? ⟨w3.heap.size, 1, none⟩ = false := frozen_of_row _ _ 1 _ _ L9
        refine ⟨⟨_, _, t16⟩, wp_skipX (w' := (w9.setCell ⟨w3.heap.size, 0, none⟩ (.slice q5 m5 g5)).setCell ⟨w3.heap.size, 1, none⟩ (.slice q6 m6 g6)) ?_ ⟨rfl, fun b hbs hbd hbt => ?_⟩⟩
        · simp only [execOp, eval_tmp, t26, t5]; simp [go_sem, d0, d1, f0, f1]
        have ha := act_is [17, 18, 19, 20, 21, 22, 23, 24, 25, 16, 26, 27] hbs hbd (fun t h => (hbt t (fun e => by subst e; revert h; decide)).trans (ht t h)) (by decide)
        simp only [List.foldl] at ha
        generalize sl b 17 = u17 at ha
        generalize sl b 18 = u18 at ha
        generalize sl b 19 = u19 at ha
        generalize sl b 20 = u20 at ha
        generalize sl b 21 = u21 at ha
        generalize sl b 22 = u22 at ha
        generalize sl b 23 = u23 at ha
        generalize sl b 24 = u24 at ha
        generalize sl b 25 = u25 at ha
        generalize sl b 16 = u16 at ha
        generalize sl b 26 = u26 at ha
        generalize sl b 27 = u27 at ha
        simp only [Act.put, List.setIfInBounds_toArray, List.set_cons_zero, List.set_cons_succ] at ha
        rw [ha]; clear ha
        have NX := hNX.out w9 q5 m5 g5 q6 m6 g6 b9 s5 s6 s7 s8
        generalize (w9.setCell ⟨w3.heap.size, 0, none⟩ (.slice q5 m5 g5)).setCell ⟨w3.heap.size, 1, none⟩ (.slice q6 m6 g6) = wn at NX ⊢
        have NXH := Lib.hid NX
        clear NX s5 s6 s7 s8 hI ht hbt L9 d0 d1 f0 f1 b9 hb
        go_wp2
        go_roundw
        case rel => exact ⟨j + 1, q5, m5, g5, q6, m6, g6, by omega, by go_num, NXH.out.1, NXH.out.2.1, NXH.out.2.2.1, NXH.out.2.2.2.1, NXH.out.2.2.2.2.1, NXH.out.2.2.2.2.2⟩
        case measure => simp [intOf]; omega
    · obtain rfl : j = nk := by omega
      have htk : K.take j = K := List.take_of_length_le (by rw [HKL.out]; exact Nat.le_refl _)
      rw [htk] at hS1 hS2
      have hx : Fit n 0 ((v, []) : Rw) := ⟨HVL.out, rfl⟩
      have fitX : Fit n 0 (restF K (v, [])) := hx.rest (fun a ha => HF.out a ha)
      obtain rfl : n = m1 := by have := hS1.out.len; rw [fitX.1] at this; exact this
      obtain rfl : 0 = m2 := by have := hS2.out.len; rw [fitX.2] at this; exact this
      obtain ⟨y0, y1⟩ := cells2 hL.out
      have z0 := frozen_of_row _ _ 0 _ _ hX.out
      have z1 := frozen_of_row _ _ 1 _ _ hX.out
      obtain ⟨x0, x1⟩ := cells2 hX.out
      have G1 : Hid (∀ u0 u1, Sl B8 ((wr.setCell ⟨w.heap.size, 0, none⟩ u0).setCell ⟨w.heap.size, 1, none⟩ u1) q1 n g1 (restF K (v, [])).1) := fun u0 u1 => by
        have ne : ∀ a, q1 = some a → a.block ≠ w.heap.size := fun a ha e => by have := hNB.out.1 a ha; omega
        exact (hS1.out.set ne).set ne
      have G2 : Hid (∀ u0 u1, Sl B8 ((wr.setCell ⟨w.heap.size, 0, none⟩ u0).setCell ⟨w.heap.size, 1, none⟩ u1) q2 0 g2 (restF K (v, [])).2) := fun u0 u1 => by
        have ne : ∀ a, q2 = some a → a.block ≠ w.heap.size := fun a ha e => by have := hNB.out.2 a ha; omega
        exact (hS2.out.set ne).set ne
      have BF := Lib.hid hBw.out
      have XF := Lib.hid hX.out
      clear hL hS1 hS2 hNB hBw hX fitX hx htk
      go_wp2
      exact bodyPost_ret (results_cell_row rfl _ _ _ 47 #[.slice q1 n g1, .slice q2 0 g2] (0, 0) _ rfl (hss (hss XF.out)) Tryz.underlying47 rfl hinfo) rfl ⟨_, _, _, _, rfl, G1.out _ _, G2.out _ _, (BF.out.setCell (Nat.le_refl _) _).setCell (Nat.le_refl _) _⟩
end Go.Proofs.YtcfdopiponlboaaGreatDoor
namespace Go.By
open Go.RowKit
/-- a slice value that owns a row of byte slices, which read in an older world -/
def OwnH (T2 : TypeId) (w0 w : World) (base : Nat) (v : Value) (n : Nat) (xss : List (List UInt8)) : Prop :=
  ∃ vs : List Value, w.ownsRow base T2 1 v n vs ∧ xss.length = n ∧ ∀ (j : Nat) (val : Value), vs[j]? = some val → ∃ xs q c', xss[j]? = some xs ∧ val = Value.slice q xs.length c' ∧ Sl B8 w0 q xs.length c' xs
theorem OwnH.nil (T2 : TypeId) (w0 w : World) (base : Nat) : OwnH T2 w0 w base (.slice none 0 0) 0 [] := ⟨[], World.ownsRow_nil _ _ _ _, rfl, fun j val h => by simp at h⟩
theorem OwnH.sl2 {T2 : TypeId} {w0 w : World} {base n c : Nat} {p : Option Addr} {xss : List (List UInt8)} (h : OwnH T2 w0 w base (.slice p n c) n xss) (hb : Below w0.heap.size w0 w) : Sl2 w p n c xss := by
  obtain ⟨vs, h1, h2, h3⟩ := h
  have hs : Sl id w p n c vs := Sl.of_owns (by rw [List.map_id]; exact h1)
  refine ⟨h2, hs.le, hs.max, hs.nil, ?_⟩
  intro i xs hi
  have hlt : i < vs.length := by
    have := (List.getElem?_eq_some_iff.1 hi).1
    rw [hs.len]; omega
  obtain ⟨b, o, hp, hc⟩ := hs.rs i hlt
  obtain ⟨xs', q, c', a1, a2, a3⟩ := h3 i _ (List.getElem?_eq_getElem hlt)
  have e := hi.symm.trans a1
  cases e
  exact ⟨b, o, q, c', hp, by rw [hc, id, a2], a3.keep hb⟩
theorem OwnH.push {T2 : TypeId} {w0 w' : World} {base n : Nat} {vs : List Value} {v' : Value} {q : Option Addr} {m c : Nat} {xs : List UInt8} {xss : List (List UInt8)} (hvl : vs.length = n) (h2 : xss.length = n)
    (h3 : ∀ (j : Nat) (val : Value), vs[j]? = some val → ∃ xs q c', xss[j]? = some xs ∧ val = Value.slice q xs.length c' ∧ Sl B8 w0 q xs.length c' xs)
    (hr : Sl B8 w0 q m c xs) (ho : w'.ownsRow base T2 1 v' (n + 1) (vs ++ [.slice q m c])) : OwnH T2 w0 w' base v' (n + 1) (xss ++ [xs]) := by
  have hml : m = xs.length := hr.len.symm
  refine ⟨_, ho, by simp [h2], ?_⟩
  intro j val hj
  by_cases hjn : j < n
  · rw [List.getElem?_append_left (by omega)] at hj
    obtain ⟨ys, q', c', a, b, d⟩ := h3 j val hj
    exact ⟨ys, q', c', by rw [List.getElem?_append_left (by omega)]; exact a, b, d⟩
  · rw [List.getElem?_append_right (by omega)] at hj
    have hj0 : j = n := by
      have := (List.getElem?_eq_some_iff.1 hj).1
      simp at this; omega
    subst hj0
    rw [hvl] at hj
    simp at hj
    subst hj
    exact ⟨xs, q, c, by rw [List.getElem?_append_right (by omega), h2]; simp, by rw [hml], by rw [← hml]; exact hr⟩
theorem alOne (w : World) (o : Obj) : Below w.heap.size w (w.alloc o) := al (Below.refl _ _) (Nat.le_refl _)
end Go.By
namespace Go.Proofs.YtcfdopiponlboaaGreatDoor
open Go.RowKit Go.By
theorem vecsL_take {D : List Rw} {j : Nat} {x : Rw} (h : D[j]? = some x) : vecsL (D.take (j + 1)) = vecsL (D.take j) ++ [x.1] := by
  unfold vecsL; rw [List.take_add_one, h, List.map_append]; rfl
end Go.Proofs.YtcfdopiponlboaaGreatDoor
namespace Go.By
open Go
section
variable {P : Program} (w : World)
theorem run_append_old (base : Nat) (t ty e : TypeId) (i : TypeInfo) (z : Value) (size bytes : Nat) (ht : P.underlying t = some (.slice e)) (hi : P.info? e = some i) (hz : i.zero = some z)
    (hsize : i.size = size) (hby : i.bytes = bytes) (hzs : z.cells.size = size) (hsz : 0 < size)
    (v : Value) (n : Nat) (xs : List Value) (hown : w.ownsRow base e size v n xs)
    (a : Addr) (m c : Nat) (news : List Value) (hl : news.length = m * size) (hnews : ∀ j u, news[j]? = some u → w.cell? (a.add j) = some u) (h1 : ∀ u ∈ news, u.oneCell' = true)
    (h63 : n + m ≤ maxLen) (hbytes : (n + m) * bytes ≤ 140737488355328) (hbase : base ≤ w.heap.size) :
    ∃ v' w', (Builtin.append_ #[t, t] ty #[v, .slice (some a) m c]).run P w = .ok v' w' ∧ w'.ownsRow base e size v' (n + m) (xs ++ news) ∧ w.grownBy w' v.ownBlock ∧ w'.ownsRow base e size v n xs := by
  obtain ⟨v', w', hr, h2, h3, -⟩ := run_append_own w base t ty e i z size bytes ht hi hz hsize hby hzs hsz v n xs hown a m c news hl hnews h1 h63 hbytes hbase
  refine ⟨v', w', hr, h2, h3, ?_⟩
  subst hsize
  subst hby
  rcases hown.2 with ⟨rfl, rfl⟩ | ⟨g, cap, cur, rfl, hbg, hg, hnc, hcm, hcs, htake⟩
  · have hx : xs = [] := List.eq_nil_of_length_eq_zero (by simpa using hown.1)
    subst hx
    exact World.ownsRow_nil _ _ _ _
  · have hgl : g < w.heap.size := by
      rcases Nat.lt_or_ge g w.heap.size with h | h
      · exact h
      · rw [Array.getElem?_eq_none h] at hg; cases hg
    by_cases hroom : n + m ≤ cap
    · have hfit : n * i.size + news.length ≤ cur.size := by rw [hl, hcs, ← Nat.add_mul]; exact Nat.mul_le_mul_right _ hroom
      have hr2 := run_append_room (P := P) w t ty e i ht hi g n cap cur hg a m c news hl hnews h1 hroom hfit
      have e2 := hr.symm.trans hr2
      cases e2
      refine ⟨hown.1, .inr ⟨g, cap, _, rfl, hbg, setRow_heap w g cur _ e _ hg, hnc, hcm, ?_, ?_⟩⟩
      · simp only [List.size_toArray, List.length_append, List.length_take, List.length_drop, Array.length_toList]
        omega
      · rw [List.append_assoc, List.take_append_of_le_length (by rw [List.length_take, Array.length_toList]; omega), List.take_take, Nat.min_self]
        exact htake
    · have holds : ∀ j u, xs[j]? = some u → w.cell? ((⟨g, 0, none⟩ : Addr).add j) = some u := hown.cells (g := g) rfl
      have hm' : n + m ≤ 9223372036854775807 := by simp only [maxLen] at h63; omega
      have hr2 := run_append_grow (P := P) w t ty e i z ht hi hz ⟨g, 0, none⟩ n cap xs hown.1 holds a m c news hl hnews (by omega) (by omega) (growslice_fits (by omega) hbytes)
      have e2 := hr.symm.trans hr2
      cases e2
      exact ⟨hown.1, .inr ⟨g, cap, cur, rfl, hbg, (heap_alloc_old w.drew _ hgl).trans hg, hnc, hcm, hcs, htake⟩⟩
theorem wpList_append_old {ops : Array Oper} {rest : List Oper} {o : Oper} {a : Act} {Q : Exit → Act → World → Prop} (hgd : o.guard = none) (s x : Operand) (t : TypeId)
    (ho : o.op = .call { callee := .builtin .append, args := #[s, x], argTypes := #[t, t] })
    (base : Nat) (e : TypeId) (i : TypeInfo) (z : Value) (size bytes : Nat) (ht : P.underlying t = some (.slice e)) (hi : P.info? e = some i) (hz : i.zero = some z)
    (hsize : i.size = size) (hby : i.bytes = bytes) (hzs : z.cells.size = size) (hsz : 0 < size)
    (v : Value) (n : Nat) (xs : List Value) (hs : a.eval s = v) (hown : w.ownsRow base e size v n xs)
    (ad : Addr) (m c : Nat) (news : List Value) (hx : a.eval x = .slice (some ad) m c) (hl : news.length = m * size) (hnews : ∀ j u, news[j]? = some u → w.cell? (ad.add j) = some u) (h1 : ∀ u ∈ news, u.oneCell' = true)
    (h63 : n + m ≤ maxLen) (hbytes : (n + m) * bytes ≤ 140737488355328) (hbase : base ≤ w.heap.size)
    (h : ∀ v' w', w'.ownsRow base e size v' (n + m) (xs ++ news) → w.grownBy w' v.ownBlock → w'.ownsRow base e size v n xs → wpList P ops Q rest (a.put o.dst v') w') : wpList P ops Q (o :: rest) a w := by
  refine wpList_plain hgd fun _ hK => ?_
  obtain ⟨v', w', hr, h2, h3, h4⟩ := run_append_old (P := P) w base t o.type e i z size bytes ht hi hz hsize hby hzs hsz v n xs hown ad m c news hl hnews h1 h63 hbytes hbase
  unfold Oper.wp execOp
  simp only [ho, resolve, invoke, builtin, Sem.run_bind, Sem.run_pure, Result.andThen_ok, List.map_toArray, List.map_cons, List.map_nil, hs, hx, hr]
  exact hK _ _ (h v' w' h2 h3 h4)
end
end Go.By
namespace Go.Proofs.YtcfdopiponlboaaGreatDoor
open Go.RowKit Go.By
/-- the vectors of that length -/
def likeL (n : Nat) (D : List Rw) : List (List UInt8) := (vecsL D).filter (fun x => decide (x.length = n))
theorem likeL_yes {n : Nat} {D : List Rw} {j : Nat} {x : Rw} (h : D[j]? = some x) (e : x.1.length = n) : likeL n (D.take (j + 1)) = likeL n (D.take j) ++ [x.1] := by
  unfold likeL; rw [vecsL_take h, List.filter_append, List.filter_cons_of_pos (by simpa using e)]; rfl
theorem likeL_no {n : Nat} {D : List Rw} {j : Nat} {x : Rw} (h : D[j]? = some x) (e : ¬ x.1.length = n) : likeL n (D.take (j + 1)) = likeL n (D.take j) := by
  unfold likeL; rw [vecsL_take h, List.filter_append, List.filter_cons_of_neg (by simpa using e), List.filter_nil, List.append_nil]
theorem likeL_len {n : Nat} {D : List Rw} : ∀ x, x ∈ likeL n D → x.length = n := fun x hx => by
  unfold likeL at hx; simpa using (List.mem_filter.1 hx).2
/-- the rows kept as they came -/
def kAr (rows : List (List UInt8)) : List Rw := rows.foldl (fun K r => keepF K (r, [])) []
theorem kAr_snoc (rows : List (List UInt8)) (r : List UInt8) : kAr (rows ++ [r]) = keepF (kAr rows) (r, []) := by unfold kAr; rw [List.foldl_append]; rfl
theorem kAr_take {rows : List (List UInt8)} {k : Nat} {r : List UInt8} (h : rows[k]? = some r) : kAr (rows.take (k + 1)) = keepF (kAr (rows.take k)) (r, []) := by
  have e : rows.take (k + 1) = rows.take k ++ [r] := by rw [List.take_add_one, h]; rfl
  rw [e, kAr_snoc]
theorem keepF_len9 (K : List Rw) (x : Rw) : (keepF K x).length ≤ K.length + 1 := by unfold keepF; split <;> simp
theorem kAr_kept {n : Nat} {rows : List (List UInt8)} (h : ∀ r, r ∈ rows → r.length = n) : ∀ k, Kept n 0 (kAr (rows.take k))
  | 0 => by simpa [kAr] using Kept.nil n 0
  | k + 1 => by
    by_cases hk : k < rows.length
    · rw [kAr_take (List.getElem?_eq_getElem hk)]
      exact (kAr_kept h k).step ⟨h _ (List.getElem_mem hk), rfl⟩
    · have e : rows.take (k + 1) = rows.take k := by rw [List.take_of_length_le (by omega), List.take_of_length_le (by omega)]
      rw [e]; exact kAr_kept h k
theorem kAr_len {n : Nat} {rows : List (List UInt8)} (h : ∀ r, r ∈ rows → r.length = n) : (kAr rows).length = (iK rows).length := rank_same rows h
theorem zeroS_lead (v : List UInt8) : zeroS v = decide (leadS v < 0) := by
  rcases leadS_cases v with ⟨h1, _, h3⟩ | ⟨l, x, e, h1, h2, _⟩
  · rw [h1]; unfold zeroS; rw [List.all_eq_true.2 (fun x hx => decide_eq_true (h3 x hx))]; rfl
  · rw [e]
    have : zeroS v = false := by unfold zeroS; rw [List.all_eq_false]; exact ⟨x, List.mem_of_getElem? h1, by simpa using h2⟩
    rw [this]; exact (decide_eq_false (by omega)).symm
/-- nothing is left just where the rank stays -/
theorem span_rank {n : Nat} {rows : List (List UInt8)} {v : List UInt8} (h : ∀ r, r ∈ rows → r.length = n) (hv : v.length = n) : zeroS (restF (kAr rows) (v, [])).1 = decide ((iK rows).length = (iK (rows ++ [v])).length) := by
  have h2 : ∀ r, r ∈ rows ++ [v] → r.length = n := fun r hr => by
    rcases List.mem_append.1 hr with h1 | h1
    · exact h r h1
    · rw [List.mem_singleton] at h1; rw [h1]; exact hv
  rw [zeroS_lead, ← kAr_len h, ← kAr_len h2, kAr_snoc]
  unfold keepF
  by_cases hl : leadS (restF (kAr rows) (v, [])).1 < 0
  · rw [if_pos hl, decide_eq_true hl, decide_eq_true rfl]
  · rw [if_neg hl, decide_eq_false hl, decide_eq_false (by rw [List.length_append]; simp)]
set_option maxRecDepth 100000 in
set_option maxHeartbeats 8000000 in
theorem Span_any (p q : Option Addr) (n c m d : Nat) (v : List UInt8) (D : List Rw) (w : World) (hv : Sl B8 w p n c v) (h : RwS w q m d D) (hn : n ≤ 20) (hm : m ≤ 30) :
    Calls Tryz.prog 24 #[.slice p n c, .slice q m d] w fun e w' => e = .returned (.bool (decide ((iK (likeL n D)).length = (iK (likeL n D ++ [v])).length))) ∧ Below w.heap.size w w' := by
  obtain ⟨r0, hr0, hrz, hr1, hr2⟩ := info_parts info_rows
  obtain ⟨s0, ks0, ksz, ks1, ks2⟩ := info_parts info_vrow
  have H := Lib.hid h; have HLEN := Lib.hid h.len; have HV := Lib.hid hv; have HVL := Lib.hid hv.len
  obtain ⟨R, hRd⟩ : ∃ R : Bool, R = zeroS (restF (kAr (likeL n D)) (v, [])).1 := ⟨_, rfl⟩
  have hRR := span_rank (rows := likeL n D) (v := v) likeL_len hv.len
  rw [← hRR, ← hRd]
  have HRD := Lib.hid hRd
  clear h hv hRR hRd
  go_enter Tryz.func24, Tryz.ntmps24
  go_wp2
  go_loopw [5, 16] (fun o i wr => ∃ (k j : Nat) (qo : Option Addr) (co : Nat), k ≤ m ∧ j ≤ k ∧ i = .int .i64 k ∧ o = .slice qo j co ∧ Hid (OwnH 36 w wr w.heap.size (.slice qo j co) j (likeL n (D.take k))) ∧ Hid (Below w.heap.size w wr)) (fun _ i _ => m - (intOf i).toNat)
  case atStart => exact ⟨0, 0, none, 0, Nat.zero_le _, Nat.zero_le _, rfl, rfl, by show OwnH _ _ _ _ _ _ (likeL n (D.take 0)); rw [List.take_zero]; exact OwnH.nil _ _ _ _, Below.refl _ _⟩
  case round =>
    obtain ⟨k, j, qo, co, hk, hjk, rfl, rfl, hO, hB⟩ := hrel
    by_cases hlt : k < m
    · have kn : (k : Int) < (m : Int) := by omega
      obtain ⟨x, hx⟩ : ∃ x, D[k]? = some x := ⟨_, List.getElem?_eq_getElem (by rw [HLEN.out]; exact hlt)⟩
      obtain ⟨b, o, q1, m1, c1, q2, m2, c2, rfl, d1, d2, s1, s2⟩ := H.out.row k x hx
      have D1 := (hB.out.cell (p := ⟨b, o + k * 2, none⟩) (lt_of_cell d1)).trans d1
      have D2 := (hB.out.cell (p := ⟨b, o + k * 2 + 1, none⟩) (lt_of_cell d2)).trans d2
      have S1 := Lib.hid s1
      have HX := Lib.hid hx
      have hsz := hB.out.size
      have hl1 := s1.len
      by_cases hmn : m1 = n
      · have hmb : ((m1 : Int) == (n : Int)) = true := by simp; omega
        have hmn' : (m1 : Int) = (n : Int) := by omega
        have HSTEP : Hid (likeL n (D.take (k + 1)) = likeL n (D.take k) ++ [x.1]) := likeL_yes hx (by omega)
        obtain ⟨vs, oA, lA, rA⟩ := hO.out
        have OA := Lib.hid oA; have LA := Lib.hid lA; have RA := Lib.hid rA
        have hvl : Hid (vs.length = j) := by show _ = _; have := oA.1; simpa using this
        have hO2 : Hid (∀ o1 o2, ((wr.alloc o1).alloc o2).ownsRow w.heap.size 36 1 (.slice qo j co) j vs) := fun o1 o2 => owns_keep OA.out (bl (al (Below.refl _ _) (Nat.le_refl _)) (al (Below.refl _ _) (Nat.le_refl _)) (by simp))
        clear d1 d2 s1 s2 hx oA lA rA hO hmn hl1
        obtain rfl : m1 = n := by omega
        clear hmn'
        go_wp2_with (at_builtin; refine wpList_append_own _ rfl _ _ 25 rfl w.heap.size 36 r0 (.slice none 0 0) 1 24 Tryz.underlying25 hr0 hrz hr1 hr2 rfl (by omega) _ j _ rfl (hO2.out _ _) ⟨wr.heap.size + 1, 0, none⟩ 1 1 [.slice q1 m1 c1] rfl rfl (one_cell' (by simp)) ?d2 ?d3 ?d4 ?d5 ?_)
        case d2 => intro y hy; simp at hy; subst hy; rfl
        case d3 => unfold maxLen; omega
        case d4 => omega
        case d5 => simp; omega
        intro v6 w6 ho6 hg6 _
        obtain ⟨q6, c6, rfl⟩ := owns_shape ho6
        have P6 : Hid (OwnH 36 w w6 w.heap.size (.slice q6 (j + 1) c6) (j + 1) (likeL m1 (D.take (k + 1))) ∧ Below w.heap.size w w6) := by
          refine ⟨?_, (al (al hB.out hsz) (by simp; omega)).grown hg6 (by simp; omega) (fun kk hk => (OA.out.lt kk hk).1)⟩
          rw [HSTEP.out]
          exact OwnH.push hvl.out LA.out RA.out S1.out ho6
        clear ho6 hg6 hO2 OA LA RA hvl hsz D1 D2 S1 hB
        go_wp2
        go_roundw
        case rel => exact ⟨k + 1, j + 1, q6, c6, by omega, by omega, by go_num, rfl, P6.out.1, P6.out.2⟩
        case measure => simp [intOf]; omega
      · have hmb : ((m1 : Int) == (n : Int)) = false := by simp; omega
        have HSTEP : Hid (likeL n (D.take (k + 1)) = likeL n (D.take k)) := likeL_no hx (by omega)
        have HO1 : Hid (∀ o1, OwnH 36 w (wr.alloc o1) w.heap.size (.slice qo j co) j (likeL n (D.take (k + 1)))) := fun o1 => by
          rw [HSTEP.out]
          obtain ⟨vs, oA, lA, rA⟩ := hO.out
          exact ⟨vs, owns_keep oA (alOne _ _), lA, rA⟩
        have HB1 : Hid (∀ o1, Below w.heap.size w (wr.alloc o1)) := fun o1 => al hB.out hsz
        clear d1 d2 s1 s2 hx hO hB hl1
        go_wp2
        go_roundw
        case rel => exact ⟨k + 1, j, qo, co, by omega, by omega, by go_num, rfl, HO1.out _, HB1.out _⟩
        case measure => simp [intOf]; omega
    · obtain rfl : k = m := by omega
      have hge : (k : Int) ≤ (k : Int) := Int.le_refl _
      rename World => wN
      obtain ⟨L, hLd⟩ : ∃ L, L = likeL n D := ⟨_, rfl⟩
      have HLL : Hid (∀ x, x ∈ L → x.length = n) := by rw [hLd]; exact likeL_len
      have HTK : Hid (D.take k = D) := List.take_of_length_le (by rw [HLEN.out]; exact Nat.le_refl _)
      rw [HTK.out, ← hLd] at hO
      rw [← hLd] at HRD
      have hsz := hB.out.size
      obtain ⟨vs, oA, lA, rA⟩ := hO.out
      have OA := Lib.hid oA; have LA := Lib.hid lA; have RA := Lib.hid rA
      have hvl : Hid (vs.length = j) := by show _ = _; have := oA.1; simpa using this
      have hO2 : Hid (∀ o1, (wN.alloc o1).ownsRow w.heap.size 36 1 (.slice qo j co) j vs) := fun o1 => owns_keep OA.out (al (Below.refl _ _) (Nat.le_refl _))
      clear oA lA rA hO hLd hlt HTK H HLEN
      go_wp2_with (at_builtin; refine wpList_append_old _ rfl _ _ 25 rfl w.heap.size 36 r0 (.slice none 0 0) 1 24 Tryz.underlying25 hr0 hrz hr1 hr2 rfl (by omega) _ j _ rfl (hO2.out _) ⟨wN.heap.size, 0, none⟩ 1 1 [.slice p n c] rfl rfl (one_cell' rfl) ?d2 ?d3 ?d4 ?d5 ?_)
      case d2 => intro y hy; simp at hy; subst hy; rfl
      case d3 => unfold maxLen; omega
      case d4 => omega
      case d5 => simp; omega
      intro v6 w6 ho6 hg6 hold
      obtain ⟨q6, c6, rfl⟩ := owns_shape ho6
      have B6 : Hid (Below w.heap.size w w6) := (al hB.out hsz).grown hg6 (by simp; omega) (fun kk hk => (OA.out.lt kk hk).1)
      have P6 : Hid (Sl2 w6 q6 (j + 1) c6 (L ++ [v])) := (OwnH.push hvl.out LA.out RA.out HV.out ho6).sl2 B6.out
      have Q6 : Hid (Sl2 w6 qo j co L) := OwnH.sl2 (T2 := 36) (base := w.heap.size) ⟨vs, hold, LA.out, RA.out⟩ B6.out
      clear ho6 hg6 hold hO2 OA LA RA hvl hB
      have HGO : Hid (∀ W, Sl2 W q6 (j + 1) c6 (L ++ [v]) → Calls Tryz.prog 25 #[.int .i64 n, .slice q6 (j + 1) c6] W (RetG2 5 W (j + 1) n (L ++ [v]).flatten 0)) := fun W h =>
        GOf_good n q6 (j + 1) c6 _ W h (by omega) (by omega) (by have : (j + 1) * n ≤ 31 * 20 := Nat.mul_le_mul (by omega) hn; omega) (by
          rw [List.all_eq_true]
          intro y hy
          rcases List.mem_append.1 hy with h1 | h1
          · exact decide_eq_true (HLL.out y h1)
          · rw [List.mem_singleton] at h1; subst h1; exact decide_eq_true HVL.out)
      go_wp2_with fail
      refine Calls.mono (HGO.out w6 P6.out) ?_
      rintro e w7 ⟨q8, n8, c8, -, rfl, -, hb⟩
      have B7 : Hid (Below w.heap.size w w7) := bl B6.out hb B6.out.size
      have Q7 := Lib.hid (Q6.out.keep hb)
      clear hb B6 P6 Q6 HGO
      have B8' : Hid (Below w.heap.size w (w7.alloc (.cells #[.int .i64 ((j : Int) + 1), .int .i64 n, .slice q8 n8 c8] 79))) := al B7.out B7.out.size
      have Q8 : Hid (Sl2 (w7.alloc (.cells #[.int .i64 ((j : Int) + 1), .int .i64 n, .slice q8 n8 c8] 79)) qo j co L) := Q7.out.keep (alOne _ _)
      clear B7 Q7
      go_wp2
      generalize w7.alloc (.cells #[.int .i64 ((j : Int) + 1), .int .i64 n, .slice q8 n8 c8] 79) = w8 at *
      have HKK : Hid (∀ k, Kept n 0 (kAr (L.take k))) := kAr_kept HLL.out
      have HKN : Hid (∀ k, (kAr (L.take k)).length ≤ k) := fun k => by
        induction k with
        | zero => simp [kAr]
        | succ k ih =>
          by_cases hk : k < L.length
          · rw [kAr_take (List.getElem?_eq_getElem hk)]; exact Nat.le_trans (keepF_len9 _ _) (Nat.succ_le_succ ih)
          · have e : L.take (k + 1) = L.take k := by rw [List.take_of_length_le (by omega), List.take_of_length_le (by omega)]
            rw [e]; omega
      have HLj : Hid (L.length = j) := Q8.out.len
      go_loopw [10, 46] (fun kept iv wr => ∃ (i nk : Nat) (qk : Option Addr) (ck : Nat), i ≤ j ∧ nk ≤ i ∧ iv = .int .i64 i ∧ kept = .slice qk nk ck ∧ Hid (RwL 47 5 wr w8.heap.size (.slice qk nk ck) nk (kAr (L.take i))) ∧ Hid (Below w8.heap.size w8 wr)) (fun _ iv _ => j - (intOf iv).toNat)
      case atStart => exact ⟨0, 0, none, 0, Nat.zero_le _, Nat.zero_le _, rfl, rfl, by show RwL _ _ _ _ _ _ (kAr (L.take 0)); rw [List.take_zero]; exact RwL.nil _ _ _ _, Below.refl _ _⟩
      case round =>
        obtain ⟨i, nk, qk, ck, hi, hnk, rfl, rfl, hK, hB⟩ := hrel
        by_cases hij : i < j
        · have ijn : (i : Int) < (j : Int) := by omega
          obtain ⟨b, o, ql, ml, cl, l, rfl, hc, hs, hx⟩ := (Q8.out.keep hB.out).at i hij
          have hll := hs.len
          obtain rfl : n = ml := by rw [HLL.out l (List.mem_of_getElem? hx.out)] at hll; exact hll
          have HS := Lib.hid hs
          have HSU : Hid (kAr (L.take (i + 1)) = keepF (kAr (L.take i)) (l, [])) := kAr_take hx.out
          have HKi := Lib.hid (HKK.out i)
          obtain ⟨K, hKd⟩ : ∃ K, K = kAr (L.take i) := ⟨_, rfl⟩
          rw [← hKd] at HSU hK HKi
          have hsz := hB.out.size
          clear hs hll hKd
          go_wp2_with fail
          refine Calls.mono (left_any ql _ n cl nk ck l K wr HS.out hK.out.rwS (fun r hr => (HKi.out.rows r hr).1) (by unfold Room; omega) (by omega)) ?_
          rintro e wa ⟨q1, g1, q2, g2, rfl, s1, s2, hb⟩
          obtain ⟨LF, hLF⟩ : ∃ LF, LF = restF K (l, []) := ⟨_, rfl⟩
          have fitX : Fit n 0 LF := by rw [hLF]; exact Fit.rest (fun r hr => (HKi.out.rows r hr).1) ⟨HS.out.len, rfl⟩
          rw [← hLF] at s1 s2
          have hsucc : Hid (kAr (L.take (i + 1)) = if leadS LF.1 < 0 then K else K ++ [normS LF]) := by show _ = _; rw [HSU.out, hLF]; rfl
          have S1 := Lib.hid s1; have S2 := Lib.hid s2
          have Ba : Hid (Below w8.heap.size w8 wa) := bl hB.out hb hsz
          have Ka := Lib.hid (hK.out.keep hb)
          have hsza : w8.heap.size ≤ wa.heap.size := Ba.out.size
          have hzero := zeroS_lead LF.1
          clear hc hb s1 s2 hB hK hLF HS HSU fitX hsz
          by_cases hneg : leadS LF.1 < 0
          · rw [decide_eq_true hneg] at hzero
            have HZ : Hid (∀ W, Sl B8 W q1 n g1 LF.1 → Calls Tryz.prog 61 #[.slice q1 n g1] W fun e w' => e = .returned (.bool true) ∧ W = w') := fun W h => by have := VZero_any _ _ _ LF.1 W h; rwa [hzero] at this
            have hs2 : Hid (kAr (L.take (i + 1)) = K) := by show _ = _; rw [hsucc.out, if_pos hneg]
            clear hzero hneg hsucc
            go_wp2_with fail
            refine Calls.mono (HZ.out _ (S1.out.keep (alOne _ _))) ?_
            rintro e w' ⟨rfl, rfl⟩
            have Kb : Hid (RwL 47 5 (wa.alloc (.cells #[.slice q1 n g1, .slice q2 0 g2] 47)) w8.heap.size (.slice qk nk ck) nk (kAr (L.take (i + 1)))) := by rw [hs2.out]; exact Ka.out.keep (alOne _ _)
            have Bb : Hid (Below w8.heap.size w8 (wa.alloc (.cells #[.slice q1 n g1, .slice q2 0 g2] 47))) := al Ba.out hsza
            clear Ka Ba S1 S2 HZ
            go_wp2
            go_roundw
            case rel => exact ⟨i + 1, nk, qk, ck, by omega, by omega, by go_num, rfl, Kb.out, Bb.out⟩
            case measure => simp [intOf]; omega
          · rw [decide_eq_false hneg] at hzero
            have HZ : Hid (∀ W, Sl B8 W q1 n g1 LF.1 → Calls Tryz.prog 61 #[.slice q1 n g1] W fun e w' => e = .returned (.bool false) ∧ W = w') := fun W h => by have := VZero_any _ _ _ LF.1 W h; rwa [hzero] at this
            have hs2 : Hid (kAr (L.take (i + 1)) = K ++ [normS LF]) := by show _ = _; rw [hsucc.out, if_neg hneg]
            clear hzero hneg hsucc
            go_wp2_with fail
            refine Calls.mono (HZ.out _ (S1.out.keep (alOne _ _))) ?_
            rintro e w' ⟨rfl, rfl⟩
            go_wp2_with fail
            refine Calls.mono (Norm_any q1 q2 n g1 0 g2 LF.1 LF.2 _ (S1.out.keep (alOne _ _)) (S2.out.keep (alOne _ _)) (by unfold Room; omega) (by unfold Room; omega)) ?_
            rintro e w5 ⟨q5, m5, g5, q6, m6, g6, l5, l6, rfl, o5, o6, hb5⟩
            have hba : Below wa.heap.size wa w5 := bl (alOne wa _) hb5 (alOne wa _).size
            have B5 : Hid (Below w8.heap.size w8 w5) := bl Ba.out hba hsza
            have K5 := Ka.out.keep hba
            have hs5 : w8.heap.size ≤ w5.heap.size := B5.out.size
            have O1 : Hid (Bw 5 w5 w8.heap.size (.slice q5 m5 g5) (normS LF).1) := ⟨q5, m5, g5, rfl, l5.out, owns_mono o5 (by simp; omega)⟩
            have O2 : Hid (Bw 5 w5 w8.heap.size (.slice q6 m6 g6) (normS LF).2) := ⟨q6, m6, g6, rfl, l6.out, owns_mono o6 (by simp; omega)⟩
            obtain ⟨us, la, lb, lo, lr⟩ := K5
            have BAL : Hid (∀ o, Below w5.heap.size w5 (w5.alloc o)) := fun o => al (Below.refl _ _) (Nat.le_refl _)
            have LO : Hid (∀ o, (w5.alloc o).ownsRow w8.heap.size 47 2 (.slice qk nk ck) nk (fl2 us)) := fun o => owns_keep lo (BAL.out o)
            have LR : Hid (∀ o (j : Nat) (u : Value × Value), us[j]? = some u → ∃ k, K[j]? = some k ∧ Bw 5 (w5.alloc o) w8.heap.size u.1 k.1 ∧ Bw 5 (w5.alloc o) w8.heap.size u.2 k.2) := fun o jj u hj => by
              obtain ⟨kk, g1, g2, g3⟩ := lr jj u hj
              exact ⟨kk, g1, g2.keep (BAL.out o), g3.keep (BAL.out o)⟩
            have LA := Lib.hid la; have LB := Lib.hid lb
            clear lo lr la lb o5 o6 hb5 hba l5 l6 Ka Ba S1 S2 HZ
            go_wp2_with (at_builtin; refine wpList_append_lies _ rfl (.tmp 57) (.tmp 60) 41 rfl w8.heap.size 47 s0 (.agg #[.slice none 0 0, .slice none 0 0]) 2 48 Tryz.underlying41 ks0 ksz ks1 ks2 rfl (by omega) (.slice qk nk ck) nk (fl2 us) rfl (LO.out _) ⟨w5.heap.size, 0, none⟩ 1 1 [.slice q5 m5 g5, .slice q6 m6 g6] rfl rfl (two_cells rfl) (two_ones _ _ _ _ _ _) (by omega) (by unfold maxLen; omega) (by omega) (by simp; omega) _ rfl ?_)
            intro gl cl' w9 ho9 hg9 hat9 hlt9
            have L9 : Hid (RwL 47 5 w9 w8.heap.size (.slice (some ⟨gl, 0, none⟩) (nk + 1) cl') (nk + 1) (kAr (L.take (i + 1)))) := by
              rw [hs2.out]
              exact RwL.push LA.out LB.out (LO.out _) (LR.out _) (by decide) (O1.out.keep (BAL.out _)) (O2.out.keep (BAL.out _)) ho9 hg9
            have B9 : Hid (Below w8.heap.size w8 w9) := (al B5.out hs5).grown hg9 (by simp; omega) (fun kk hk => ((LO.out (.cells #[.slice q5 m5 g5, .slice q6 m6 g6] 47)).lt kk hk).1)
            clear ho9 hg9 hat9 hlt9 O1 O2 LO LR LA LB BAL B5
            go_wp2
            go_roundw
            case rel => exact ⟨i + 1, nk + 1, _, _, by omega, by omega, by go_num, rfl, L9.out, B9.out⟩
            case measure => simp [intOf]; omega
        · obtain rfl : i = j := by omega
          have hge2 : (i : Int) ≤ (i : Int) := Int.le_refl _
          have HKF : Hid (RwL 47 5 wr w8.heap.size (.slice qk nk ck) nk (kAr L)) := by
            have h := hK.out
            rwa [List.take_of_length_le (by rw [HLj.out]; exact Nat.le_refl _)] at h
          have HKi : Hid (Kept n 0 (kAr L)) := by
            have h := HKK.out i
            rwa [List.take_of_length_le (by rw [HLj.out]; exact Nat.le_refl _)] at h
          have Bw8 : Hid (Below w.heap.size w wr) := bl B8'.out hB.out B8'.out.size
          clear hK hB hij
          go_wp2_with fail
          refine Calls.mono (left_any p qk n c nk ck v (kAr L) wr (HV.out.keep Bw8.out) HKF.out.rwS (fun r hr => (HKi.out.rows r hr).1) (by unfold Room; omega) (by omega)) ?_
          rintro e wa ⟨q1, g1, q2, g2, rfl, s1, s2, hb⟩
          have Ba : Hid (Below w.heap.size w wa) := bl Bw8.out hb Bw8.out.size
          have S1 := Lib.hid s1
          have HZ : Hid (∀ W, Sl B8 W q1 n g1 (restF (kAr L) (v, [])).1 → Calls Tryz.prog 61 #[.slice q1 n g1] W fun e w' => e = .returned (.bool R) ∧ W = w') := fun W h => by rw [HRD.out]; exact VZero_any _ _ _ _ W h
          have hfd : ∀ W, (Instr.field 47 (.agg #[.slice q1 n g1, .slice q2 0 g2]) 0).run Tryz.prog W = .ok (.slice q1 n g1) W := fun _ => by kernel_rfl
          clear s1 s2 hb
          go_wp2_with fail
          refine Calls.mono (HZ.out _ S1.out) ?_
          rintro e w' ⟨rfl, rfl⟩
          clear HZ S1
          go_wp2
          go_ret
          exact ⟨rfl, Ba.out⟩
end Go.Proofs.YtcfdopiponlboaaGreatDoor
