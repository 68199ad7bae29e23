/- Chapter 21: what a turn of a sender, a taker, a relay leaves as it is; sender.Explicit. Chapter 19: taker.Status, Rank, Object. Plain laws of GridTells: rows and what they are joined; a unit's bytes. GridTells: the walk, no unit. The walk of the grid's Inverse. Plain laws of GridReckons: rows and their vectors, products, columns, the inverse. The contract of the reference's Mul. GridTells: the walk, no grid, a unit. GridTells: the walk, a grid, a unit. GridTells: the walk, whole. What the laws of grids carry along from call to call. The contract of the reference's without. The contract of the reference's Det. Plain laws of GridRanks: ranks of turned grids and products, determinants, inverses of inverses. Plain law of ElimSolves: equations that symbols solve. Plain law: packets of one object. They never clash; the rows are as many as the rank of the vectors that came; full rows have the object. A sender while others turn; two takers beside each other. Of a plan that may not be there is no gate, no taker, no relay; a plan that may be as numbers. A region that draws its order, by shapes, by what holds of the world as operations run, and by ties between slots. Two slices of headers, each grown by one in a region that draws its order. A plan of an object; ranks of combinations; rows of headers of new bytes while others turn. Chapter 19: the law's awake. A sender and a taker in memory, carried along. The contracts of the document's sum: Put, Sum (bit by bit). Plain law: a packet of which one stretch of four bytes has turned is not let in. What TakerHas, TripRuns, TripArrives carry: rows of bytes that grow; a sender that may refuse. Arguments that came in, as bytes and slices of bytes. Slices of structs of two slices of bytes, that came in. Sources that came in: a slice of structs of a byte, bytes and a number, opened. What the laws of the packets ask first: few bytes, small plans. Chapter 19: TakerHas, of an object that the plan fits. The contracts of slices.Delete and slices.Insert at parcels. The contract of slices.Insert at parcels: one more, where there is room. Lists of parcels that the call owns: each owns its bytes, no two share them. The contracts of the acts: drop, move, forge. The contract of the act move. The contract of the act double. The contract of the act cut. One cell of a parcel is written: its bytes, or where it came from. The contract of the act mask. What acts do to lists of packets; acts that came in, read from memory. -/
import Derived.Test.YtfbmdlfkipipfaaGreatDoorZw6
import Derived.OpenShut
import Derived.Lib.SmallJoins
import Derived.Deep.DeepCutAuto
import Derived.Deep.RegionLaw
import Derived.Lib.Overlaps
import Derived.Shelf.Spec.SlicesInsert
import Derived.Lib.AppendZeros
import Derived.Deep.AppendLies
import Derived.Deep.RegionWith
import Derived.BigQuiet
namespace Go.By
open Go.RowKit Go.Maps Go.Proofs.YtfbmdlfkipipfaaGreatDoor
section
variable {w w' : World} {g : Nat} {old : Array Value} {T' : Nat} {fr : Nat × Nat}
theorem GChg.blk (h : GChg w g w') (hg : w.heap[g]? = some (.cells old T' fr)) {b T : Nat} {cs : Array Value} {fr2 : Nat × Nat} (hb : w.heap[b]? = some (.cells cs T fr2)) (hne : T' ≠ T) : w'.heap[b]? = some (.cells cs T fr2) := by
  refine (h.block b (lt_of_block hb) fun e => ?_).trans hb
  rw [e, hg] at hb; injection hb with hb; injection hb with _ hb _; exact hne hb
theorem GChg.cnt (h : GChg w g w') (hg : w.heap[g]? = some (.cells old T' fr)) {M : Value} {N : Nat} {C : DataW Unit} (hc : CntM w M N C) : CntM w' M N C := by
  refine ⟨?_, hc.small⟩
  rcases hc.at_ with h1 | ⟨b, e, ho⟩
  · exact .inl h1
  · refine .inr ⟨b, e, ?_⟩
    have hlt := ho.lt
    obtain ⟨es, clock, h1, F, hs, hD⟩ := ho
    exact ⟨es, clock, (h.block b hlt (fun e => by rw [e, hg] at h1; cases h1)).trans h1, F, hs, hD⟩
theorem GChg.owns (h : GChg w g w') (hg : w.heap[g]? = some (.cells old T' fr)) {base T e n : Nat} {v : Value} {L : List Value} (ho : w.ownsRow base T e v n L) (hne : T' ≠ T) : w'.ownsRow base T e v n L := by
  refine owns_same ho h.size fun g2 hg2 => ?_
  rcases ho.2 with ⟨e1, _⟩ | ⟨g', cap, cur, e1, _, hh, _⟩
  · rw [e1] at hg2; cases hg2
  · rw [e1] at hg2; cases hg2
    exact (h.blk hg hh hne).trans hh.symm
theorem GChg.elm (h : GChg w g w') (hg : w.heap[g]? = some (.cells old T' fr)) {base be k t n : Nat} {v : Value} {K : List Rw} (hE : Elm w base be k t v n K) (h1 : T' ≠ 201) (h2 : T' ≠ 139) (h3 : T' ≠ 5) : Elm w' base be k t v n K := by
  refine ⟨h.blk hg hE.box h1, ?_, hE.old⟩
  obtain ⟨vs, a, b, o, r⟩ := hE.rows
  refine ⟨vs, a, b, h.owns hg o h2, fun j u hj => ?_⟩
  obtain ⟨x, hk, ⟨q1, m1, c1, e1, l1, o1⟩, ⟨q2, m2, c2, e2, l2, o2⟩⟩ := r j u hj
  exact ⟨x, hk, ⟨q1, m1, c1, e1, l1, h.owns hg o1 h3⟩, ⟨q2, m2, c2, e2, l2, h.owns hg o2 h3⟩⟩
theorem GChg.tkr (h : GChg w g w') (hg : w.heap[g]? = some (.cells old T' fr)) {base gt be L t k D N : Nat} {M v : Value} {C : DataW Unit} {K : List Rw} {st : Nat} (hT : Tkr w base gt be L t k D N M v C K st) (h1 : T' ≠ 201) (h2 : T' ≠ 139) (h3 : T' ≠ 5) (h4 : T' ≠ 126) : Tkr w' base gt be L t k D N M v C K st :=
  ⟨hT.ok, h.blk hg hT.box h4, h.cnt hg hT.cnt, h.elm hg hT.elm h1 h2 h3, hT.red, hT.old⟩
end
theorem TChg.blk {w w' : World} {base gt be L t k D N : Nat} {M v : Value} {C : DataW Unit} {K : List Rw} {st : Nat} (h : TChg w w' gt be v) (hT : Tkr w base gt be L t k D N M v C K st) {b T : Nat} {cs : Array Value} {fr : Nat × Nat} (hb : w.heap[b]? = some (.cells cs T fr)) (h1 : T ≠ 126) (h2 : T ≠ 201) (h3 : 139 ≠ T) : w'.heap[b]? = some (.cells cs T fr) := by
  refine (h.block b (lt_of_block hb) (fun e => ?_) (fun e => ?_) (hT.elm.rows.ne_box hb h3)).trans hb
  · have := hT.box; rw [← e, hb] at this; injection this with this; injection this with _ this _; exact h1 this
  · have := hT.elm.box; rw [← e, hb] at this; injection this with this; injection this with _ this _; exact h2 this
theorem TChg.below {w w' : World} {B base gt be L t k D N : Nat} {M v : Value} {C : DataW Unit} {K : List Rw} {st : Nat} (h : TChg w w' gt be v) (hT : Tkr w base gt be L t k D N M v C K st) (hB : B ≤ base) (hw : B ≤ w.heap.size) : Below B w w' := by
  refine ⟨h.os, h.tape, h.output, h.size, fun i hi => h.block i (by omega) (by have := hT.old; omega) (by have := hT.elm.old; omega) (fun e => ?_)⟩
  have := (hT.elm.rows.lt _ e).1
  omega
end Go.By
namespace Go.Proofs.YtfbmdlfkipipfaaGreatDoor
open Go.RowKit Go.By Go.Maps
theorem Snd.keep {w w' : World} {gs L t k D nx : Nat} {xss : List (List UInt8)} (h : Snd w gs L t k D nx xss) (hb : Below w.heap.size w w') : Snd w' gs L t k D nx xss := by
  obtain ⟨q, c, h1, h2, h3⟩ := h.mem
  exact ⟨h.ok, ⟨q, c, (hb.block _ (lt_of_block h1)).trans h1, h2.keep hb, h3⟩, h.fit⟩
end Go.Proofs.YtfbmdlfkipipfaaGreatDoor
namespace Go.Proofs.YtfbmdlfkipipfaaGreatDoor
open Go.RowKit Go.By Go.Maps
set_option maxRecDepth 100000 in
set_option maxHeartbeats 1000000 in
theorem TStatus_any (base gt be L t k D N : Nat) (M v : Value) (C : DataW Unit) (K : List Rw) (st : Nat) (w : World) (h : Tkr w base gt be L t k D N M v C K st) :
    Calls Tryz.prog 23 #[.pointer (some ⟨gt, 0, none⟩)] w fun e w' => e = .returned (.int .i64 (st : Nat)) ∧ w = w' := by
  obtain ⟨c0, c1, c2, c3, c4, c5, c6⟩ := cells_seven h.box
  clear h
  go_enter Tryz.func23, Tryz.ntmps23
  go_wp2
  go_ret
  exact ⟨rfl, rfl⟩
set_option maxRecDepth 100000 in
set_option maxHeartbeats 1000000 in
theorem TRank_any (base gt be L t k D N : Nat) (M v : Value) (C : DataW Unit) (K : List Rw) (st : Nat) (w : World) (h : Tkr w base gt be L t k D N M v C K st) :
    Calls Tryz.prog 18 #[.pointer (some ⟨gt, 0, none⟩)] w fun e w' => e = .returned (.int .i64 (K.length : Nat)) ∧ w = w' := by
  have HE := Lib.hid (Rank_any' base be k t K.length v K w h.elm)
  obtain ⟨c0, c1, c2, c3, c4, c5, c6⟩ := cells_seven h.box
  clear h
  go_enter Tryz.func18, Tryz.ntmps18
  go_wp2_with fail
  refine Calls.mono HE.out ?_
  rintro e w1 ⟨rfl, rfl⟩
  go_wp2
  go_ret
  exact ⟨rfl, rfl⟩
/-- what Object tells -/
def objC (st : Nat) : Int := if st = 0 then 12 else if st = 2 then 13 else 0
set_option maxRecDepth 100000 in
set_option maxHeartbeats 1000000 in
theorem TObject_none (base gt be L t k D N : Nat) (M v : Value) (C : DataW Unit) (K : List Rw) (st : Nat) (w : World) (h : Tkr w base gt be L t k D N M v C K st) (hs : st = 0 ∨ st = 2) :
    Calls Tryz.prog 35 #[.pointer (some ⟨gt, 0, none⟩)] w fun e w' => e = .returned (.tuple #[.slice none 0 0, .int .i64 (objC st)]) ∧ w = w' := by
  obtain ⟨c0, c1, c2, c3, c4, c5, c6⟩ := cells_seven h.box
  clear h
  rcases hs with rfl | rfl
  · go_enter Tryz.func35, Tryz.ntmps35
    go_wp2
    go_ret2
    exact ⟨rfl, rfl⟩
  · go_enter Tryz.func35, Tryz.ntmps35
    go_wp2
    go_ret2
    exact ⟨rfl, rfl⟩
set_option maxRecDepth 100000 in
set_option maxHeartbeats 2000000 in
theorem TObject_doneT (base gt be L t k D N : Nat) (M v : Value) (C : DataW Unit) (K : List Rw) (w : World) (h : Tkr w base gt be L t k D N M v C K 1) (hK : K.length = k) :
    Calls Tryz.prog 35 #[.pointer (some ⟨gt, 0, none⟩)] w (RetLT 5 w (joinS (L : Int) (t : Int) (k : Int) (K.map (fun x : Rw => x.2))).1 (joinS (L : Int) (t : Int) (k : Int) (K.map (fun x : Rw => x.2))).2) := by
  have hk2 := h.ok.k2
  have ht2 := h.ok.t2
  have hR := h.red
  have hel : Elm w base be k t v k K := by have := h.elm; rw [hK] at this; exact this
  have HE := Lib.hid (ESolve_full base be k t v K w hel (fun r hr => by have := (hR.kept.rows r hr).1.2; show _ ≤ _; omega) hk2)
  have HJ : Hid (∀ q c w, Sl2 w q k c (K.map (fun x : Rw => x.2)) → Calls Tryz.prog 91 #[PVal L t k D, .slice q k c] w (RetLT 5 w (joinS (L : Int) (t : Int) (k : Int) (K.map (fun x : Rw => x.2))).1 (joinS (L : Int) (t : Int) (k : Int) (K.map (fun x : Rw => x.2))).2)) := fun q c w hs => Join_anyT (L : Int) (t : Int) (k : Int) (D : Int) q k c _ w hs h.ok.l
  have kt := h.box
  obtain ⟨c0, c1, c2, c3, c4, c5, c6⟩ := cells_seven kt
  clear h hel hR hK
  generalize joinS (L : Int) (t : Int) (k : Int) (K.map (fun x : Rw => x.2)) = J at *
  go_enter Tryz.func35, Tryz.ntmps35
  go_wp2_with fail
  refine Calls.mono HE.out ?_
  rintro e w1 ⟨q, c, rfl, ho, hb⟩
  have kt1 := (hb.block _ (lt_of_block kt)).trans kt
  have HB := Lib.hid hb
  have HO := Lib.hid (ho.sl2)
  clear hb ho kt c0 c1 c2 c3 c4 c5 c6
  obtain ⟨c0, c1, c2, c3, c4, c5, c6⟩ := cells_seven kt1
  go_wp2_with fail
  refine Calls.mono (HJ.out _ _ _ HO.out) ?_
  rintro e w2 ⟨q2, m2, d2, rfl, hs, hn, hb⟩
  have HN := Lib.hid hn
  have HS := Lib.hid hs
  have HB2 := Lib.hid (bl HB.out hb HB.out.size)
  clear hb hs hn
  go_wp2
  go_ret2
  exact ⟨_, _, _, rfl, HS.out, fun a ha => ⟨Nat.le_trans HB.out.size (HN.out a ha).1, (HN.out a ha).2⟩, HB2.out⟩
theorem TObject_done (base gt be L t k D N : Nat) (M v : Value) (C : DataW Unit) (K : List Rw) (w : World) (h : Tkr w base gt be L t k D N M v C K 1) (hK : K.length = k) :
    Calls Tryz.prog 35 #[.pointer (some ⟨gt, 0, none⟩)] w (RetL w (joinS (L : Int) (t : Int) (k : Int) (K.map (fun x : Rw => x.2))).1 (joinS (L : Int) (t : Int) (k : Int) (K.map (fun x : Rw => x.2))).2) :=
  Calls.mono (TObject_doneT base gt be L t k D N M v C K w h hK) fun _ _ ⟨q, m, c, e, h, _, hb⟩ => ⟨q, m, c, e, h, hb⟩
end Go.Proofs.YtfbmdlfkipipfaaGreatDoor
namespace Go.Proofs.YtfbmdlfkipipfaaGreatDoor
open Go.RowKit Go.By
end Go.Proofs.YtfbmdlfkipipfaaGreatDoor
namespace Go.Proofs.YtfbmdlfkipipfaaGreatDoor
open Go.RowKit Go.By
end Go.Proofs.YtfbmdlfkipipfaaGreatDoor
namespace Go.Proofs.YtfbmdlfkipipfaaGreatDoor
open Go.RowKit Go.By
end Go.Proofs.YtfbmdlfkipipfaaGreatDoor
namespace Go.Proofs.YtfbmdlfkipipfaaGreatDoor
open Go.RowKit Go.By Gf
end Go.Proofs.YtfbmdlfkipipfaaGreatDoor
namespace Go.Proofs.YtfbmdlfkipipfaaGreatDoor
open Go.RowKit Go.By
end Go.Proofs.YtfbmdlfkipipfaaGreatDoor
namespace Go.Proofs.YtfbmdlfkipipfaaGreatDoor
open Go.RowKit Go.By
end Go.Proofs.YtfbmdlfkipipfaaGreatDoor
namespace Go.Proofs.YtfbmdlfkipipfaaGreatDoor
open Go.RowKit Go.By
end Go.Proofs.YtfbmdlfkipipfaaGreatDoor
namespace Go.Proofs.YtfbmdlfkipipfaaGreatDoor
open Go.RowKit Go.By
end Go.Proofs.YtfbmdlfkipipfaaGreatDoor
namespace Go.Proofs.YtfbmdlfkipipfaaGreatDoor
open Go.RowKit Go.By
end Go.Proofs.YtfbmdlfkipipfaaGreatDoor
namespace Go.Proofs.YtfbmdlfkipipfaaGreatDoor
open Go.RowKit Go.By
end Go.Proofs.YtfbmdlfkipipfaaGreatDoor
namespace Go.Proofs.YtfbmdlfkipipfaaGreatDoor
open Go.RowKit Go.By Gf
end Go.Proofs.YtfbmdlfkipipfaaGreatDoor
namespace Go.Proofs.YtfbmdlfkipipfaaGreatDoor
open Go.RowKit Go.By Gf
end Go.Proofs.YtfbmdlfkipipfaaGreatDoor
namespace Go.Proofs.YtfbmdlfkipipfaaGreatDoor
open Go.RowKit Go.By Gf
/-- a row and what the symbols give of it -/
def rowC (n : Nat) (FX : List (List UInt8)) (w : List UInt8) : Rw := (w, mulR n FX w)
end Go.Proofs.YtfbmdlfkipipfaaGreatDoor
namespace Go.By
theorem get8_put8 {s : Nat} (h : s < 18446744073709551616) : get8 (put8 s) = s := by
  simp only [get8, put8, List.range, List.range.loop, List.map, List.foldl, put8At, UInt8.toNat_ofNat']
  simp only [Nat.reduceMul, Nat.reduceSub, Nat.reducePow, Nat.zero_mul, Nat.zero_add]
  omega
end Go.By
namespace Go.Proofs.YtfbmdlfkipipfaaGreatDoor
open Go.RowKit Go.By Gf
theorem comb_mulR {k t : Nat} {FX : List (List UInt8)} {v : List UInt8} (hF : ∀ x, x ∈ FX → x.length = t) (hk : FX.length = k) (k1 : 1 ≤ k) (hv : v.length = k) : combS v FX = (mulR t FX v, 0) := by
  rw [comb_ok hF (hv.trans hk.symm), if_neg (fun e => by rw [e] at hk; simp at hk; omega)]
theorem vecS_back {m : UInt8} {xs : List UInt8} {s k : Nat} (hs : s < 18446744073709551616) : vecS m (rdX m (srcB m xs s)) (rdS m (srcB m xs s)) k = vecS m xs s k := by
  unfold vecS rdX rdS srcB
  by_cases h0 : m = 0
  · rw [if_pos h0, if_pos h0, if_pos h0, if_pos h0]
  · rw [if_neg h0, if_neg h0, if_neg h0, if_neg h0, get8_put8 hs]
/-- what a sender of the symbols sends by a source -/
theorem sent_eq {k t D n s : Nat} {m : UInt8} {xs : List UInt8} {FX : List (List UInt8)} (hF : ∀ x, x ∈ FX → x.length = t) (hk : FX.length = k) (k1 : 1 ≤ k) (hm : srcC m xs.length k = 0) (hs : s < 18446744073709551616) (hD : D < 4294967296) (hn : n < 4294967296) :
    readC k t D (pktB m D n xs s (combS (vecS m xs s k) FX).1) = 0 ∧ eqX k t (pktB m D n xs s (combS (vecS m xs s k) FX).1) = rowC t FX (vecS m xs s k) := by
  obtain ⟨hm0, hx⟩ := srcC_zero hm
  have hv := vecS_len (s := s) hm rfl
  have hc := comb_mulR hF hk k1 hv
  have hy : (combS (vecS m xs s k) FX).1.length = t := by rw [hc]; exact mulR_len hF _
  obtain ⟨h1, h2, h3, h4, h5, h6⟩ := read_write (m := m) (D := D) (n := n) (s := s) (k := k) (t := t) (xs := xs) (ys := (combS (vecS m xs s k) FX).1) hm0 hx hy hD hn
  refine ⟨h1, ?_⟩
  unfold eqX
  rw [h2, h4, h5, h6, vecS_back hs, hc]; rfl
theorem pieces_len {o : List UInt8} {k t : Nat} : (∀ x, x ∈ (List.range k).map (pieceS o t) → x.length = t) ∧ ((List.range k).map (pieceS o t)).length = k :=
  ⟨fun x hx => by obtain ⟨i, _, rfl⟩ := List.mem_map.1 hx; exact pieceS_len o t i, by simp⟩
end Go.Proofs.YtfbmdlfkipipfaaGreatDoor
namespace Go.By
open Go.RowKit Go.Maps Go.Proofs.YtfbmdlfkipipfaaGreatDoor
section
variable {w w' : World} {base gt be L t k D N : Nat} {M v : Value} {C : DataW Unit} {K : List Rw} {st : Nat}
theorem TChg.owns (h : TChg w w' gt be v) (hT : Tkr w base gt be L t k D N M v C K st) {b2 T e n : Nat} {v2 : Value} {ys : List Value} (ho : w.ownsRow b2 T e v2 n ys) (h1 : T ≠ 126) (h2 : T ≠ 201) (h3 : ∀ g, v2.ownBlock = some g → v.ownBlock ≠ some g) : w'.ownsRow b2 T e v2 n ys := by
  refine owns_same ho h.size fun g2 hg2 => ?_
  rcases ho.2 with ⟨e1, _⟩ | ⟨g', cap, cur, e1, _, hh, _⟩
  · rw [e1] at hg2; cases hg2
  · have h4 := h3 g2 hg2
    rw [e1] at hg2; cases hg2
    refine h.block _ (lt_of_block hh) (fun e => ?_) (fun e => ?_) h4
    · have := hT.box; rw [← e, hh] at this; injection this with this; injection this with _ this _; exact h1 this
    · have := hT.elm.box; rw [← e, hh] at this; injection this with this; injection this with _ this _; exact h2 this
theorem tkr_owns_ne {b2 T e n : Nat} {v2 : Value} {ys : List Value} (hT : Tkr w base gt be L t k D N M v C K st) (ho : w.ownsRow b2 T e v2 n ys) (h : 139 ≠ T) : ∀ g, v2.ownBlock = some g → v.ownBlock ≠ some g := by
  intro g hg
  rcases ho.2 with ⟨e1, _⟩ | ⟨g', cap, cur, e1, _, hh, _⟩
  · rw [e1] at hg; cases hg
  · rw [e1] at hg; cases hg
    exact hT.elm.rows.ne_box hh h
theorem TChg.bw (h : TChg w w' gt be v) (hT : Tkr w base gt be L t k D N M v C K st) {b : Nat} {u : Value} {xs : List UInt8} (hu : Bw 5 w b u xs) : Bw 5 w' b u xs := by
  obtain ⟨q, m, c, e, l, o⟩ := hu
  exact ⟨q, m, c, e, l, h.owns hT o (by decide) (by decide) (tkr_owns_ne hT o (by decide))⟩
theorem TChg.rwl (h : TChg w w' gt be v) (hT : Tkr w base gt be L t k D N M v C K st) {b2 n2 : Nat} {v2 : Value} {K2 : List Rw} (h2 : RwL 139 5 w b2 v2 n2 K2) (hne : ∀ g, v2.ownBlock = some g → v.ownBlock ≠ some g) : RwL 139 5 w' b2 v2 n2 K2 := by
  obtain ⟨vs, a, b, o, r⟩ := h2
  exact ⟨vs, a, b, h.owns hT o (by decide) (by decide) hne, fun j u hj => by obtain ⟨x, hk, g1, g2⟩ := r j u hj; exact ⟨x, hk, h.bw hT g1, h.bw hT g2⟩⟩
theorem TChg.cnt (h : TChg w w' gt be v) (hT : Tkr w base gt be L t k D N M v C K st) {M2 : Value} {N2 : Nat} {C2 : DataW Unit} (hc : CntM w M2 N2 C2) : CntM w' M2 N2 C2 := by
  refine ⟨?_, hc.small⟩
  rcases hc.at_ with h1 | ⟨b, e, ho⟩
  · exact .inl h1
  · refine .inr ⟨b, e, ?_⟩
    have hlt := ho.lt
    obtain ⟨es, clock, h1, F, hs, hD⟩ := ho
    refine ⟨es, clock, (h.block b hlt (fun e => ?_) (fun e => ?_) (fun e => ?_)).trans h1, F, hs, hD⟩
    · have := hT.box; rw [← e, h1] at this; cases this
    · have := hT.elm.box; rw [← e, h1] at this; cases this
    · obtain ⟨vs, _, _, o, _⟩ := hT.elm.rows
      rcases o.2 with ⟨e1, _⟩ | ⟨g', cap, cur, e1, _, hh, _⟩
      · rw [e1] at e; cases e
      · rw [e1] at e; cases e
        rw [h1] at hh; cases hh
end
theorem sl_gchg {w w' : World} {q : Option Addr} {n c g T : Nat} {ys : List UInt8} {cs : Array Value} {fr : Nat × Nat} (h : Sl B8 w q n c ys) (hg : w.heap[g]? = some (.cells cs T fr)) (hno : ∀ (j : Nat) (x : UInt8), cs[j]? ≠ some (B8 x)) (hc : GChg w g w') : Sl B8 w' q n c ys :=
  ⟨h.len, h.le, h.max, h.nil, fun j hj => by
    obtain ⟨b, o, e, hcl⟩ := h.rs j hj
    refine ⟨b, o, e, ?_⟩
    have hne : b ≠ g := fun e1 => by
      rw [e1, cell_of_row _ _ (o + j) _ _ _ hg] at hcl
      exact hno _ _ hcl
    exact (World.cell?_of_block (a := ⟨b, o + j, none⟩) (hc.block b (lt_of_cell hcl) hne)).trans hcl⟩
theorem sl2_gchg {w w' : World} {q : Option Addr} {n c g T : Nat} {yss : List (List UInt8)} {cs : Array Value} {fr : Nat × Nat} (h : Sl2 w q n c yss) (hq : ∀ a, q = some a → a.block ≠ g) (hg : w.heap[g]? = some (.cells cs T fr)) (hno : ∀ (j : Nat) (x : UInt8), cs[j]? ≠ some (B8 x)) (hc : GChg w g w') : Sl2 w' q n c yss :=
  ⟨h.len, h.le, h.max, h.nil, fun j ys hj => by
    obtain ⟨b, o, q', c', e, hcl, hs⟩ := h.rs j ys hj
    exact ⟨b, o, q', c', e, (World.cell?_of_block (a := ⟨b, o + j, none⟩) (hc.block b (lt_of_cell hcl) (hq _ e))).trans hcl, sl_gchg hs hg hno hc⟩⟩
theorem GChg.trans {w a b : World} {g : Nat} (h : GChg w g a) (h2 : GChg a g b) : GChg w g b :=
  ⟨h2.os.trans h.os, h2.tape.trans h.tape, h2.output.trans h.output, Nat.le_trans h.size h2.size, fun i hi hg => (h2.block i (Nat.lt_of_lt_of_le hi h.size) hg).trans (h.block i hi hg)⟩
theorem GChg.then {w a b : World} {g B : Nat} (h : GChg w g a) (h2 : Below B a b) (hB : w.heap.size ≤ B) : GChg w g b :=
  ⟨h2.os.trans h.os, h2.tape.trans h.tape, h2.output.trans h.output, Nat.le_trans h.size h2.size, fun i hi hg => (h2.block i (Nat.lt_of_lt_of_le hi hB)).trans (h.block i hi hg)⟩
end Go.By
namespace Go.Proofs.YtfbmdlfkipipfaaGreatDoor
open Go.RowKit Go.By Go.Maps
/-- a sender, seen from the world in which it was made -/
structure SndO (w0 w : World) (gs L t k D nx : Nat) (xss : List (List UInt8)) : Prop where
  ok : POK L t k D
  mem : ∃ q c n0, w0.heap[gs]? = some (.cells #[.int .i64 (L : Nat), .int .i64 (t : Nat), .int .i64 (k : Nat), .int .u32 (D : Nat), .slice q k c, .int .u64 (n0 : Nat)] 153 (0, 0)) ∧ w.heap[gs]? = some (.cells #[.int .i64 (L : Nat), .int .i64 (t : Nat), .int .i64 (k : Nat), .int .u32 (D : Nat), .slice q k c, .int .u64 (nx : Nat)] 153 (0, 0)) ∧ Sl2 w0 q k c xss ∧ ∀ a, q = some a → a.block ≠ gs
  fit : ∀ xs, xs ∈ xss → xs.length = t
  chg : GChg w0 gs w
theorem SndO.start {w : World} {gs L t k D nx : Nat} {xss : List (List UInt8)} (h : Snd w gs L t k D nx xss) : SndO w w gs L t k D nx xss := by
  obtain ⟨q, c, h1, h2, h3⟩ := h.mem
  exact ⟨h.ok, ⟨q, c, nx, h1, h1, h2, h3⟩, h.fit, ⟨rfl, rfl, rfl, Nat.le_refl _, fun _ _ _ => rfl⟩⟩
theorem SndO.snd {w0 w : World} {gs L t k D nx : Nat} {xss : List (List UInt8)} (h : SndO w0 w gs L t k D nx xss) : Snd w gs L t k D nx xss := by
  obtain ⟨q, c, n0, h1, h2, h3, h4⟩ := h.mem
  exact ⟨h.ok, ⟨q, c, h2, sl2_gchg h3 h4 h1 noByte6 h.chg, h4⟩, h.fit⟩
theorem SndO.lt {w0 w : World} {gs L t k D nx : Nat} {xss : List (List UInt8)} (h : SndO w0 w gs L t k D nx xss) : gs < w0.heap.size := by
  obtain ⟨q, c, n0, h1, h2, h3, h4⟩ := h.mem
  exact lt_of_block h1
theorem SndO.keep {w0 w w' : World} {gs L t k D nx B : Nat} {xss : List (List UInt8)} (h : SndO w0 w gs L t k D nx xss) (hb : Below B w w') (hB : w0.heap.size ≤ B) : SndO w0 w' gs L t k D nx xss := by
  have hl := h.lt
  obtain ⟨q, c, n0, h1, h2, h3, h4⟩ := h.mem
  exact ⟨h.ok, ⟨q, c, n0, h1, (hb.block _ (Nat.lt_of_lt_of_le hl hB)).trans h2, h3, h4⟩, h.fit, h.chg.then hb hB⟩
theorem SndO.sent {w0 w w' : World} {gs L t k D nx nx' : Nat} {xss : List (List UInt8)} {ys : List UInt8} {code : Int} {e : Ending} (h : SndO w0 w gs L t k D nx xss) (hs : SdRetQ w gs L t k D xss ys nx nx' code e w') : SndO w0 w' gs L t k D nx' xss := by
  obtain ⟨q, c, n0, h1, h2, h3, h4⟩ := h.mem
  obtain ⟨⟨_, _, _, _, _, _, hg⟩, hq⟩ := hs
  exact ⟨h.ok, ⟨q, c, n0, h1, hq q c h2, h3, h4⟩, h.fit, h.chg.trans hg⟩
set_option maxRecDepth 100000 in
set_option maxHeartbeats 1000000 in
/-- of a source that does not fit nothing is sent -/
theorem SSend_bad (gs L t k D nx : Nat) (xss : List (List UInt8)) (m : UInt8) (p : Option Addr) (j c s : Nat) (xs : List UInt8) (w : World) (hS : Snd w gs L t k D nx xss) (hnx : nx < 4294967296) (hm : srcC m j k ≠ 0) (h : Sl B8 w p j c xs) (hr : Room j) :
    Calls Tryz.prog 31 #[.pointer (some ⟨gs, 0, none⟩), SVal m p j c s] w fun e w' => e = .returned (.tuple #[.slice none 0 0, .int .i64 (srcC m j k)]) ∧ Below w.heap.size w w' := by
  obtain ⟨qs, cs, hbox, hsx, hqs⟩ := hS.mem
  have hV : Hid (∀ w, Sl B8 w p j c xs → Calls Tryz.prog 32 #[SVal m p j c s, .int .i64 (k : Nat)] w (SRet w (if srcC m j k = 0 then vecS m xs s k else []) (srcC m j k))) := fun w h => SVector_any m p j c s k xs hS.ok.k1 hS.ok.k2 w h hr
  have e0 : ((nx : Int) == 4294967296) = false := beq_eq_false_iff_ne.2 (by omega)
  have hz : (srcC m j k != 0) = true := bne_iff_ne.2 hm
  generalize srcC m j k = R at *
  generalize (if R = 0 then vecS m xs s k else []) = V at *
  have H := Lib.hid h
  have HBOX := Lib.hid hbox
  have a0 : ∀ o', (w.alloc o').cell? ⟨gs, 5, none⟩ = some (.int .u64 (nx : Nat)) := fun _ => calloc (cells_six hbox).2.2.2.2.2
  clear hS h hm hsx hqs hbox hr hnx
  go_enter Tryz.func31, Tryz.ntmps31
  go_wp2_with fail
  have hgs := lt_of_block HBOX.out
  have B0 : Hid (Below w.heap.size w (w.alloc (.cells #[B8 m, .slice p j c, .int .u64 (s : Nat)] 66 (0, 0)))) := al (Below.refl _ _) (Nat.le_refl _)
  have k1 : (w.alloc (.cells #[B8 m, .slice p j c, .int .u64 (s : Nat)] 66 (0, 0))).heap[w.heap.size]? = some (.cells #[B8 m, .slice p j c, .int .u64 (s : Nat)] 66 (0, 0)) := hnew rfl
  have k2 := (B0.out.block _ hgs).trans HBOX.out
  generalize w.alloc (.cells #[B8 m, .slice p j c, .int .u64 (s : Nat)] 66 (0, 0)) = w1 at *
  have H1 := Lib.hid (H.out.keep B0.out)
  obtain ⟨b0, b1, b2⟩ := cells_three k1
  obtain ⟨c0, c1, c2, c3, c4, c5⟩ := cells_six k2
  refine wp_region_shapes (fun ix => ([.val (.agg #[B8 m, .slice p j c, .int .u64 (s : Nat)]), .val (.pointer (some ⟨gs, 0, none⟩)), .val (.pointer (some ⟨gs, 0, none⟩)), .val (.pointer (some ⟨gs, 0, none⟩)), .val (.pointer (some ⟨gs, 2, none⟩)), .val (.int .i64 (k : Nat)), ShSR (V) (R), ShSR (V) (R), .bytes (V), .val (.int .i64 (R)), .bytes (V), .val (.int .i64 (R))][ix]?).getD (.any)) 79 rfl (by kernel_rfl) (by decide) (by decide) (by decide) ?_ ?_
  · refine ⟨?_, ?_, ?_, ?_, ?_, ?_, ?_, ?_, ?_, ?_, ?_, ?_, trivial⟩
    · intro a W hb0 hs hp hi; have hb := undrew hb0; clear hb0
      have tt : sl a 3 = .pointer (some ⟨w.heap.size, 0, none⟩) := hi 3 (by decide)
      have dd0 := (hb.cell (p := ⟨w.heap.size, 0, none⟩) (lt_of_cell b0)).trans b0
      have dd1 := (hb.cell (p := ⟨w.heap.size, 1, none⟩) (lt_of_cell b1)).trans b1
      have dd2 := (hb.cell (p := ⟨w.heap.size, 2, none⟩) (lt_of_cell b2)).trans b2
      refine ite_y rfl (wp_val (.agg #[B8 m, .slice p j c, .int .u64 (s : Nat)]) ?_ ?_)
      · simp only [execOp, eval_tmp, tt]; simp [go_sem, dd0, dd1, dd2]
      · exact ⟨_, rfl, Below.refl _ _, rfl⟩
    · intro a W hb0 hs hp hi; have hb := undrew hb0; clear hb0
      have t0 : sl a 0 = .pointer (some ⟨gs, 0, none⟩) := hi 0 (by decide)
      exact ite_y rfl (wp_val (sl a 0) rfl ⟨_, rfl, Below.refl _ _, t0⟩)
    · intro a W hb0 hs hp hi; have hb := undrew hb0; clear hb0
      have tt : sl a 20 = .pointer (some ⟨gs, 0, none⟩) := hp 1 (by decide)
      refine ite_y rfl (wp_val (.pointer (some ⟨gs, 0, none⟩)) ?_ ?_)
      · simp only [execOp, eval_tmp, tt]; simp [go_sem]
      · exact ⟨_, rfl, Below.refl _ _, rfl⟩
    · intro a W hb0 hs hp hi; have hb := undrew hb0; clear hb0
      have tt : sl a 21 = .pointer (some ⟨gs, 0, none⟩) := hp 2 (by decide)
      refine ite_y rfl (wp_val (.pointer (some ⟨gs, 0, none⟩)) ?_ ?_)
      · simp only [execOp, eval_tmp, tt]; simp [go_sem]
      · exact ⟨_, rfl, Below.refl _ _, rfl⟩
    · intro a W hb0 hs hp hi; have hb := undrew hb0; clear hb0
      have tt : sl a 22 = .pointer (some ⟨gs, 0, none⟩) := hp 3 (by decide)
      refine ite_y rfl (wp_val (.pointer (some ⟨gs, 2, none⟩)) ?_ ?_)
      · simp only [execOp, eval_tmp, tt]; simp [go_sem]
      · exact ⟨_, rfl, Below.refl _ _, rfl⟩
    · intro a W hb0 hs hp hi; have hb := undrew hb0; clear hb0
      have tt : sl a 23 = .pointer (some ⟨gs, 2, none⟩) := hp 4 (by decide)
      have dd := (hb.cell (p := ⟨gs, 2, none⟩) (lt_of_cell c2)).trans c2
      refine ite_y rfl (wp_val (.int .i64 (k : Nat)) ?_ ?_)
      · simp only [execOp, eval_tmp, tt]; simp [go_sem, dd]
      · exact ⟨_, rfl, Below.refl _ _, rfl⟩
    · intro a W hb0 hs hp hi; have hb := undrew hb0; clear hb0
      have t19 : sl a 19 = .agg #[B8 m, .slice p j c, .int .u64 (s : Nat)] := hp 0 (by decide)
      have t24 : sl a 24 = .int .i64 (k : Nat) := hp 5 (by decide)
      refine ite_y rfl (wp_enter 32 #[SVal m p j c s, .int .i64 (k : Nat)] ?_ (hV.out _ (H1.out.keep hb)) ?_)
      · simp only [execOp, resolve, List.map_toArray, List.map, eval_tmp, eval_func, eval_const, t19, t24]; simp [go_sem]
      · rintro e W' ⟨q5, n5, g5, rfl, o5, hw⟩; exact ⟨_, rfl, _, rfl, hw, q5, n5, g5, rfl, o5⟩
    · intro a W hb0 hs hp hi; have hb := undrew hb0; clear hb0
      exact ite_y rfl (wp_val (sl a 25) rfl ⟨_, rfl, Below.refl _ _, hp 6 (by decide)⟩)
    · intro a W hb0 hs hp hi; have hb := undrew hb0; clear hb0
      have tt : SRT (V) (R) (sl a 18) W := hp 7 (by decide)
      obtain ⟨q5, n5, g5, tt, z5⟩ := tt
      refine ite_y rfl (wp_val (.slice q5 n5 g5) ?_ ?_)
      · simp only [execOp, eval_tmp, tt]; rfl
      · exact ⟨_, rfl, Below.refl _ _, q5, n5, g5, rfl, z5⟩
    · intro a W hb0 hs hp hi; have hb := undrew hb0; clear hb0
      have tt : SRT (V) (R) (sl a 18) W := hp 7 (by decide)
      obtain ⟨q5, n5, g5, tt, z5⟩ := tt
      refine ite_y rfl (wp_val (.int .i64 (R)) ?_ ?_)
      · simp only [execOp, eval_tmp, tt]; rfl
      · exact ⟨_, rfl, Below.refl _ _, rfl⟩
    · intro a W hb0 hs hp hi; have hb := undrew hb0; clear hb0
      exact ite_y rfl (wp_val (sl a 26) rfl ⟨_, rfl, Below.refl _ _, hp 8 (by decide)⟩)
    · intro a W hb0 hs hp hi; have hb := undrew hb0; clear hb0
      have t27 : sl a 27 = .int .i64 (R) := hp 9 (by decide)
      exact ite_y rfl (wp_val (sl a 27) rfl ⟨_, rfl, Below.refl _ _, t27⟩)
  intro a w2 hb hs hd hI ht
  have ha := act_is [19, 20, 21, 22, 23, 24, 25, 18, 26, 27, 6, 7] hs hd ht (by decide)
  have t7 : sl a 7 = .int .i64 (R) := hI 11 (by decide)
  have y6 := hI 10 (by decide)
  obtain ⟨q6, n6, c6, t6, z6⟩ := y6
  simp only [List.foldl, t7, t6] at ha
  generalize sl a 19 = u19 at ha
  generalize sl a 20 = u20 at ha
  generalize sl a 21 = u21 at ha
  generalize sl a 22 = u22 at ha
  generalize sl a 23 = u23 at ha
  generalize sl a 24 = u24 at ha
  generalize sl a 25 = u25 at ha
  generalize sl a 18 = u18 at ha
  generalize sl a 26 = u26 at ha
  generalize sl a 27 = u27 at ha
  simp only [Act.put, List.setIfInBounds_toArray, List.set_cons_zero, List.set_cons_succ] at ha
  rw [ha]
  clear ha hI ht
  have HB2 := Lib.hid (bl B0.out hb B0.out.size)
  clear hb z6 k1 k2 b0 b1 b2 c0 c1 c2 c3 c4 c5 H1
  go_wp2
  go_ret2
  exact ⟨rfl, HB2.out⟩
end Go.Proofs.YtfbmdlfkipipfaaGreatDoor
namespace Go.Proofs.YtfbmdlfkipipfaaGreatDoor
open Go.RowKit Go.By Go.Maps
theorem pok_of {l s n d : Int} (hl : l ≤ 9223372036854775807) (hc : checkS l s n = 0) (h0 : 0 ≤ d) (h1 : d < 4294967296) : ∃ L t k D : Nat, l = L ∧ s = t ∧ n = k ∧ d = D ∧ POK L t k D := by
  have hf : fitS l s = 0 ∧ n = needS l s := by
    unfold checkS at hc
    by_cases hf : fitS l s = 0
    · rw [if_pos hf] at hc
      refine ⟨hf, ?_⟩
      by_cases hn : n = needS l s
      · exact hn
      · rw [if_neg hn] at hc; omega
    · rw [if_neg hf] at hc; exact absurd hc hf
  obtain ⟨hf, hn⟩ := hf
  have hs : 0 ≤ l ∧ 1 ≤ s ∧ s ≤ 65535 ∧ needS l s ≤ 4096 := by
    unfold fitS at hf
    split at hf
    · omega
    · split at hf
      · omega
      · split at hf
        · omega
        · omega
  obtain ⟨g1, g2⟩ := needS_pos hs.1 hs.2.1
  refine ⟨l.toNat, s.toNat, n.toNat, d.toNat, by omega, by omega, by omega, by omega, ⟨?_, by omega, by omega, by omega, by omega, by omega, by omega⟩⟩
  rw [show ((l.toNat : Nat) : Int) = l by omega, show ((s.toNat : Nat) : Int) = s by omega, show ((n.toNat : Nat) : Int) = n by omega]
  exact hc
end Go.Proofs.YtfbmdlfkipipfaaGreatDoor
namespace Go.By
open Go.RowKit
section
variable {P : Program} {ops : Array Oper} {Q : Exit → Act → World → Prop}
end
end Go.By
namespace Go.By
open Go.RowKit
theorem Hdr.keep {T base i : Nat} {w1 w w' : World} {v : Value} {xss : List (List UInt8)} (h : Hdr T w1 base w v i xss) (hb : Below w.heap.size w w') : Hdr T w1 base w' v i xss := by
  obtain ⟨vs, o, hl, hr⟩ := h
  exact ⟨vs, owns_keepv o hb, hl, hr⟩
section
variable {T : Nat} {wz W w w' : World} {va vb : Value} {n i4 i9 i : Nat} {A B : List (List UInt8)} {dn : Nat → Bool}
end
end Go.By
namespace Go.Proofs.YtfbmdlfkipipfaaGreatDoor
open Go.RowKit Go.By Gf Go.Maps
/-- an object that a plan fits -/
structure ObjP (n t k D : Nat) : Prop where
  ok : POK n t k D
  fit : ∀ i : Nat, i < k → i * t ≤ n
  le : n ≤ k * t
theorem of_obj {n : Nat} {s d : Int} (hf : fitS n s = 0) (hn : (n : Int) ≤ 9223372036854775807) (d0 : 0 ≤ d) (d1 : d < 4294967296) :
    ∃ t k D : Nat, s = t ∧ d = D ∧ ObjP n t k D ∧ ofS n s d = .tuple #[PVal n t k D, .int .i64 0] := by
  have hc : checkS (n : Int) s (needS n s) = 0 := by unfold checkS; rw [if_pos hf, if_pos rfl]
  obtain ⟨L, t, k, D, e1, e2, e3, e4, hP⟩ := pok_of hn hc d0 d1
  have e1' : L = n := by omega
  subst e1'
  subst e2
  subst e4
  refine ⟨t, k, D, rfl, rfl, ⟨hP, ?_, ?_⟩, ?_⟩
  · intro i hi
    by_cases h0 : (L : Int) = 0
    · have : needS L t = 1 := by unfold needS; rw [if_pos h0]
      have : i = 0 := by omega
      subst this; omega
    · have h5 := (needS_spec (l := L) (s := t) (by omega) (by have := hP.t1; omega)).1
      rw [e3] at h5
      have h6 : (i : Int) * t ≤ ((k : Int) - 1) * t := Int.mul_le_mul_of_nonneg_right (by omega) (by omega)
      have h7 : ((i * t : Nat) : Int) ≤ (L : Int) := by rw [Int.natCast_mul]; exact Int.le_of_lt (Int.lt_of_le_of_lt h6 h5)
      omega
  · by_cases h0 : (L : Int) = 0
    · have : L = 0 := by omega
      subst this; omega
    · have h5 := (needS_spec (l := L) (s := t) (by omega) (by have := hP.t1; omega)).2
      rw [e3] at h5
      have h7 : (L : Int) ≤ ((k * t : Nat) : Int) := by rw [Int.natCast_mul]; exact h5
      omega
  · unfold ofS; rw [if_pos hf, e3]
end Go.Proofs.YtfbmdlfkipipfaaGreatDoor
namespace Go.By
open Go.RowKit Go.Maps Go.Proofs.YtfbmdlfkipipfaaGreatDoor
theorem fresh_same {T : TypeId} {B : Nat} {w w' : World} {q : Option Addr} {n c : Nat} {xs : List UInt8} (h : Fresh T B w q n c xs) (hp : ∀ (b : Nat) (cs : Array Value) (fr : Nat × Nat), w.heap[b]? = some (.cells cs T fr) → w'.heap[b]? = w.heap[b]?) : Fresh T B w' q n c xs := by
  have hd : ∀ a, q = some a → w'.heap[a.block]? = w.heap[a.block]? := fun a ha => by
    obtain ⟨cs, fr, e⟩ := h.ty a ha; exact hp _ cs fr e
  refine ⟨⟨h.sl.len, h.sl.le, h.sl.max, h.sl.nil, fun i hi => ?_⟩, h.new, fun a ha => ?_⟩
  · obtain ⟨b, o, e, hc⟩ := h.sl.rs i hi
    exact ⟨b, o, e, (World.cell?_of_block (a := ⟨b, o + i, none⟩) (show w'.heap[b]? = w.heap[b]? from hd ⟨b, o, none⟩ e)).trans hc⟩
  · obtain ⟨cs, fr, e⟩ := h.ty a ha
    exact ⟨cs, fr, (hd a ha).trans e⟩
theorem GChg.same {w w' : World} {g T' : Nat} {old : Array Value} {fr : Nat × Nat} (h : GChg w g w') (hg : w.heap[g]? = some (.cells old T' fr)) {T : TypeId} (hne : T' ≠ T) : ∀ (b : Nat) (cs : Array Value) (fr : Nat × Nat), w.heap[b]? = some (.cells cs T fr) → w'.heap[b]? = w.heap[b]? := fun b cs fr hb =>
  (h.blk hg hb hne).trans hb.symm
theorem TChg.same {w w' : World} {base gt be L t k D N : Nat} {M v : Value} {C : DataW Unit} {K : List Rw} {st : Nat} (h : TChg w w' gt be v) (hT : Tkr w base gt be L t k D N M v C K st) {T : TypeId} (h1 : T ≠ 126) (h2 : T ≠ 201) (h3 : 139 ≠ T) : ∀ (b : Nat) (cs : Array Value) (fr : Nat × Nat), w.heap[b]? = some (.cells cs T fr) → w'.heap[b]? = w.heap[b]? := fun b cs fr hb =>
  (h.blk hT hb h1 h2 h3).trans hb.symm
/-- headers of bytes in new memory -/
def HdrF (T2 T1 : TypeId) (B : Nat) (w : World) (v : Value) (n : Nat) (xss : List (List UInt8)) : Prop :=
  ∃ vs, w.ownsRow B T2 1 v n vs ∧ xss.length = n ∧ ∀ (j : Nat) (u : Value), vs[j]? = some u → ∃ q m c xs, u = .slice q m c ∧ xss[j]? = some xs ∧ Fresh T1 B w q m c xs
theorem HdrF.nil (T2 T1 B : Nat) (w : World) : HdrF T2 T1 B w (.slice none 0 0) 0 [] := ⟨[], World.ownsRow_nil _ _ _ _, rfl, fun j u h => by simp at h⟩
theorem HdrF.shape {T2 T1 B n : Nat} {w : World} {v : Value} {xss : List (List UInt8)} (h : HdrF T2 T1 B w v n xss) : ∃ q c, v = .slice q n c := by
  obtain ⟨vs, o, _⟩ := h; exact owns_shape o
theorem HdrF.len {T2 T1 B n : Nat} {w : World} {v : Value} {xss : List (List UInt8)} (h : HdrF T2 T1 B w v n xss) : xss.length = n := by
  obtain ⟨vs, o, l, _⟩ := h; exact l
theorem HdrF.keep {T2 T1 B n : Nat} {w w' : World} {v : Value} {xss : List (List UInt8)} (h : HdrF T2 T1 B w v n xss) (hb : Below w.heap.size w w') : HdrF T2 T1 B w' v n xss := by
  obtain ⟨vs, o, l, r⟩ := h
  refine ⟨vs, owns_keepv o hb, l, fun j u hj => ?_⟩
  obtain ⟨q, m, c, xs, e, hx, hf⟩ := r j u hj
  exact ⟨q, m, c, xs, e, hx, hf.keep hb⟩
theorem HdrF.same {T2 T1 B n : Nat} {w w' : World} {v : Value} {xss : List (List UInt8)} (h : HdrF T2 T1 B w v n xss) (hs : w.heap.size ≤ w'.heap.size) (h2 : ∀ (b : Nat) (cs : Array Value) (fr : Nat × Nat), w.heap[b]? = some (.cells cs T2 fr) → w'.heap[b]? = w.heap[b]?) (h1 : ∀ (b : Nat) (cs : Array Value) (fr : Nat × Nat), w.heap[b]? = some (.cells cs T1 fr) → w'.heap[b]? = w.heap[b]?) : HdrF T2 T1 B w' v n xss := by
  obtain ⟨vs, o, l, r⟩ := h
  refine ⟨vs, owns_same o hs fun g hg => ?_, l, fun j u hj => ?_⟩
  · rcases o.2 with ⟨e1, _⟩ | ⟨g', cap, cur, e1, _, hh, _⟩
    · rw [e1] at hg; cases hg
    · rw [e1] at hg; cases hg
      exact h2 _ _ _ hh
  · obtain ⟨q, m, c, xs, e, hx, hf⟩ := r j u hj
    exact ⟨q, m, c, xs, e, hx, fresh_same hf h1⟩
theorem HdrF.sl2 {T2 T1 B n : Nat} {w : World} {q : Option Addr} {c : Nat} {xss : List (List UInt8)} (h : HdrF T2 T1 B w (.slice q n c) n xss) : Sl2 w q n c xss := by
  obtain ⟨vs, o, l, r⟩ := h
  have hd : Hdr T2 w B w (.slice q n c) n xss := ⟨vs, o, l, fun j u hj => by
    obtain ⟨q, m, c, xs, e, hx, hf⟩ := r j u hj
    exact ⟨q, m, c, xs, e, hx, hf.sl⟩⟩
  exact hd.sl2 (Below.refl _ _)
/-- one more -/
theorem HdrF.push {T2 T1 B n : Nat} {w w' : World} {v v' : Value} {xss : List (List UInt8)} {vs : List Value} {q : Option Addr} {m c : Nat} {xs : List UInt8} (ho : w'.ownsRow B T2 1 v' (n + 1) (vs ++ [.slice q m c])) (hvl : vs.length = n) (hl : xss.length = n)
    (hr : ∀ (j : Nat) (u : Value), vs[j]? = some u → ∃ q m c xs, u = .slice q m c ∧ xss[j]? = some xs ∧ Fresh T1 B w q m c xs) (hx : Fresh T1 B w q m c xs) (hp : ∀ (b : Nat) (cs : Array Value) (fr : Nat × Nat), w.heap[b]? = some (.cells cs T1 fr) → w'.heap[b]? = w.heap[b]?) : HdrF T2 T1 B w' v' (n + 1) (xss ++ [xs]) := by
  refine ⟨_, ho, by simp [hl], fun j u hj => ?_⟩
  by_cases h : j < vs.length
  · rw [List.getElem?_append_left h] at hj
    obtain ⟨q, m, c, ys, e, hy, hf⟩ := r_of hr hj
    exact ⟨q, m, c, ys, e, by rw [List.getElem?_append_left (by omega)]; exact hy, fresh_same hf hp⟩
  · rw [List.getElem?_append_right (by omega)] at hj
    by_cases h0 : j - vs.length = 0
    · rw [h0] at hj
      simp at hj
      refine ⟨q, m, c, xs, hj.symm, ?_, fresh_same hx hp⟩
      rw [List.getElem?_append_right (by omega), show j - xss.length = 0 by omega]; rfl
    · rw [List.getElem?_eq_none (by simp; omega)] at hj; cases hj
where
  r_of {T1 B : Nat} {w : World} {vs : List Value} {xss : List (List UInt8)} {j : Nat} {u : Value} (hr : ∀ (j : Nat) (u : Value), vs[j]? = some u → ∃ q m c xs, u = .slice q m c ∧ xss[j]? = some xs ∧ Fresh T1 B w q m c xs) (hj : vs[j]? = some u) := hr j u hj
end Go.By
namespace Go.Proofs.YtfbmdlfkipipfaaGreatDoor
open Go.RowKit Go.By Go.Maps
end Go.Proofs.YtfbmdlfkipipfaaGreatDoor
namespace Go.By
open Go.RowKit Go.Maps Go.Proofs.YtfbmdlfkipipfaaGreatDoor
/-- what stays of other types -/
def OthS (T : TypeId) : Prop := T ≠ 126 ∧ T ≠ 201 ∧ 139 ≠ T ∧ 153 ≠ T
structure KeepS (w w' : World) : Prop where
  size : w.heap.size ≤ w'.heap.size
  same : ∀ T, OthS T → ∀ (b : Nat) (cs : Array Value) (fr : Nat × Nat), w.heap[b]? = some (.cells cs T fr) → w'.heap[b]? = w.heap[b]?
theorem KeepS.of {w w' : World} (h : Below w.heap.size w w') : KeepS w w' := ⟨h.size, fun _ _ b _ _ hb => h.block b (lt_of_block hb)⟩
theorem KeepS.trans {w a b : World} (h : KeepS w a) (h2 : KeepS a b) : KeepS w b :=
  ⟨Nat.le_trans h.size h2.size, fun T hT i cs fr hi => (h2.same T hT i cs fr ((h.same T hT i cs fr hi).trans hi)).trans (h.same T hT i cs fr hi)⟩
theorem KeepS.blk {w w' : World} (h : KeepS w w') {T b : Nat} {cs : Array Value} {fr : Nat × Nat} (hT : OthS T) (hb : w.heap[b]? = some (.cells cs T fr)) : w'.heap[b]? = some (.cells cs T fr) := (h.same T hT b cs fr hb).trans hb
theorem KeepS.fresh {w w' : World} (h : KeepS w w') {T B n c : Nat} {q : Option Addr} {xs : List UInt8} (hT : OthS T) (hf : Fresh T B w q n c xs) : Fresh T B w' q n c xs := fresh_same hf (h.same T hT)
theorem KeepS.hdr {w w' : World} (h : KeepS w w') {T2 T1 B n : Nat} {v : Value} {xss : List (List UInt8)} (h2 : OthS T2) (h1 : OthS T1) (hf : HdrF T2 T1 B w v n xss) : HdrF T2 T1 B w' v n xss := hf.same h.size (h.same T2 h2) (h.same T1 h1)
theorem KeepS.owns {w w' : World} (h : KeepS w w') {b2 T e n : Nat} {v : Value} {ys : List Value} (hT : OthS T) (ho : w.ownsRow b2 T e v n ys) : w'.ownsRow b2 T e v n ys :=
  owns_same ho h.size fun g hg => by
    rcases ho.2 with ⟨e1, _⟩ | ⟨g', cap, cur, e1, _, hh, _⟩
    · rw [e1] at hg; cases hg
    · rw [e1] at hg; cases hg
      exact h.same T hT _ _ _ hh
theorem os_u8 : OthS 5 := ⟨by decide, by decide, by decide, by decide⟩
theorem os_rows : OthS 22 := ⟨by decide, by decide, by decide, by decide⟩
theorem TChg.keepS {w w' : World} {base gt be L t k D N : Nat} {M v : Value} {C : DataW Unit} {K : List Rw} {st : Nat} (h : TChg w w' gt be v) (hT : Tkr w base gt be L t k D N M v C K st) : KeepS w w' :=
  ⟨h.size, fun T hO => h.same hT hO.1 hO.2.1 hO.2.2.1⟩
theorem GChg.keepSS {w w' : World} {g : Nat} {cs : Array Value} {fr : Nat × Nat} (h : GChg w g w') (hg : w.heap[g]? = some (.cells cs 153 fr)) : KeepS w w' :=
  ⟨h.size, fun T hO => h.same hg hO.2.2.2⟩
end Go.By
namespace Go.Proofs.YtfbmdlfkipipfaaGreatDoor
open Go.RowKit Go.By Gf Go.Maps
/-- a sender and a taker, in memory; wI: the world ahead, w0: the world in which the sender was made -/
structure ST (wI w0 w : World) (gs gt be base L t k D : Nat) (FX : List (List UInt8)) (nx N : Nat) (v : Value) (K : List Rw) (st : Nat) : Prop where
  bel : Below wI.heap.size wI w
  i0 : wI.heap.size ≤ w0.heap.size
  le : w0.heap.size ≤ w.heap.size
  b1 : w0.heap.size ≤ base
  gs0 : wI.heap.size ≤ gs
  snd : SndO w0 w gs L t k D nx FX
  tk : ∃ M C, Tkr w base gt be L t k D N M v C K st
section
variable {wI w0 w w' : World} {gs gt be base L t k D nx N st : Nat} {FX : List (List UInt8)} {v : Value} {K : List Rw}
theorem ST.keep (h : ST wI w0 w gs gt be base L t k D FX nx N v K st) (hb : Below w.heap.size w w') : ST wI w0 w' gs gt be base L t k D FX nx N v K st := by
  obtain ⟨M, C, h1⟩ := h.tk
  exact ⟨bl h.bel hb h.bel.size, h.i0, Nat.le_trans h.le hb.size, h.b1, h.gs0, h.snd.keep hb h.le, ⟨M, C, h1.keep hb⟩⟩
theorem ST.sbox (h : ST wI w0 w gs gt be base L t k D FX nx N v K st) : ∃ cs fr, w.heap[gs]? = some (.cells cs 153 fr) := by
  obtain ⟨q, c, n0, h1, h2, h3, h4⟩ := h.snd.mem
  exact ⟨_, _, h2⟩
/-- an owned row of another type grew -/
theorem ST.grown (h : ST wI w0 w gs gt be base L t k D FX nx N v K st) {T e n : Nat} {u : Value} {ys : List Value} (ho : w.ownsRow w0.heap.size T e u n ys) (hg : w.grownBy w' u.ownBlock) (h1 : T ≠ 201) (h2 : T ≠ 139) (h3 : T ≠ 5) (h4 : T ≠ 126) :
    ST wI w0 w' gs gt be base L t k D FX nx N v K st ∧ (∀ T', T ≠ T' → ∀ (b : Nat) (cs : Array Value) (fr : Nat × Nat), w.heap[b]? = some (.cells cs T' fr) → w'.heap[b]? = w.heap[b]?) := by
  rcases ho.2 with ⟨e1, _⟩ | ⟨g, cap, cur, e1, hgb, hh, _⟩
  · have hb : Below w.heap.size w w' := ⟨hg.os, hg.tape, hg.output, hg.size, fun b hb => hg.block b hb (fun e => by rw [e1] at e; cases e)⟩
    exact ⟨h.keep hb, fun T' _ b cs fr hc => hb.block b (lt_of_block hc)⟩
  · have hc : GChg w g w' := ⟨hg.os, hg.tape, hg.output, hg.size, fun b hb hne => hg.block b hb (fun e => by rw [e1] at e; cases e; exact hne rfl)⟩
    obtain ⟨M, C, t1⟩ := h.tk
    exact ⟨⟨h.bel.trans (hc.below (Nat.le_trans h.i0 hgb) h.bel.size), h.i0, Nat.le_trans h.le hc.size, h.b1, h.gs0, h.snd.keep (hc.below hgb h.le) (Nat.le_refl _), ⟨M, C, hc.tkr hh t1 h1 h2 h3 h4⟩⟩, fun T' hne => hc.same hh hne⟩
/-- the sender sent -/
theorem ST.sent (h : ST wI w0 w gs gt be base L t k D FX nx N v K st) {ys : List UInt8} {nx' : Nat} {code : Int} {e : Ending} (hs : SdRetQ w gs L t k D FX ys nx nx' code e w') : ST wI w0 w' gs gt be base L t k D FX nx' N v K st ∧ KeepS w w' := by
  obtain ⟨cs, fr, hbx⟩ := h.sbox
  obtain ⟨M, C, t1⟩ := h.tk
  have hS := h.snd.sent hs
  obtain ⟨⟨_, _, _, _, _, _, hg⟩, -⟩ := hs
  exact ⟨⟨h.bel.trans (hg.below h.gs0 h.bel.size), h.i0, Nat.le_trans h.le hg.size, h.b1, h.gs0, hS, ⟨M, C, hg.tkr hbx t1 (by decide) (by decide) (by decide) (by decide)⟩⟩, hg.keepSS hbx⟩
/-- the taker took -/
theorem ST_take (h : ST wI w0 w gs gt be base L t k D FX nx N v K st) (hT : HalfT wI) (hN : N < 1000000) {p : Option Addr} {n c : Nat} {xs : List UInt8} (hs : Sl B8 w p n c xs) (hn : Room n) :
    Calls Tryz.prog 19 #[.pointer (some ⟨gt, 0, none⟩), .slice p n c] w fun e w' => e = .returned (.int .i64 (readC k t D xs)) ∧ ∃ v', ST wI w0 w' gs gt be base L t k D FX nx (N + 1) v' (takeK k t D K st xs) (takeS k t D K st xs) ∧ KeepS w w' := by
  obtain ⟨M, C, h1⟩ := h.tk
  refine Calls.mono (TTake_any base gt be L t k D N M v C K st p n c xs w h1 (hT.keep h.bel) hN hs hn) ?_
  rintro e w1 ⟨rfl, M', v', hT', hc', ho⟩
  have hB := hc'.below h1 h.b1 h.le
  exact ⟨rfl, v', ⟨h.bel.trans (hc'.below h1 (Nat.le_trans h.i0 h.b1) h.bel.size), h.i0, Nat.le_trans h.le hc'.size, h.b1, h.gs0, h.snd.keep hB (Nat.le_refl _), ⟨M', _, hT'⟩⟩, hc'.keepS h1⟩
/-- the sender sends by a source that fits -/
theorem ST_send (h : ST wI w0 w gs gt be base L t k D FX nx N v K st) (hT : HalfT wI) (hnx : nx < 4294967296) {m : UInt8} {p : Option Addr} {j c s : Nat} {xs : List UInt8} (hm : srcC m j k = 0) (hs : Sl B8 w p j c xs) (hr : Room j) :
    Calls Tryz.prog 31 #[.pointer (some ⟨gs, 0, none⟩), SVal m p j c s] w fun e w' => ∃ q n c', e = .returned (.tuple #[.slice q n c', .int .i64 0]) ∧ Fresh 5 w.heap.size w' q n c' (pktB m D nx xs s (combS (vecS m xs s k) FX).1) ∧ ST wI w0 w' gs gt be base L t k D FX (nx + 1) N v K st ∧ KeepS w w' := by
  refine Calls.mono (SSend_okF gs L t k D nx FX m p j c s xs w h.snd.snd hnx hm hs hr (hT.keep h.bel)) ?_
  rintro e w1 ⟨⟨q, n, c', he, hf⟩, hq⟩
  obtain ⟨g1, g2⟩ := h.sent hq
  exact ⟨q, n, c', he, hf, g1, g2⟩
theorem ST_status (h : ST wI w0 w gs gt be base L t k D FX nx N v K st) : Calls Tryz.prog 23 #[.pointer (some ⟨gt, 0, none⟩)] w fun e w' => e = .returned (.int .i64 (st : Nat)) ∧ w = w' := by
  obtain ⟨M, C, h1⟩ := h.tk
  exact TStatus_any base gt be L t k D N M v C K st w h1
theorem ST_rank (h : ST wI w0 w gs gt be base L t k D FX nx N v K st) : Calls Tryz.prog 18 #[.pointer (some ⟨gt, 0, none⟩)] w fun e w' => e = .returned (.int .i64 (K.length : Nat)) ∧ w = w' := by
  obtain ⟨M, C, h1⟩ := h.tk
  exact TRank_any base gt be L t k D N M v C K st w h1
end
/-- made anew -/
theorem ST.start {wI w0 w1 : World} {gs gt be L t k D nx : Nat} {FX : List (List UInt8)} {v M : Value} {C : DataW Unit} (hB : Below wI.heap.size wI w0) (hgs : wI.heap.size ≤ gs) (hs : Snd w0 gs L t k D nx FX) (ht : Tkr w1 w0.heap.size gt be L t k D 0 M v C [] 0) (hb : Below w0.heap.size w0 w1) : ST wI w0 w1 gs gt be w0.heap.size L t k D FX nx 0 v [] 0 :=
  ⟨bl hB hb hB.size, hB.size, hb.size, Nat.le_refl _, hgs, (SndO.start hs).keep hb (Nat.le_refl _), ⟨M, C, ht⟩⟩
end Go.Proofs.YtfbmdlfkipipfaaGreatDoor
namespace Go.By
end Go.By
namespace Go.Proofs.YtfbmdlfkipipfaaGreatDoor
open Go.RowKit Go.By
end Go.Proofs.YtfbmdlfkipipfaaGreatDoor
namespace Go.By
end Go.By
namespace Go.Proofs.YtfbmdlfkipipfaaGreatDoor
open Go.RowKit Go.By
end Go.Proofs.YtfbmdlfkipipfaaGreatDoor
namespace Go.By
open Go.RowKit Go.Maps Go.Proofs.YtfbmdlfkipipfaaGreatDoor
theorem HdrF.lt {T2 T1 B n : Nat} {w : World} {v : Value} {xss : List (List UInt8)} (h : HdrF T2 T1 B w v n xss) : ∀ g, v.ownBlock = some g → g < w.heap.size := by
  obtain ⟨vs, o, _⟩ := h
  exact fun g hg => (o.lt g hg).2
theorem HdrF.at {T2 T1 B n : Nat} {w : World} {q : Option Addr} {c : Nat} {xss : List (List UInt8)} (h : HdrF T2 T1 B w (.slice q n c) n xss) {j : Nat} (hj : j < n) : ∃ b o p m d xs, q = some ⟨b, o, none⟩ ∧ w.cell? ⟨b, o + j, none⟩ = some (.slice p m d) ∧ Hid (xss[j]? = some xs) ∧ Fresh T1 B w p m d xs := by
  obtain ⟨b, o, p, m, d, xs, e, hc, _, hx⟩ := h.sl2.at j hj
  obtain ⟨vs, ow, l, r⟩ := h
  have hl : vs.length = n := owns_len ow
  obtain ⟨p', m', d', xs', e1, hx', hf⟩ := r j vs[j] (List.getElem?_eq_getElem (by omega))
  have hx := hx.out
  rw [hx'] at hx; cases hx
  refine ⟨b, o, p, m, d, xs, e, hc, hx', ?_⟩
  have hc2 : w.cell? ⟨b, o + j, none⟩ = some (.slice p' m' d') := by
    rcases ow.2 with ⟨h2, _⟩ | ⟨g, cap, cur, hv, _⟩
    · cases h2; cases e
    · cases hv; cases e
      have h3 := ow.cellAt j (by omega)
      rw [Nat.zero_add, h3, List.getElem?_eq_getElem (by omega), e1]
  rw [hc2] at hc; cases hc
  exact hf
end Go.By
namespace Go.Proofs.YtfbmdlfkipipfaaGreatDoor
open Go.RowKit Go.By Gf Go.Maps
def OwnsH (W : World) (B T : Nat) (v : Value) (n : Nat) : Prop := ∃ ys, W.ownsRow B T 1 v n ys
/-- append(rows, x) -/
theorem wpList_hdr {ops : Array Oper} {rest : List Oper} {o : Oper} {a : Act} {W : World} {Q : Exit → Act → World → Prop} (hgd : o.guard = none) (s x : Operand) (ho : o.op = .call { callee := .builtin .append, args := #[s, x], argTypes := #[31, 31] })
    (B n : Nat) (v : Value) (xss : List (List UInt8)) (hs : a.eval s = v) (hH : HdrF 22 5 B W v n xss) (hn : n ≤ 1000000) (hB : B ≤ W.heap.size)
    (g : Nat) (hx : a.eval x = .slice (some ⟨g, 0, none⟩) 1 1) (q : Option Addr) (m c : Nat) (fr : Nat × Nat) (xs : List UInt8) (hg : W.heap[g]? = some (.cells #[.slice q m c] 22 fr)) (hF : Fresh 5 B W q m c xs)
    (h : ∀ v' W', HdrF 22 5 B W' v' (n + 1) (xss ++ [xs]) → OwnsH W B 22 v n → W.grownBy W' v.ownBlock → (v'.ownBlock = v.ownBlock ∨ v'.ownBlock = some W.heap.size) → wpList Tryz.prog ops Q rest (a.put o.dst v') W') : wpList Tryz.prog ops Q (o :: rest) a W := by
  obtain ⟨i0, hi0, hz0, hz1, hz2⟩ := info_parts info_bytesC
  obtain ⟨vs, ho1, hl, hr⟩ := hH
  refine wpList_append_where W hgd s x 31 ho B 22 i0 (.slice none 0 0) 1 24 Tryz.underlying31 hi0 hz0 hz1 hz2 rfl (by decide) v n vs hs ho1 ⟨g, 0, none⟩ 1 1 [.slice q m c] hx rfl (news_one hg) ones_one (by unfold maxLen; omega) (by omega) hB (by decide) ?_
  intro v' W' h1 h2 h3
  refine h v' W' (HdrF.push (v := v) h1 (by simpa using ho1.1) hl hr hF fun b cs fr hb => ?_) ⟨vs, ho1⟩ h2 h3
  rcases ho1.2 with ⟨e1, _⟩ | ⟨g', cap, cur, e1, _, hh, _⟩
  · exact h2.block b (lt_of_block hb) (fun e => by rw [e1] at e; cases e)
  · refine h2.block b (lt_of_block hb) (fun e => ?_)
    rw [e1] at e; cases e
    rw [hh] at hb; injection hb with hb; injection hb with _ hb _; exact absurd hb (by decide)
/-- what is sent by a source -/
def sentX (D nx : Nat) (k : Nat) (FX : List (List UInt8)) (m : UInt8) (j s : Nat) (xs : List UInt8) : List UInt8 := if srcC m j k = 0 then pktB m D nx xs s (combS (vecS m xs s k) FX).1 else []
def nextX (nx k : Nat) (m : UInt8) (j : Nat) : Nat := if srcC m j k = 0 then nx + 1 else nx
section
variable {wI w0 w w' : World} {gs gt be base L t k D nx N st : Nat} {FX : List (List UInt8)} {v : Value} {K : List Rw}
/-- the sender is asked to send by a source -/
theorem ST_sendA (h : ST wI w0 w gs gt be base L t k D FX nx N v K st) (hT : HalfT wI) (hnx : nx < 4294967296) {m : UInt8} {p : Option Addr} {j c s : Nat} {xs : List UInt8} (hs : Sl B8 w p j c xs) (hr : Room j) :
    Calls Tryz.prog 31 #[.pointer (some ⟨gs, 0, none⟩), SVal m p j c s] w fun e w' => ∃ q n c', e = .returned (.tuple #[.slice q n c', .int .i64 (srcC m j k)]) ∧ Fresh 5 w.heap.size w' q n c' (sentX D nx k FX m j s xs) ∧ ST wI w0 w' gs gt be base L t k D FX (nextX nx k m j) N v K st ∧ KeepS w w' := by
  unfold sentX nextX
  by_cases hm : srcC m j k = 0
  · rw [if_pos hm, if_pos hm, hm]
    exact ST_send h hT hnx hm hs hr
  · rw [if_neg hm, if_neg hm]
    refine Calls.mono (SSend_bad gs L t k D nx FX m p j c s xs w h.snd.snd hnx hm hs hr) ?_
    rintro e w1 ⟨rfl, hb⟩
    exact ⟨none, 0, 0, rfl, Fresh.none _ _ _, h.keep hb, KeepS.of hb⟩
end
end Go.Proofs.YtfbmdlfkipipfaaGreatDoor
namespace Go.By
open Go.RowKit
theorem byte_of_wf {a : Int} (h : (Lit.int .u8 a).wf = true) : ∃ x : UInt8, Value.int .u8 a = B8 x ∧ a = (x.toNat : Int) := by
  have hb := bounds_u8 h
  have e : a = ((UInt8.ofNat a.toNat).toNat : Int) := by simp; omega
  exact ⟨UInt8.ofNat a.toNat, B8_congr e, e⟩
theorem sl_of_row {w : World} {a : Option Addr} {len cap : Nat} {zs : List Int}
    (h : (a = none ∧ len = 0 ∧ cap = 0 ∧ zs = []) ∨ ∃ x, a = some x ∧ len ≤ cap ∧ cap ≤ maxLen ∧ zs.length = cap ∧ (∀ i, i < zs.length → w.cell? (x.add i) = some (.int .u8 (zs.getD i 0))) ∧ ∀ n ∈ zs, (Lit.int .u8 n).wf = true) :
    ∃ xs, Sl B8 w a len cap xs := by
  rcases h with ⟨rfl, rfl, rfl, _⟩ | ⟨x, rfl, hl, hm, hz, hc, hw⟩
  · exact ⟨[], Sl.nil0 _ _⟩
  · refine ⟨(zs.take len).map fun z => UInt8.ofNat z.toNat, ⟨by simp; omega, hl, hm, fun h => by simp at h, ?_⟩⟩
    intro i hi
    have hi' : i < zs.length := by simp at hi; omega
    obtain ⟨b, o, hx, hc'⟩ := ints_at hc (by omega)
    refine ⟨b, o, by rw [hx], ?_⟩
    have hh := hc i hi'
    rw [hx, Addr.add_lit] at hh
    rw [hh]
    have e : zs.getD i 0 = zs[i] := by simp [hi']
    rw [e]
    have hb := bounds_u8 (hw _ (List.getElem_mem hi'))
    simp
    omega
end Go.By
namespace Go.Proofs.YtfbmdlfkipipfaaGreatDoor
open Go.RowKit Go.By Go.ChangeShapes Go.WideShapes Go.Deep
section
variable {H : Type} {enc : TypeId × Value → H} {P : Program} {w : World} {base : Nat} {held : Bool}
theorem open_bytes1 {t q : TypeId} {fuel : Nat} {c4 : Value} {x : DataW H × List MemPlace} (h4 : P.underlying t = some (.slice q)) (hq : P.underlying q = some (.int .u8)) (cq : P.cellsOf q = 1) (g4 : DataW.trod enc P w base (fun _ => true) held fuel t [c4] = some x) : ∃ p m c bs, c4 = .slice p m c ∧ Sl B8 w p m c bs := by
  rcases open_ints h4 hq cq g4 with ⟨hcs, _⟩ | ⟨x, l, c, zs, hcs, _, hl, hm, hz, _, hcell, hwz⟩
  · simp at hcs
    exact ⟨none, 0, 0, [], hcs, Sl.nil0 _ _⟩
  · simp at hcs
    obtain ⟨xs, hx⟩ := sl_of_row (.inr ⟨_, rfl, hl, hm, by simpa using hz, hcell, hwz⟩)
    exact ⟨_, _, _, xs, hcs, hx⟩
end
end Go.Proofs.YtfbmdlfkipipfaaGreatDoor
namespace Go.By
open Go.RowKit
/-- a source -/
structure SrcD where
  m : UInt8
  xs : List UInt8
  s : Nat
/-- sources in memory -/
structure SlS (w : World) (p : Option Addr) (n c : Nat) (by_ : List SrcD) : Prop where
  len : by_.length = n
  max : c ≤ maxLen
  le : n ≤ c
  rs : ∀ k a, by_[k]? = some a → ∃ b o q j c', p = some ⟨b, o, none⟩ ∧ w.cell? ⟨b, o + k * 3, none⟩ = some (B8 a.m) ∧ w.cell? ⟨b, o + k * 3 + 1, none⟩ = some (.slice q j c') ∧ w.cell? ⟨b, o + k * 3 + 2, none⟩ = some (.int .u64 (a.s : Nat)) ∧ Sl B8 w q j c' a.xs ∧ a.s < 18446744073709551616
theorem SlS.keep {w w' : World} {p : Option Addr} {n c : Nat} {l : List SrcD} (h : SlS w p n c l) (hb : Below w.heap.size w w') : SlS w' p n c l :=
  ⟨h.len, h.max, h.le, fun k a hk => by
    obtain ⟨b, o, q, j, c', hp, h0, h1, h2, h3, h4⟩ := h.rs k a hk
    have hlt := lt_of_cell h0
    exact ⟨b, o, q, j, c', hp, (hb.cell (p := ⟨b, o + k * 3, none⟩) hlt).trans h0, (hb.cell (p := ⟨b, o + k * 3 + 1, none⟩) hlt).trans h1, (hb.cell (p := ⟨b, o + k * 3 + 2, none⟩) hlt).trans h2, h3.keep hb, h4⟩⟩
theorem SlS.bound {w : World} {p : Option Addr} {n c : Nat} {l : List SrcD} (h : SlS w p n c l) : n ≤ 9223372036854775807 := by have := h.le; have := h.max; unfold maxLen at this; omega
theorem SlS.at {w : World} {p : Option Addr} {n c : Nat} {l : List SrcD} (h : SlS w p n c l) {i : Nat} (hi : i < n) : ∃ b o q j c' a, p = some ⟨b, o, none⟩ ∧ Hid (l[i]? = some a) ∧ w.cell? ⟨b, o + i * 3, none⟩ = some (B8 a.m) ∧ w.cell? ⟨b, o + i * 3 + 1, none⟩ = some (.slice q j c') ∧ w.cell? ⟨b, o + i * 3 + 2, none⟩ = some (.int .u64 (a.s : Nat)) ∧ Sl B8 w q j c' a.xs ∧ a.s < 18446744073709551616 := by
  have e : l[i]? = some (l[i]'(by rw [h.len]; exact hi)) := List.getElem?_eq_getElem _
  obtain ⟨b, o, q, j, c', hp, r⟩ := h.rs i _ e
  exact ⟨b, o, q, j, c', _, hp, e, r⟩
end Go.By
namespace Go.Proofs.YtfbmdlfkipipfaaGreatDoor
open Go.RowKit Go.By Go.ChangeShapes Go.WideShapes Go.Deep
section
variable {H : Type} {enc : TypeId × Value → H} {P : Program} {w : World} {base : Nat} {held : Bool}
theorem trod_struct3 {t : TypeId} {f0 f1 f2 : Field} {fuel : Nat} {cs : List Value} {x : DataW H × List MemPlace} {spare : Nat → Bool} (ht : P.underlying t = some (.struct #[f0, f1, f2])) (h : DataW.trod enc P w base spare held fuel t cs = some x) :
    ∃ y0 y1 y2 n, cs.length = P.cellsOf t ∧ DataW.trod enc P w base spare held n f0.type ((cs.drop f0.offset).take (P.cellsOf f0.type)) = some y0 ∧
      DataW.trod enc P w base spare held n f1.type ((cs.drop f1.offset).take (P.cellsOf f1.type)) = some y1 ∧ DataW.trod enc P w base spare held n f2.type ((cs.drop f2.offset).take (P.cellsOf f2.type)) = some y2 := by
  obtain ⟨xs, n, _, rfl, hl, hlen, hf⟩ := DataW.trod_struct ht h
  match xs, hlen with
  | [y0, y1, y2], _ => exact ⟨y0, y1, y2, n, hl, by simpa using hf 0 f0 rfl, by simpa using hf 1 f1 rfl, by simpa using hf 2 f2 rfl⟩
theorem list3 {α : Type} {cs : List α} (h : cs.length = 3) : ∃ c0 c1 c2, cs = [c0, c1, c2] := by
  match cs, h with
  | [c0, c1, c2], _ => exact ⟨c0, c1, c2, rfl⟩
/-- one source, cell by cell -/
theorem open_src {t q : TypeId} {f0 f1 f2 : Field} {fuel : Nat} {cs : List Value} {x : DataW H × List MemPlace} (ht : P.underlying t = some (.struct #[f0, f1, f2])) (hone : oneCellFields P #[f0, f1, f2] = true) (hC : P.cellsOf t = 3)
    (h0 : P.underlying f0.type = some (.int .u8)) (h1 : P.underlying f1.type = some (.slice q)) (h2 : P.underlying f2.type = some (.int .u64)) (hq : P.underlying q = some (.int .u8)) (cq : P.cellsOf q = 1)
    (h : DataW.trod enc P w base (fun _ => true) held fuel t cs = some x) :
    ∃ (a : SrcD) (p : Option Addr) (m c : Nat), cs = [B8 a.m, .slice p m c, .int .u64 (a.s : Nat)] ∧ Sl B8 w p m c a.xs ∧ a.s < 18446744073709551616 := by
  obtain ⟨y0, y1, y2, n, hl, g0, g1, g2⟩ := trod_struct3 ht h
  obtain ⟨c0, c1, c2, rfl⟩ := list3 (hl.trans hC)
  obtain ⟨o0, k0⟩ := hone_of hone 0 f0 rfl
  obtain ⟨o1, k1⟩ := hone_of hone 1 f1 rfl
  obtain ⟨o2, k2⟩ := hone_of hone 2 f2 rfl
  rw [o0, k0] at g0; rw [o1, k1] at g1; rw [o2, k2] at g2
  obtain ⟨d, e0, -, w0⟩ := DataW.trod_int h0 g0
  obtain ⟨p, m, c, bs, e1, hs⟩ := open_bytes1 h1 hq cq g1
  obtain ⟨s, e2, -, w2⟩ := DataW.trod_int h2 g2
  have b0 : 0 ≤ d ∧ d ≤ 255 := by
    simp [Lit.wf, IntKind.min, IntKind.max, IntKind.signed, IntKind.bits] at w0
    omega
  have b2 : 0 ≤ s ∧ s ≤ 18446744073709551615 := by
    simp [Lit.wf, IntKind.min, IntKind.max, IntKind.signed, IntKind.bits] at w2
    omega
  obtain ⟨sn, rfl⟩ := Int.eq_ofNat_of_zero_le b2.1
  obtain ⟨xd, hxd, -⟩ := byte_of_wf w0
  simp at e0 e2
  subst e0; subst e1; subst e2

  exact ⟨⟨xd, bs, sn⟩, p, m, c, by show [_, _, _] = [B8 xd, _, _]; rw [hxd], hs, by show sn < 18446744073709551616; have := b2.2; omega⟩
theorem open_srcs {t e q : TypeId} {f0 f1 f2 : Field} {fuel : Nat} {cs : List Value} {x : DataW H × List MemPlace} (ht : P.underlying t = some (.slice e)) (he : P.underlying e = some (.struct #[f0, f1, f2])) (hone : oneCellFields P #[f0, f1, f2] = true) (hC : P.cellsOf e = 3)
    (h0 : P.underlying f0.type = some (.int .u8)) (h1 : P.underlying f1.type = some (.slice q)) (h2 : P.underlying f2.type = some (.int .u64)) (hq : P.underlying q = some (.int .u8)) (cq : P.cellsOf q = 1)
    (h : DataW.trod enc P w base (fun _ => true) held fuel t cs = some x) : ∃ p n c l, cs = [.slice p n c] ∧ SlS w p n c l := by
  rcases open_slice ht h with ⟨hcs, _⟩ | ⟨a, len, cap, m, n, D, Pl, rfl, hb, hl, hm, hmm, rfl, hx⟩
  · exact ⟨none, 0, 0, [], hcs, ⟨rfl, by simp [maxLen], Nat.le_refl _, fun k a hk => by simp at hk⟩⟩
  simp only [if_true] at hmm
  have hmm' := hmm.symm
  subst hmm'
  have hsp : 0 < len → a.spot = none := fun h => by
    obtain ⟨cs', hc, htr⟩ := hx 0 (by omega)
    obtain ⟨y, p, m', c', rfl, -⟩ := open_src he hone hC h0 h1 h2 hq cq htr
    obtain ⟨_, _, hcell⟩ := World.cells?_some hc
    have z0 := hcell 0 (by omega)
    simpa [Addr.add] using World.cell?_spot (z0.trans rfl)
  have each : ∀ k, k < len → ∃ y : SrcD, ∃ b o q j c', a = ⟨b, o, none⟩ ∧ w.cell? ⟨b, o + k * 3, none⟩ = some (B8 y.m) ∧ w.cell? ⟨b, o + k * 3 + 1, none⟩ = some (.slice q j c') ∧ w.cell? ⟨b, o + k * 3 + 2, none⟩ = some (.int .u64 (y.s : Nat)) ∧ Sl B8 w q j c' y.xs ∧ y.s < 18446744073709551616 := by
    intro k hk
    obtain ⟨cs', hc, htr⟩ := hx k (by omega)
    obtain ⟨y, p, m', c', rfl, hs, hb1⟩ := open_src he hone hC h0 h1 h2 hq cq htr
    obtain ⟨_, _, hcell⟩ := World.cells?_some hc
    rw [hC] at hcell
    obtain ⟨b, o, spot⟩ := a
    have z0 := hcell 0 (by omega)
    have hspot : spot = none := hsp (by omega)
    subst hspot
    have z1 := hcell 1 (by omega); have z2 := hcell 2 (by omega)
    simp only [add_plain] at z0 z1 z2
    exact ⟨y, b, o, p, m', c', rfl, z0, z1, z2, hs, hb1⟩
  obtain ⟨f, hf⟩ : ∃ f : Nat → SrcD, ∀ k, k < len → ∃ b o q j c', a = ⟨b, o, none⟩ ∧ w.cell? ⟨b, o + k * 3, none⟩ = some (B8 (f k).m) ∧ w.cell? ⟨b, o + k * 3 + 1, none⟩ = some (.slice q j c') ∧ w.cell? ⟨b, o + k * 3 + 2, none⟩ = some (.int .u64 ((f k).s : Nat)) ∧ Sl B8 w q j c' (f k).xs ∧ (f k).s < 18446744073709551616 :=
    ⟨fun k => if hk : k < len then Classical.choose (each k hk) else ⟨0, [], 0⟩, fun k hk => by simp only [dif_pos hk]; exact Classical.choose_spec (each k hk)⟩
  refine ⟨some a, len, cap, (List.range len).map f, rfl, ⟨by simp, hm, hl, fun k y hk => ?_⟩⟩
  rw [List.getElem?_map] at hk
  cases hr : (List.range len)[k]? with
  | none => rw [hr] at hk; simp at hk
  | some k' =>
    rw [hr] at hk
    obtain ⟨hk1, hk2⟩ := List.getElem?_eq_some_iff.1 hr
    simp at hk1 hk2 hk
    subst hk2; subst hk
    obtain ⟨b, o, q, j, c', e, r⟩ := hf k hk1
    exact ⟨b, o, q, j, c', by rw [e], r⟩
end
end Go.Proofs.YtfbmdlfkipipfaaGreatDoor
namespace Go.Proofs.YtfbmdlfkipipfaaGreatDoor
open Go.RowKit Go.By
/-- a plan is gone through here: none that may be, or a small one -/
def small19 (l s n : Int) : Bool := if checkS l s n = 0 then decide (n ≤ 12) && decide (s ≤ 20) else true
set_option maxRecDepth 100000 in
set_option maxHeartbeats 1000000 in
theorem Small19_any (l s n d : Int) (w : World) (hl2 : l ≤ 9223372036854775807) :
    Calls Tryz.prog 29 #[.agg #[.int .i64 l, .int .i64 s, .int .i64 n, .int .u32 d]] w fun e w' => e = .returned (.bool (small19 l s n)) ∧ Below w.heap.size w w' := by
  have HC := Lib.hid (fun w => Check_any l s n d w hl2)
  have HS : Hid (small19 l s n = if checkS l s n = 0 then decide (n ≤ 12) && decide (s ≤ 20) else true) := rfl
  generalize small19 l s n = R at *
  generalize checkS l s n = C at *
  by_cases hc : C = 0
  · subst hc
    by_cases hn : n ≤ 12
    · by_cases hs : s ≤ 20
      · have HR : Hid (R = true) := by show _ = _; rw [HS.out, if_pos rfl, decide_eq_true hn, decide_eq_true hs]; rfl
        clear HS
        go_enter Tryz.func29, Tryz.ntmps29
        go_wp2_with fail
        refine Calls.mono (HC.out _) ?_
        rintro e w1 ⟨rfl, hb⟩
        obtain ⟨hb1, h1, hsz⟩ := one_of hb
        obtain ⟨c0, c1, c2, c3⟩ := cells_four h1
        have HB := Lib.hid hb1
        clear hb hb1
        go_wp2
        go_ret
        exact ⟨by rw [HR.out]; first | rfl | (simp only [decide_eq_true hs]; rfl), HB.out⟩
      · have hs' : ¬ s ≤ 20 := by omega
        have HR : Hid (R = false) := by show _ = _; rw [HS.out, if_pos rfl, decide_eq_true hn, decide_eq_false hs']; rfl
        clear HS
        go_enter Tryz.func29, Tryz.ntmps29
        go_wp2_with fail
        refine Calls.mono (HC.out _) ?_
        rintro e w1 ⟨rfl, hb⟩
        obtain ⟨hb1, h1, hsz⟩ := one_of hb
        obtain ⟨c0, c1, c2, c3⟩ := cells_four h1
        have HB := Lib.hid hb1
        clear hb hb1
        go_wp2
        go_ret
        exact ⟨by rw [HR.out]; first | rfl | (simp only [show decide (s ≤ 20) = false from decide_eq_false (by omega)]; rfl), HB.out⟩
    · have HR : Hid (R = false) := by show _ = _; rw [HS.out, if_pos rfl, decide_eq_false hn]; rfl
      clear HS
      go_enter Tryz.func29, Tryz.ntmps29
      go_wp2_with fail
      refine Calls.mono (HC.out _) ?_
      rintro e w1 ⟨rfl, hb⟩
      obtain ⟨hb1, h1, hsz⟩ := one_of hb
      obtain ⟨c0, c1, c2, c3⟩ := cells_four h1
      have HB := Lib.hid hb1
      clear hb hb1
      go_wp2
      go_ret
      exact ⟨by rw [HR.out]; rfl, HB.out⟩
  · have hz : (C != 0) = true := bne_iff_ne.2 hc
    have HR : Hid (R = true) := by show _ = _; rw [HS.out, if_neg hc]
    clear HS hc
    go_enter Tryz.func29, Tryz.ntmps29
    go_wp2_with fail
    refine Calls.mono (HC.out _) ?_
    rintro e w1 ⟨rfl, hb⟩
    obtain ⟨hb1, h1, hsz⟩ := one_of hb
    have HB := Lib.hid hb1
    clear hb hb1
    go_wp2
    go_ret
    exact ⟨by rw [HR.out]; rfl, HB.out⟩
end Go.Proofs.YtfbmdlfkipipfaaGreatDoor
namespace Go.Proofs.YtfbmdlfkipipfaaGreatDoor
open Go.RowKit Go.By Gf Go.Maps
theorem read_roomT {L t k D : Nat} {xs : List UInt8} (hP : POK L t k D) (h : readC k t D xs = 0) : xs.length ≤ 140737488355328 := by
  unfold readC at h
  split at h
  · rename_i hh; exact absurd h hh
  · split at h
    · cases h
    · rename_i hl
      have hl : xs.length = lenP (xs.getD 1 0) k t := by
        rcases Nat.lt_trichotomy xs.length (lenP (xs.getD 1 0) k t) with g | g | g
        · exact absurd (Nat.ne_of_lt g) hl
        · exact g
        · exact absurd (Nat.ne_of_gt g) hl
      rw [hl]
      unfold lenP widS
      have := hP.k2; have := hP.t2
      split
      · omega
      · split <;> omega
end Go.Proofs.YtfbmdlfkipipfaaGreatDoor
namespace Go.Proofs.YtfbmdlfkipipfaaGreatDoor
open Go.RowKit Go.By
theorem info_parcel : (Tryz.prog.info? 174).map (fun i => (i.zero, i.size, i.bytes)) = some (some (.agg #[.slice none 0 0, .int .i64 0]), 2, 32) := by kernel_rfl
theorem zero_parcel : ∀ w, (zeroValue 174).run Tryz.prog w = .ok (.agg #[.slice none 0 0, .int .i64 0]) w := fun w => by
  obtain ⟨i0, hi, hz0, hz1, hz2⟩ := info_parts info_parcel
  simp [zeroValue, typeInfo, hi, hz0]
set_option maxRecDepth 100000 in
set_option maxHeartbeats 2000000 in
theorem Delete_any (base g n c i : Nat) (us : List (Value × Int)) (w : World) (h : w.ownsRow base 174 2 (.slice (some ⟨g, 0, none⟩) n c) n (pcs us)) (hi : i < n) (h1 : ∀ u, u ∈ us → u.1.oneCell' = true) :
    Calls Tryz.prog 187 #[.slice (some ⟨g, 0, none⟩) n c, .int .i64 i, .int .i64 ((i : Int) + 1)] w fun e w' =>
      e = .returned (.slice (some ⟨g, 0, none⟩) (i + (n - (i + 1))) c) ∧ w'.ownsRow base 174 2 (.slice (some ⟨g, 0, none⟩) (n - 1) c) (n - 1) (pcs (us.take i ++ us.drop (i + 1))) ∧ w.grownBy w' (some g) := by
  obtain ⟨i0, hi0, hz0, hz1, hz2⟩ := info_parts info_parcel
  have hul : us.length = n := by have := h.1; rw [pcs_length] at this; omega
  obtain ⟨g', cur, hq, hg, hh, hnc, hcm, hcl, hct⟩ := owns2_open h (by omega)
  cases hq
  unfold maxLen at hcm
  have hic : i ≤ c := by omega
  have hjc : i + 1 ≤ c := by omega
  have hwr : IntKind.i64.wrap ((i : Int) + 1) = (i : Int) + 1 := by rw [IntKind.wrap_i64]; omega
  have hp0 : (0 : Int) ≤ (i : Int) + 1 := by omega
  have hp1 : (i : Int) + 1 ≤ (n : Int) := by omega
  have hp2 : ((i : Int) + 1).toNat = i + 1 := by omega
  have hne : ((i : Int) == (i : Int) + 1) = false := by simp; omega
  obtain ⟨news, hnews⟩ : ∃ news, news = pcs (us.drop (i + 1)) := ⟨_, rfl⟩
  have hlen : news.length = (n - (i + 1)) * 2 := by rw [hnews, pcs_length, List.length_drop, hul]
  have hcut : cur.take (n * 2) = pcs us := hct
  have hnc2 : ∀ j v, news[j]? = some v → cur[(i + 1) * 2 + j]? = some v := by
    intro j v hj
    rw [hnews, pcs_drop, ← hcut, List.getElem?_drop, List.getElem?_take] at hj
    split at hj
    · exact hj
    · cases hj
  obtain ⟨A, hA, hsrc⟩ : ∃ A : Addr, (if c = i + 1 then some (⟨g, 0, none⟩ : Addr) else some ⟨g, (i + 1) * 2, none⟩) = some A ∧ Hid (∀ t u, news[t]? = some u → w.drew.cell? (A.add t) = some u) := by
    by_cases h : c = i + 1
    · refine ⟨⟨g, 0, none⟩, by simp [h], fun t u hu => ?_⟩
      have h0 : news.length = 0 := by rw [hlen]; omega
      rw [List.length_eq_zero_iff.1 h0] at hu
      simp at hu
    · refine ⟨⟨g, (i + 1) * 2, none⟩, by simp [h], fun t u hu => ?_⟩
      rw [Addr.add_lit]
      show w.cell? _ = _
      rw [cell_arr hh]
      exact hnc2 t u hu
  have s1 : Hid (news.length = (n - (i + 1)) * 2) := hlen
  have s2 : Hid (∀ u ∈ news, u.oneCell' = true) := by
    intro u hu
    rw [hnews] at hu
    exact pcs_one (fun x hx => h1 x (List.mem_of_mem_drop hx)) u hu
  have s3 : Hid (∀ t, t < news.length → (w.drew.cell? ⟨g, 0 + i * 2 + t, none⟩).isSome = true ∧ w.drew.frozen? ⟨g, 0 + i * 2 + t, none⟩ = false) := by
    intro t ht
    rw [hlen] at ht
    exact ⟨by show (w.cell? _).isSome = true; rw [cell_arr hh, List.getElem?_eq_getElem (by omega)]; rfl, frozen_arr (w := w) hh _⟩
  obtain ⟨W1, hW1⟩ : ∃ W1, W1 = w.drew.setCells g (0 + i * 2) news := ⟨_, rfl⟩
  have hh1 : W1.heap[g]? = some (.cells (cur.take (i * 2) ++ news ++ cur.drop (i * 2 + news.length)).toArray 174 (0, 0)) := by
    rw [hW1, Nat.zero_add]; exact heap_setCells news (i * 2) w.drew cur hh (by omega)
  have hgr1 : w.grownBy W1 (some g) := by rw [hW1]; exact grown_trans (grownBy_drew w _) (grownBy_setCells g _ _ _)
  have hlen1 : (cur.take (i * 2) ++ news ++ cur.drop (i * 2 + news.length)).length = c * 2 := by
    simp only [List.length_append, List.length_take, List.length_drop]; omega
  obtain ⟨cur1, hcur1⟩ : ∃ cur1, cur1 = cur.take (i * 2) ++ news ++ cur.drop (i * 2 + news.length) := ⟨_, rfl⟩
  rw [← hcur1] at hh1 hlen1
  have hclr : ∀ ty cc, (Builtin.clear_ #[171] ty #[.slice (some ⟨g, (i + (n - (i + 1))) * 2, none⟩) (n - (i + (n - (i + 1)))) cc]).run Tryz.prog W1 = .ok (.tuple #[]) (W1.setCells g ((n - 1) * 2) [.slice none 0 0, .int .i64 0]) := fun ty cc => by
    have e1 : n - (i + (n - (i + 1))) = 1 := by omega
    have e2 : i + (n - (i + 1)) = n - 1 := by omega
    rw [e1, e2]
    exact run_clear_two W1 _ _ ty _ _ _ Tryz.underlying171 zero_parcel rfl rfl rfl g ((n - 1) * 2) cc (fun j hj => by rw [cell_arr hh1, List.getElem?_eq_getElem (by omega)]; rfl) (fun j hj => frozen_arr hh1 _)
  have hW : Hid (W1 = w.drew.setCells g (0 + i * 2) news) := hW1
  have FIN : Hid ((W1.setCells g ((n - 1) * 2) [.slice none 0 0, .int .i64 0]).ownsRow base 174 2 (.slice (some ⟨g, 0, none⟩) (n - 1) c) (n - 1) (pcs (us.take i ++ us.drop (i + 1))) ∧ w.grownBy (W1.setCells g ((n - 1) * 2) [.slice none 0 0, .int .i64 0]) (some g)) := by
    refine ⟨owns2_shut hg (heap_setCells _ _ _ _ hh1 (by rw [hlen1]; simp; omega)) (by omega) (by unfold maxLen; omega) ?_ ?_, grown_trans hgr1 (grownBy_setCells g _ _ _)⟩
    · simp only [List.length_append, List.length_take, List.length_drop, hlen1, List.length_cons, List.length_nil]; omega
    · rw [List.append_assoc, List.take_append_of_le_length (by rw [List.length_take, hlen1]; omega), List.take_take, Nat.min_self, hcur1, List.append_assoc, pcs_append, pcs_take, ← hcut, List.take_take, show min (i * 2) (n * 2) = i * 2 by omega,
        List.take_append, List.take_take, List.length_take, show min ((n - 1) * 2) (i * 2) = i * 2 by omega, show (n - 1) * 2 - min (i * 2) cur.length = news.length by omega, List.take_append_of_le_length (Nat.le_refl _), List.take_length, hnews]
  clear h hh hh1 hcut hct hnews hlen hnc2 hgr1 hcur1 hlen1 hW1 hul hg hcl h1
  go_enter Tryz.func187, Tryz.ntmps187
  go_wp2_with fail
  go_region_law (refine step_append_room rfl (.tmp 22) (.tmp 25) 171 rfl 174 i0 2 Tryz.underlying171 hi0 hz1 g 0 i c (by simp [Act.eval, Act.put]) A (n - (i + 1)) (c - (i + 1)) news (by simp [Act.eval, Act.put]) s1.out hsrc.out s2.out (by omega) s3.out ?_; rw [← hW.out])
  go_wp2
  go_ret
  exact ⟨rfl, FIN.out.1, FIN.out.2⟩
end Go.Proofs.YtfbmdlfkipipfaaGreatDoor
namespace Go.Proofs.YtfbmdlfkipipfaaGreatDoor
open Go.RowKit Go.By
theorem owns2_someA {w : World} {base T n c g : Nat} {L : List Value} (h : w.ownsRow base T 2 (.slice (some ⟨g, 0, none⟩) n c) n L) :
    ∃ cur, base ≤ g ∧ w.heap[g]? = some (.cells (List.toArray cur) T (0, 0)) ∧ n ≤ c ∧ c ≤ maxLen ∧ cur.length = c * 2 ∧ cur.take (n * 2) = L := by
  rcases h.2 with ⟨h1, _⟩ | ⟨g', cap, cur, hv, hg, hh, h1, h2, h3, h4⟩
  · simp at h1
  · obtain ⟨rfl, rfl⟩ : g = g' ∧ c = cap := by simpa using hv
    exact ⟨cur.toList, hg, by simpa using hh, h1, h2, by simpa using h3, by simpa using h4⟩
set_option maxRecDepth 100000 in
set_option maxHeartbeats 2000000 in
theorem InsertEnd_any (base g n c vb : Nat) (us : List (Value × Int)) (u : Value × Int) (w : World) (h : w.ownsRow base 174 2 (.slice (some ⟨g, 0, none⟩) n c) n (pcs us)) (hroom : n + 1 ≤ c) (hu : u.1.oneCell' = true)
    (hv : w.heap[vb]? = some (.cells #[u.1, .int .i64 u.2] 174 (0, 0))) :
    Calls Tryz.prog 188 #[.slice (some ⟨g, 0, none⟩) n c, .int .i64 n, .slice (some ⟨vb, 0, none⟩) 1 1] w fun e w' =>
      e = .returned (.slice (some ⟨g, 0, none⟩) (n + 1) c) ∧ w'.ownsRow base 174 2 (.slice (some ⟨g, 0, none⟩) (n + 1) c) (n + 1) (pcs (us ++ [u])) ∧ w.grownBy w' (some g) := by
  obtain ⟨i0, hi0, hz0, hz1, hz2⟩ := info_parts info_parcel
  obtain ⟨cur, hg, hh, hnc, hcm, hcl, hct⟩ := owns2_someA h
  have hr := fun ty => run_append_room_cells (P := Tryz.prog) (w := w) 171 ty 174 i0 Tryz.underlying171 hi0 g 0 n c ⟨vb, 0, none⟩ 1 1 [u.1, .int .i64 u.2] (by rw [hz1]; rfl)
    (fun j x hj => by
      rw [Addr.add_lit, Nat.zero_add, cell_of_row _ _ j _ _ _ hv]
      match j with
      | 0 => simpa using hj
      | 1 => simpa using hj
      | j + 2 => simp at hj)
    (by intro x hx; simp at hx; rcases hx with rfl | rfl; exact hu; rfl) hroom
    (fun j hj => by rw [hz1, cell_arr hh, List.getElem?_eq_getElem (by simp at hj; omega)]; rfl) (fun j hj => frozen_arr hh _)
  rw [hz1, Nat.zero_add] at hr
  have HR := Lib.hid hr
  have FIN : Hid ((w.setCells g (n * 2) [u.1, .int .i64 u.2]).ownsRow base 174 2 (.slice (some ⟨g, 0, none⟩) (n + 1) c) (n + 1) (pcs (us ++ [u])) ∧ w.grownBy (w.setCells g (n * 2) [u.1, .int .i64 u.2]) (some g)) := by
    refine ⟨owns2_shut hg (heap_setCells _ _ _ _ hh (by simp; omega)) hroom hcm ?_ ?_, grownBy_setCells g _ _ _⟩
    · simp only [List.length_append, List.length_take, List.length_drop, hcl, List.length_cons, List.length_nil]; omega
    · rw [pcs_append, ← hct, List.take_append_of_le_length (by simp only [List.length_append, List.length_take, List.length_cons, List.length_nil]; omega), List.take_of_length_le (by simp only [List.length_append, List.length_take, List.length_cons, List.length_nil]; omega)]
      rfl
  unfold maxLen at hcm
  clear h hh hct hr hv hcl hu
  go_enter Tryz.func188, Tryz.ntmps188
  go_wp2_with (at_builtin; refine Lib.wpList_append_run _ rfl _ _ _ _ rfl _ _ rfl rfl _ _ (HR.out _) ?_)
  go_ret
  exact ⟨rfl, FIN.out.1, FIN.out.2⟩
set_option maxRecDepth 100000 in
set_option maxHeartbeats 4000000 in
theorem InsertMid_any (base g n c i vb : Nat) (us : List (Value × Int)) (u : Value × Int) (w : World) (h : w.ownsRow base 174 2 (.slice (some ⟨g, 0, none⟩) n c) n (pcs us)) (hi : i < n) (hroom : n + 1 ≤ c) (h1 : ∀ x, x ∈ us → x.1.oneCell' = true) (hu : u.1.oneCell' = true)
    (hv : w.heap[vb]? = some (.cells #[u.1, .int .i64 u.2] 174 (0, 0))) (hvb : vb ≠ g) :
    Calls Tryz.prog 188 #[.slice (some ⟨g, 0, none⟩) n c, .int .i64 i, .slice (some ⟨vb, 0, none⟩) 1 1] w fun e w' =>
      e = .returned (.slice (some ⟨g, 0, none⟩) (n + 1) c) ∧ w'.ownsRow base 174 2 (.slice (some ⟨g, 0, none⟩) (n + 1) c) (n + 1) (pcs (us.take i ++ u :: us.drop i)) ∧ w.grownBy w' (some g) := by
  obtain ⟨i0, hi0, hz0, hz1, hz2⟩ := info_parts info_parcel
  have hul : us.length = n := by have := h.1; rw [pcs_length] at this; omega
  obtain ⟨cur, hg, hh, hnc, hcm, hcl, hct⟩ := owns2_someA h
  have hsz : (Tryz.prog.info? 174).map (·.size) = some 2 := by rw [hi0]; simp [hz1]
  have hov : ∀ lb cb, (callFunc 203 #[.slice (some ⟨vb, 0, none⟩) 1 1, .slice (some ⟨g, (i + 1) * 2, none⟩) lb cb]).run Tryz.prog w = .ok (.value (.bool false)) w := fun lb cb => by
    rw [run_callFunc_extern Tryz.func203 (by kernel_rfl) (by kernel_rfl) (by kernel_rfl) (e := Extern.SlicesOverlaps.overlaps #[171, 171] #[4]) (by kernel_rfl),
      Lib.run_overlaps_apart w 171 4 174 Tryz.underlying171 2 (fun w => by simp [Go.sizeOf, typeInfo, hi0, hz1]) ⟨vb, 0, none⟩ ⟨g, (i + 1) * 2, none⟩ 1 1 lb cb hvb 174 174 2 (c * 2)
        (by simp [World.shape?, hv]) (by simp [World.shape?, hh, hcl]) (by omega) (frozen_of_row _ _ 0 _ _ hv) (frozen_of_row _ _ 2 _ _ hv)]
    rfl
  have hw1 : IntKind.i64.wrap ((i : Int) + 1) = (i : Int) + 1 := by rw [IntKind.wrap_i64]; unfold maxLen at hcm; omega
  have hb1 : (0 : Int) ≤ (i : Int) + 1 := by omega
  have htn : ((i : Int) + 1).toNat = i + 1 := by omega
  have hb2 : ¬ (c = i + 1) := by omega
  have hb4 : ¬ (c = i) := by omega
  have hb5 : (i : Int) + 1 ≤ (n : Int) + 1 := by omega
  have hb6 : (i : Int) ≤ (n : Int) + 1 := by omega
  have hb7 : i + 1 ≤ n + 1 := by omega
  have hb8 : i ≤ n + 1 := by omega
  have hz2' : ((i : Int) == (n : Int)) = false := by simp; omega
  obtain ⟨mv, hmv⟩ : ∃ mv, mv = pcs (us.drop i) := ⟨_, rfl⟩
  have hml : mv.length = (n - i) * 2 := by rw [hmv, pcs_length, List.length_drop, hul]
  have hmc : ∀ j v, mv[j]? = some v → cur[i * 2 + j]? = some v := by
    intro j v hj
    rw [hmv, pcs_drop, ← hct, List.getElem?_drop, List.getElem?_take] at hj
    split at hj
    · exact hj
    · cases hj
  have hcp1 : ∀ ty dc sc, (Builtin.copy_ #[171, 171] ty #[.slice (some ⟨g, (i + 1) * 2, none⟩) (n - i) dc, .slice (some ⟨g, i * 2, none⟩) (n + 1 - i) sc]).run Tryz.prog w.drew = .ok (goInt ((n - i : Nat) : Int)) (w.drew.setCells g ((i + 1) * 2) mv) := fun ty dc sc => by
    have hmin : Nat.min (n + 1 - i) (n - i) = n - i := by simp only [Nat.min_def]; split <;> omega
    have := run_copy_two (P := Tryz.prog) w.drew 171 171 ty 174 g ((i + 1) * 2) (n - i) dc ⟨g, i * 2, none⟩ (n + 1 - i) sc mv Tryz.underlying171 hsz (by rw [hmin]; exact hml)
      (fun j v hj => by rw [Addr.add_lit]; show w.cell? _ = _; rw [cell_arr hh]; exact hmc j v hj)
      (fun j hj => by show (w.cell? _).isSome = true; rw [cell_arr hh, List.getElem?_eq_getElem (by omega)]; rfl) (fun j hj => frozen_arr (w := w) hh _)
      (by rw [hmv]; exact pcs_one (fun x hx => h1 x (List.mem_of_mem_drop hx)))
    rw [hmin] at this
    exact this
  obtain ⟨W1, hW1⟩ : ∃ W1, W1 = w.drew.setCells g ((i + 1) * 2) mv := ⟨_, rfl⟩
  have hh1 : W1.heap[g]? = some (.cells (cur.take ((i + 1) * 2) ++ mv ++ cur.drop ((i + 1) * 2 + mv.length)).toArray 174 (0, 0)) := by
    rw [hW1]; exact heap_setCells mv ((i + 1) * 2) w.drew cur hh (by omega)
  have hgr1 : w.grownBy W1 (some g) := by rw [hW1]; exact grown_trans (grownBy_drew w _) (grownBy_setCells g _ _ _)
  have hvw : W1.heap[vb]? = some (.cells #[u.1, .int .i64 u.2] 174 (0, 0)) := by
    rw [hgr1.block vb (lt_of_cell (cell_of_row _ _ 0 _ _ _ hv)) (by simpa using hvb)]; exact hv
  have hlen1 : (cur.take ((i + 1) * 2) ++ mv ++ cur.drop ((i + 1) * 2 + mv.length)).length = c * 2 := by
    simp only [List.length_append, List.length_take, List.length_drop]; omega
  obtain ⟨cur1, hcur1⟩ : ∃ cur1, cur1 = cur.take ((i + 1) * 2) ++ mv ++ cur.drop ((i + 1) * 2 + mv.length) := ⟨_, rfl⟩
  rw [← hcur1] at hh1 hlen1
  have hcp2 : ∀ ty dc, (Builtin.copy_ #[171, 171] ty #[.slice (some ⟨g, i * 2, none⟩) (n + 1 - i) dc, .slice (some ⟨vb, 0, none⟩) 1 1]).run Tryz.prog W1 = .ok (goInt 1) (W1.setCells g (i * 2) [u.1, .int .i64 u.2]) := fun ty dc => by
    have hmin : Nat.min 1 (n + 1 - i) = 1 := by simp only [Nat.min_def]; split <;> omega
    have := run_copy_two (P := Tryz.prog) W1 171 171 ty 174 g (i * 2) (n + 1 - i) dc ⟨vb, 0, none⟩ 1 1 [u.1, .int .i64 u.2] Tryz.underlying171 hsz (by rw [hmin]; rfl)
      (fun j x hj => by
        rw [Addr.add_lit, Nat.zero_add, cell_of_row _ _ j _ _ _ hvw]
        match j with
        | 0 => simpa using hj
        | 1 => simpa using hj
        | j + 2 => simp at hj)
      (fun j hj => by rw [cell_arr hh1, List.getElem?_eq_getElem (by simp at hj; omega)]; rfl) (fun j hj => frozen_arr hh1 _)
      (by intro x hx; simp at hx; rcases hx with rfl | rfl; exact hu; rfl)
    rw [hmin] at this
    exact this
  rw [← hW1] at hcp1
  have FIN : Hid ((W1.setCells g (i * 2) [u.1, .int .i64 u.2]).ownsRow base 174 2 (.slice (some ⟨g, 0, none⟩) (n + 1) c) (n + 1) (pcs (us.take i ++ u :: us.drop i)) ∧ w.grownBy (W1.setCells g (i * 2) [u.1, .int .i64 u.2]) (some g)) := by
    refine ⟨owns2_shut hg (heap_setCells _ _ _ _ hh1 (by rw [hlen1]; simp; omega)) hroom hcm ?_ ?_, grown_trans hgr1 (grownBy_setCells g _ _ _)⟩
    · simp only [List.length_append, List.length_take, List.length_drop, hlen1, List.length_cons, List.length_nil]; omega
    · have e1 : cur1.take (i * 2) = cur.take (i * 2) := by
        rw [hcur1, List.append_assoc, List.take_append_of_le_length (by rw [List.length_take]; omega), List.take_take, show min (i * 2) ((i + 1) * 2) = i * 2 by omega]
      have e2 : cur1.drop (i * 2 + [u.1, Value.int .i64 u.2].length) = mv ++ cur.drop ((i + 1) * 2 + mv.length) := by
        rw [hcur1, List.append_assoc]
        exact List.drop_left' (by rw [List.length_take, List.length_cons, List.length_cons, List.length_nil]; omega)
      rw [e1, e2, ← List.append_assoc, List.take_left' (by simp only [List.length_append, List.length_take, List.length_cons, List.length_nil, hml]; omega), pcs_append, pcs_cons, pcs_take, ← hmv, ← hct, List.take_take, show min (i * 2) (n * 2) = i * 2 by omega]
      simp
  unfold maxLen at hcm
  have HC1 := Lib.hid hcp1; have HC2 := Lib.hid hcp2
  clear h hh hct hv hcl hu hcp1 hcp2 hh1 hgr1 hvw hcur1 hlen1 hW1 hmv hml hmc h1 hul hg
  go_enter Tryz.func188, Tryz.ntmps188
  go_wp2_with (simp only [hov])
  go_region_law (refine step_copy_runI rfl _ _ 171 171 rfl _ _ (by simp [Act.eval, Act.put]) (by simp [Act.eval, Act.put]) (HC1.out _ (c - (i + 1)) (c - i)) ?_)
  have hc2 := HC2.out 3 (c - i)
  go_wp2
  go_ret
  exact ⟨rfl, FIN.out.1, FIN.out.2⟩
end Go.Proofs.YtfbmdlfkipipfaaGreatDoor
namespace Go.By
open Go.RowKit
/-- a slice value that owns bytes -/
def Bt (T1 : Nat) (w : World) (base : Nat) (v : Value) (xs : List UInt8) : Prop := ∃ q m c, v = .slice q m c ∧ w.ownsRow base T1 1 (.slice q m c) m (xs.map B8)
/-- a parcel in memory: its slice, where it came from, its bytes -/
abbrev Par := Value × Int × List UInt8
def parOf (t : Par) : Value × Int := (t.1, t.2.1)
def parIs (t : Par) : List UInt8 × Int := (t.2.2, t.2.1)
def blks (ts : List Par) : List Nat := ts.filterMap fun t => t.1.ownBlock
structure Pl (TP T1 : Nat) (w : World) (base : Nat) (v : Value) (n : Nat) (ts : List Par) : Prop where
  len : ts.length = n
  own : w.ownsRow base TP 2 v n (pcs (ts.map parOf))
  row : ∀ t, t ∈ ts → Bt T1 w base t.1 t.2.2
  dis : (blks ts).Nodup
section
variable {TP T1 : Nat} {w w' : World} {base n : Nat} {v : Value} {ts : List Par}
theorem Bt.keep {xs : List UInt8} (h : Bt T1 w base v xs) (hb : Below w.heap.size w w') : Bt T1 w' base v xs := by
  obtain ⟨q, m, c, rfl, h⟩ := h; exact ⟨q, m, c, rfl, owns_keep h hb⟩
theorem Bt.one {xs : List UInt8} (h : Bt T1 w base v xs) : v.oneCell' = true := by obtain ⟨q, m, c, rfl, h⟩ := h; rfl
theorem Bt.lt {xs : List UInt8} (h : Bt T1 w base v xs) : ∀ b, v.ownBlock = some b → base ≤ b ∧ b < w.heap.size := by
  obtain ⟨q, m, c, rfl, h⟩ := h; exact h.lt
/-- what is written into the array of parcels leaves the bytes -/
theorem Bt.grown {xs : List UInt8} {u : Value} {L : List Value} {m : Nat} (h : Bt T1 w base v xs) (hT : T1 ≠ TP) (ho : w.ownsRow base TP 2 u m L) (hg : w.grownBy w' u.ownBlock) : Bt T1 w' base v xs := by
  obtain ⟨q, m, c, rfl, h⟩ := h; exact ⟨q, m, c, rfl, owns_kept h hg (owns_ne h ho hT)⟩
theorem Pl.keep (h : Pl TP T1 w base v n ts) (hb : Below w.heap.size w w') : Pl TP T1 w' base v n ts :=
  ⟨h.len, owns_keepv h.own hb, fun t ht => (h.row t ht).keep hb, h.dis⟩
theorem Pl.ones (h : Pl TP T1 w base v n ts) : ∀ u, u ∈ ts.map parOf → u.1.oneCell' = true := by
  intro u hu
  obtain ⟨t, ht, rfl⟩ := List.mem_map.1 hu
  exact (h.row t ht).one
theorem blks_append (a b : List Par) : blks (a ++ b) = blks a ++ blks b := by simp [blks]
theorem blks_sub {a b : List Par} (h : a.Sublist b) : (blks a).Sublist (blks b) := h.filterMap _
theorem Pl.blt (h : Pl TP T1 w base v n ts) : ∀ b, b ∈ blks ts → base ≤ b ∧ b < w.heap.size := by
  intro b hb
  obtain ⟨t, ht, e⟩ := List.mem_filterMap.1 hb
  exact (h.row t ht).lt b e
/-- another order, or fewer, of the same parcels -/
theorem Pl.turn {u : Value} {m : Nat} {ss : List Par} (h : Pl TP T1 w base v n ts) (hT : T1 ≠ TP) (hm : ∀ t, t ∈ ss → t ∈ ts) (hd : (blks ss).Nodup) (hl : ss.length = m) (ho : w'.ownsRow base TP 2 u m (pcs (ss.map parOf))) (hg : w.grownBy w' v.ownBlock) : Pl TP T1 w' base u m ss :=
  ⟨hl, ho, fun t ht => (h.row t (hm t ht)).grown hT h.own hg, hd⟩
/-- one more, with bytes of its own in new memory; 'w1' is the world in which the clone is made, 'w2' behind it -/
theorem Pl.push {w1 w2 : World} {u x : Value} {k : Int} {xs : List UInt8} (h : Pl TP T1 w1 base v n ts) (hT : T1 ≠ TP) (hx : Bt T1 w2 w1.heap.size x xs) (hbase : base ≤ w1.heap.size) (hb : Below w1.heap.size w1 w2) (ho : w'.ownsRow base TP 2 u (n + 1) (pcs (ts.map parOf) ++ [x, .int .i64 k])) (hg : w2.grownBy w' v.ownBlock) :
    Pl TP T1 w' base u (n + 1) (ts ++ [(x, k, xs)]) := by
  have h2 := h.keep hb
  have hx2 : Bt T1 w2 base x xs := by obtain ⟨q, m, c, rfl, h⟩ := hx; exact ⟨q, m, c, rfl, owns_mono h hbase⟩
  refine ⟨by simp [h.len], ?_, fun t ht => ?_, ?_⟩
  · rw [List.map_append, pcs_append]; exact ho
  · rcases List.mem_append.1 ht with ht | ht
    · exact (h2.row t ht).grown hT h2.own hg
    · simp at ht; subst ht; exact hx2.grown hT h2.own hg
  · rw [blks_append, List.nodup_append]
    refine ⟨h.dis, ?_, ?_⟩
    · cases hb : x.ownBlock <;> simp [blks, hb]
    · intro a ha b hb' e
      subst e
      obtain ⟨t, ht, e⟩ := List.mem_filterMap.1 hb'
      simp at ht; subst ht
      have := (hx.lt a e).1
      have := (h.blt a ha).2
      omega
/-- one is put in another's place, with bytes of its own in new memory -/
theorem Pl.swap {w1 w2 : World} {x : Value} {k : Int} {xs : List UInt8} {i : Nat} (h : Pl TP T1 w1 base v n ts) (hi : i < n) (hT : T1 ≠ TP) (hx : Bt T1 w2 w1.heap.size x xs) (hbase : base ≤ w1.heap.size) (hb : Below w1.heap.size w1 w2) (ho : w'.ownsRow base TP 2 v n (pcs ((ts.map parOf).set i (x, k)))) (hg : w2.grownBy w' v.ownBlock) :
    Pl TP T1 w' base v n (ts.set i (x, k, xs)) := by
  have h2 := h.keep hb
  have hx2 : Bt T1 w2 base x xs := by obtain ⟨q, m, c, rfl, h⟩ := hx; exact ⟨q, m, c, rfl, owns_mono h hbase⟩
  have hil : i < ts.length := by rw [h.len]; exact hi
  refine ⟨by simp [h.len], ?_, fun t ht => ?_, ?_⟩
  · rw [List.map_set]; exact ho
  · rcases List.mem_or_eq_of_mem_set ht with ht | rfl
    · exact (h2.row t ht).grown hT h2.own hg
    · exact hx2.grown hT h2.own hg
  · have hd := h.dis
    rw [← List.take_append_drop i ts, List.drop_eq_getElem_cons hil, blks_append] at hd
    rw [List.set_eq_take_append_cons_drop, if_pos hil, blks_append]
    have e1 : blks (ts[i] :: ts.drop (i + 1)) = blks [ts[i]] ++ blks (ts.drop (i + 1)) := blks_append [ts[i]] _
    have e2 : blks ((x, k, xs) :: ts.drop (i + 1)) = blks [(x, k, xs)] ++ blks (ts.drop (i + 1)) := blks_append [(x, k, xs)] _
    rw [e1] at hd
    rw [e2]
    have hnew : ∀ a, a ∈ blks [(x, k, xs)] → ∀ b, b ∈ blks ts → a ≠ b := by
      intro a ha b hb' e
      subst e
      obtain ⟨t, ht, e⟩ := List.mem_filterMap.1 ha
      simp at ht; subst ht
      have := (hx.lt a e).1
      have := (h.blt a hb').2
      omega
    have hone : (blks [(x, k, xs)]).Nodup := by cases hb : x.ownBlock <;> simp [blks, hb]
    simp only [List.nodup_append] at hd ⊢
    obtain ⟨d1, ⟨d2, d3, d4⟩, d5⟩ := hd
    have s1 : ∀ a, a ∈ blks (ts.take i) → a ∈ blks ts := fun a ha => (blks_sub (List.take_sublist i ts)).subset ha
    have s2 : ∀ a, a ∈ blks (ts.drop (i + 1)) → a ∈ blks ts := fun a ha => (blks_sub (List.drop_sublist (i + 1) ts)).subset ha
    refine ⟨d1, ⟨hone, d3, fun a ha b hb' => hnew a ha b (s2 b hb')⟩, fun a ha b hb' => ?_⟩
    rcases List.mem_append.1 hb' with hb' | hb'
    · exact fun e => hnew b hb' a (s1 a ha) e.symm
    · exact d5 a ha b (List.mem_append_right _ hb')
end
theorem Sl.take_c {α : Type} {enc : α → Value} {w : World} {p : Option Addr} {n c k : Nat} {xs : List α} (h : Sl enc w p n c xs) (hk : k ≤ n) : Sl enc w p k c (xs.take k) := by
  refine ⟨by rw [List.length_take, h.len]; omega, by have := h.le; omega, h.max, fun e => ?_, ?_⟩
  · have := h.nil e; omega
  · intro i hi
    have hi' : i < xs.length := by rw [List.length_take] at hi; omega
    obtain ⟨b, o, hp, hc⟩ := h.rs i hi'
    exact ⟨b, o, hp, by rw [hc]; simp⟩
end Go.By
namespace Go.Proofs.YtfbmdlfkipipfaaGreatDoor
open Go.RowKit Go.By
theorem ne_types : (5 : Nat) ≠ 174 := by decide
abbrev PL (w : World) (base : Nat) (v : Value) (n : Nat) (ts : List Par) : Prop := Pl 174 5 w base v n ts
/-- the act, as a value -/
abbrev actV (d i j b : Int) (av : Value) : Value := .agg #[.int .i64 d, .int .i64 i, .int .i64 j, .int .u32 b, av]
/-- what comes back: a list of parcels -/
def RetP (base : Nat) (w : World) (ps : List (List UInt8 × Int)) (e : Ending) (w' : World) : Prop := ∃ u ss, e = .returned u ∧ PL w' base u ps.length ss ∧ ss.map parIs = ps ∧ Below base w w'
theorem RetP.of {base m : Nat} {w w' : World} {ps : List (List UInt8 × Int)} {u : Value} {ss : List Par} (h : PL w' base u m ss) (hb : Below base w w') (hs : ss.map parIs = ps) : RetP base w ps (.returned u) w' :=
  ⟨u, ss, rfl, by rw [← hs, List.length_map, h.len]; exact h, hs, hb⟩
set_option maxRecDepth 100000 in
set_option maxHeartbeats 1000000 in
theorem drop_any (base n i : Nat) (v : Value) (ts : List Par) (d j b : Int) (av : Value) (w : World) (h : PL w base v n ts) (hi : i < n) (hbase : base ≤ w.heap.size) :
    Calls Tryz.prog 144 #[actV d i j b av, v] w (RetP base w ((ts.map parIs).take i ++ (ts.map parIs).drop (i + 1))) := by
  obtain ⟨q, c, rfl⟩ : ∃ q c, v = .slice q n c := by
    rcases h.own.2 with ⟨h1, h0⟩ | ⟨g, cap, cur, hv, _⟩
    · omega
    · exact ⟨_, _, hv⟩
  obtain ⟨g, cur, rfl, hg, hh, hnc, hcm, hcl, hct⟩ := owns2_open h.own (by omega)
  unfold maxLen at hcm
  have hB := fun o => al (o := o) (Below.refl w.heap.size w) (Nat.le_refl _)
  have hB2 := fun o => al (o := o) (Below.refl base w) hbase
  have H := Lib.hid h
  clear h hh hct hcl
  go_enter Tryz.func144, Tryz.ntmps144
  go_wp2_with fail
  refine Calls.mono (Delete_any base g n c i (ts.map parOf) _ (H.out.keep (hB _)).own hi (H.out.ones)) ?_
  rintro e w' ⟨rfl, ho, hgr⟩
  have e1 : i + (n - (i + 1)) = n - 1 := by omega
  rw [e1]
  have FIN : Hid (PL w' base (.slice (some ⟨g, 0, none⟩) (n - 1) c) (n - 1) (ts.take i ++ ts.drop (i + 1)) ∧ Below base w w') := by
    have hs : (ts.take i ++ ts.drop (i + 1)).Sublist ts := by
      have h2 := List.Sublist.append (List.Sublist.refl (ts.take i)) (List.drop_sublist 1 (ts.drop i))
      rw [List.drop_drop, List.take_append_drop] at h2
      exact h2
    refine ⟨(H.out.keep (hB _)).turn ne_types (fun t ht => hs.subset ht) (H.out.dis.sublist (blks_sub hs)) ?_ ?_ hgr, (hB2 _).grown hgr (by simp; omega) (fun k hk => by cases hk; exact hg)⟩
    · rw [List.length_append, List.length_take, List.length_drop, H.out.len]; omega
    · rw [List.map_append, List.map_take, List.map_drop]; exact ho
  clear ho hgr e1
  go_wp2
  go_ret
  exact RetP.of FIN.out.1 FIN.out.2 (by rw [List.map_append, List.map_take, List.map_drop])
set_option maxRecDepth 100000 in
set_option maxHeartbeats 1000000 in
theorem forge_any (base n m c : Nat) (v : Value) (ts : List Par) (d i j b : Int) (p : Option Addr) (bs : List UInt8) (w : World) (h : PL w base v n ts) (hbase : base ≤ w.heap.size) (hs : Sl B8 w p m c bs) (hr : Room m) (hn : n < 4096) :
    Calls Tryz.prog 149 #[actV d i j b (.slice p m c), v] w (RetP base w (ts.map parIs ++ [(bs, -1)])) := by
  obtain ⟨i0, hi0, hz0, hz1, hz2⟩ := info_parts info_parcel
  obtain ⟨q, c', rfl⟩ : ∃ q c, v = .slice q n c := by
    rcases h.own.2 with ⟨h1, h0⟩ | ⟨g, cap, cur, hv, _⟩
    · subst h0; exact ⟨_, _, h1⟩
    · exact ⟨_, _, hv⟩
  have hB := fun o => al (o := o) (Below.refl w.heap.size w) (Nat.le_refl _)
  have hB2 := fun o => al (o := o) (Below.refl base w) hbase
  have H := Lib.hid h; have HS := Lib.hid hs
  clear h hs
  have h4'' : ¬ (4096 : Int) ≤ (n : Int) := by omega
  go_enter Tryz.func149, Tryz.ntmps149
  go_wp2_with fail
  refine Calls.mono (BClone_any p m c bs _ (HS.out.keep (hB _)) hr) ?_; rintro e w1 ⟨q1, c1, rfl, ho1, hb1⟩
  have HP := Lib.hid (H.out.keep (hB (.cells #[.int .i64 d, .int .i64 i, .int .i64 j, .int .u32 b, .slice p m c] 176)))
  have HB1 := Lib.hid hb1
  have HO1 := Lib.hid ho1
  have k1 : Below base w w1 := (hB2 (.cells #[.int .i64 d, .int .i64 i, .int .i64 j, .int .u32 b, .slice p m c] 176)).trans (hb1.mono (by simp; omega))
  have s1 := hb1.size
  clear ho1 hb1
  have hB3 := fun o => al (o := o) (Below.refl w1.heap.size w1) (Nat.le_refl _)
  go_wp2_with (at_builtin; refine wpList_append_own _ rfl _ _ 171 rfl base 174 i0 _ 2 32 Tryz.underlying171 hi0 hz0 hz1 hz2 rfl (by omega) _ n (pcs (ts.map parOf)) rfl ((HP.out.keep HB1.out).keep (hB3 _)).own ⟨w1.heap.size, 0, none⟩ 1 1 [.slice q1 m c1, .int .i64 (-1)] rfl rfl ?c1 ?c2 ?c3 ?c4 ?c5 ?_)
  case c1 =>
    intro j x hj
    rw [Addr.add_lit, Nat.zero_add, cell_of_row _ _ j _ _ _ (hnew rfl)]
    match j with
    | 0 => simpa using hj
    | 1 => simpa using hj
    | j + 2 => simp at hj
  case c2 => intro x hx; simp at hx; rcases hx with rfl | rfl <;> rfl
  case c3 => unfold maxLen; omega
  case c4 => omega
  case c5 => simp at s1 ⊢; omega
  intro v' w' ho' hg' _
  have FIN : Hid (PL w' base v' (n + 1) (ts ++ [(.slice q1 m c1, -1, bs)]) ∧ Below base w w') := by
    refine ⟨Pl.push (w2 := w1.alloc (.cells #[.slice q1 m c1, .int .i64 (-1)] 174)) HP.out ne_types ⟨_, _, _, rfl, owns_keep HO1.out (hB3 _)⟩ (by simp; omega) (bl HB1.out (hB3 _) HB1.out.size) ho' hg', ?_⟩
    have k2 : Below base w (w1.alloc (.cells #[.slice q1 m c1, .int .i64 (-1)] 174)) := k1.trans ((hB3 _).mono (by simp at s1; omega))
    refine k2.grown hg' (by simp at s1 ⊢; omega) (fun k hk => (HP.out.own.lt k hk).1)
  clear ho' hg'
  go_wp2
  go_ret
  exact RetP.of FIN.out.1 FIN.out.2 (by simp [parIs])
end Go.Proofs.YtfbmdlfkipipfaaGreatDoor
namespace Go.Proofs.YtfbmdlfkipipfaaGreatDoor
open Go.RowKit Go.By
def dropAt {α : Type} (ps : List α) (i : Nat) : List α := ps.take i ++ ps.drop (i + 1)
def putAtP {α : Type} (ps : List α) (k : Nat) (p : α) : List α := ps.take k ++ p :: ps.drop k
theorem dropAt_length {α : Type} {ps : List α} {i : Nat} (h : i < ps.length) : (dropAt ps i).length = ps.length - 1 := by unfold dropAt; rw [List.length_append, List.length_take, List.length_drop]; omega
theorem dropAt_map {α β : Type} (f : α → β) (ps : List α) (i : Nat) : (dropAt ps i).map f = dropAt (ps.map f) i := by simp [dropAt, List.map_take, List.map_drop]
theorem putAtP_map {α β : Type} (f : α → β) (ps : List α) (i : Nat) (p : α) : (putAtP ps i p).map f = putAtP (ps.map f) i (f p) := by simp [putAtP, List.map_take, List.map_drop]
theorem dropAt_sub {α : Type} (ps : List α) (i : Nat) : (dropAt ps i).Sublist ps := by
  have h2 := List.Sublist.append (List.Sublist.refl (ps.take i)) (List.drop_sublist 1 (ps.drop i))
  rw [List.drop_drop, List.take_append_drop] at h2
  exact h2
theorem dropAt_perm {α : Type} {ps : List α} {i : Nat} {p : α} (h : ps[i]? = some p) : (p :: dropAt ps i).Perm ps := by
  obtain ⟨hi, h⟩ := List.getElem?_eq_some_iff.1 h
  have e : ps = ps.take i ++ p :: ps.drop (i + 1) := by
    conv => lhs; rw [← List.take_append_drop i ps, List.drop_eq_getElem_cons hi, h]
  conv => rhs; rw [e]
  exact List.perm_middle.symm
theorem putAtP_perm {α : Type} (ps : List α) (k : Nat) (p : α) : (putAtP ps k p).Perm (p :: ps) := by
  unfold putAtP
  have := List.perm_middle (a := p) (l₁ := ps.take k) (l₂ := ps.drop k)
  rwa [List.take_append_drop] at this
theorem par_cells {w : World} {base n c g i : Nat} {ts : List Par} {t : Par} (h : PL w base (.slice (some ⟨g, 0, none⟩) n c) n ts) (ht : ts[i]? = some t) :
    w.cell? ⟨g, i * 2, none⟩ = some t.1 ∧ w.cell? ⟨g, i * 2 + 1, none⟩ = some (.int .i64 t.2.1) := by
  have hi : i < n := by have := (List.getElem?_eq_some_iff.1 ht).1; rw [h.len] at this; exact this
  have hp := pcs_at (us := ts.map parOf) (i := i) (u := parOf t) (by rw [List.getElem?_map, ht]; rfl)
  exact ⟨by rw [h.own.cellAt _ (by omega)]; exact hp.1, by rw [h.own.cellAt _ (by omega)]; exact hp.2⟩
set_option maxRecDepth 100000 in
set_option maxHeartbeats 2000000 in
theorem move_any (base n i j : Nat) (v : Value) (ts : List Par) (t : Par) (d b : Int) (av : Value) (w : World) (h : PL w base v n ts) (ht : ts[i]? = some t) (hbase : base ≤ w.heap.size) (hj : j ≤ 9223372036854775807) :
    Calls Tryz.prog 146 #[actV d i j b av, v] w (RetP base w (putAtP (dropAt (ts.map parIs) i) (min j (n - 1)) (parIs t))) := by
  have hi : i < n := by have := (List.getElem?_eq_some_iff.1 ht).1; rw [h.len] at this; exact this
  obtain ⟨q, c, rfl⟩ : ∃ q c, v = .slice q n c := by
    rcases h.own.2 with ⟨h1, h0⟩ | ⟨g, cap, cur, hv, _⟩
    · omega
    · exact ⟨_, _, hv⟩
  obtain ⟨g, cur, rfl, hg, hh, hnc, hcm, hcl, hct⟩ := owns2_open h.own (by omega)
  unfold maxLen at hcm
  have hgs : g < w.heap.size := lt_of_cell (par_cells h ht).1
  obtain ⟨q1, m1, c1, ht1, hto⟩ := h.row t (List.mem_of_getElem? ht)
  obtain ⟨t1, k1, xs⟩ := t
  simp only at ht1 hto
  subst ht1
  obtain ⟨d0, d1⟩ := par_cells h ht
  simp only at d0 d1
  have D0 : ∀ o, (w.alloc o).cell? ⟨g, i * 2, none⟩ = some (.slice q1 m1 c1) := fun o => calloc d0
  have D1 : ∀ o, (w.alloc o).cell? ⟨g, i * 2 + 1, none⟩ = some (.int .i64 k1) := fun o => calloc d1
  have i1 : (i : Int) < (n : Int) := by omega
  have hB := fun o1 o2 => al (o := o2) (al (o := o1) (Below.refl w.heap.size w) (Nat.le_refl _)) (by simp)
  have hB2 := fun o1 o2 => al (o := o2) (al (o := o1) (Below.refl base w) hbase) (by simp; omega)
  have H := Lib.hid h; have HT := Lib.hid ht
  have HB := Lib.hid hB; have HB2 := Lib.hid hB2
  clear h hh hct hcl d0 d1 ht hto hB hB2
  go_enter Tryz.func146, Tryz.ntmps146
  go_wp2_with fail
  refine Calls.mono (Delete_any base g n c i (ts.map parOf) _ (H.out.keep (HB.out _ _)).own hi (H.out.ones)) ?_
  rintro e w' ⟨rfl, ho, hgr⟩
  have e1 : i + (n - (i + 1)) = n - 1 := by omega
  rw [e1]
  have x1 : w'.heap[w.heap.size]? = some (.cells #[.int .i64 d, .int .i64 i, .int .i64 j, .int .u32 b, av] 176 (0, 0)) := by
    rw [hgr.block _ (by simp; omega) (by simp; omega)]; exact hal (hnew rfl)
  have x2 : w'.heap[w.heap.size + 1]? = some (.cells #[.slice q1 m1 c1, .int .i64 k1] 174 (0, 0)) := by
    rw [hgr.block _ (by simp) (by simp; omega)]; exact hnew (by simp)
  have y2 : w'.cell? ⟨w.heap.size, 2, none⟩ = some (.int .i64 j) := cell_of_row _ _ 2 _ _ _ x1
  have z0 : w'.cell? ⟨w.heap.size + 1, 0, none⟩ = some (.slice q1 m1 c1) := cell_of_row _ _ 0 _ _ _ x2
  have z1 : w'.cell? ⟨w.heap.size + 1, 1, none⟩ = some (.int .i64 k1) := cell_of_row _ _ 1 _ _ _ x2
  have s1 := hgr.size
  have P1 : Hid (PL w' base (.slice (some ⟨g, 0, none⟩) (n - 1) c) (n - 1) (dropAt ts i) ∧ (∀ t, t ∈ ts → Bt 5 w' base t.1 t.2.2) ∧ Below base w w') := by
    refine ⟨(H.out.keep (HB.out _ _)).turn ne_types (fun t ht => (dropAt_sub ts i).subset ht) (H.out.dis.sublist (blks_sub (dropAt_sub ts i))) ?_ ?_ hgr, fun t ht => ?_, (HB2.out _ _).grown hgr (by simp; omega) (fun k hk => by cases hk; exact hg)⟩
    · rw [dropAt_length (by rw [H.out.len]; exact hi), H.out.len]
    · unfold dropAt; rw [List.map_append, List.map_take, List.map_drop]; exact ho
    · exact ((H.out.keep (HB.out _ _)).row t ht).grown ne_types (H.out.keep (HB.out _ _)).own hgr
  have hgs' : g < w'.heap.size := by simp at s1; omega
  have hws : w.heap.size ≤ w'.heap.size := by simp at s1; omega
  clear ho hgr e1 x1 x2 D0 D1 s1
  obtain ⟨n1, hn1⟩ : ∃ n1, n1 = n - 1 := ⟨_, rfl⟩
  have F : ∀ (o : Obj) (k : Nat) (w2 : World), o = .cells #[.slice q1 m1 c1, .int .i64 k1] 174 → k = min j n1 → ∀ (u : Value), u = .slice (some ⟨g, 0, none⟩) (n1 + 1) c →
      w2.ownsRow base 174 2 u (n1 + 1) (pcs (putAtP ((dropAt ts i).map parOf) k (.slice q1 m1 c1, k1))) → (w'.alloc o).grownBy w2 (some g) → PL w2 base u n (putAtP (dropAt ts i) k (.slice q1 m1 c1, k1, xs)) ∧ Below base w w2 := by
    intro o k w2 ho hk u hu how hgr
    have hb : Below w'.heap.size w' (w'.alloc o) := al (Below.refl _ _) (Nat.le_refl _)
    have hpm : (putAtP (dropAt ts i) k (.slice q1 m1 c1, k1, xs)).Perm ts := (putAtP_perm _ _ _).trans (dropAt_perm HT.out)
    refine ⟨⟨?_, ?_, fun t ht => ?_, ?_⟩, ?_⟩
    · rw [hpm.length_eq, H.out.len]
    · rw [show n = n1 + 1 by omega, putAtP_map]; exact how
    · exact ((P1.out.2.1 t (hpm.subset ht)).keep hb).grown ne_types ((P1.out.1.keep hb).own) hgr
    · exact (hpm.filterMap _).nodup_iff.2 H.out.dis
    · exact (P1.out.2.2.trans (hb.mono (by omega))).grown hgr (by simp; omega) (fun k hk => by cases hk; exact hg)
  have HF := Lib.hid F
  have hvb : w'.heap.size ≠ g := by omega
  have HO : Hid (∀ o, (w'.alloc o).ownsRow base 174 2 (.slice (some ⟨g, 0, none⟩) n1 c) n1 (pcs ((dropAt ts i).map parOf))) := fun o => by
    rw [hn1]; exact (P1.out.1.keep (al (Below.refl _ _) (Nat.le_refl _))).own
  have HM : Hid (∀ x, x ∈ (dropAt ts i).map parOf → x.1.oneCell' = true) := P1.out.1.ones
  rw [← hn1]
  have hn1c : n1 + 1 ≤ c := by omega
  have HN := Lib.hid hn1
  clear hn1 F
  by_cases hjn : j < n1
  · have j1 : (j : Int) < (n1 : Int) := by omega
    have hmn := Lib.hid (show min j n1 = j by omega)
    go_wp2_with fail
    rw [show min (j : Int) (n1 : Int) = (j : Int) by omega]
    refine Calls.mono (InsertMid_any base g n1 c j w'.heap.size ((dropAt ts i).map parOf) (.slice q1 m1 c1, k1) _ (HO.out _) hjn hn1c HM.out rfl (hnew rfl) hvb) ?_
    rintro e w2 ⟨rfl, how, hgr2⟩
    have FIN := Lib.hid (HF.out _ j w2 rfl hmn.out.symm _ rfl how hgr2)
    clear how hgr2
    go_wp2
    go_ret
    refine RetP.of FIN.out.1 FIN.out.2 ?_
    rw [putAtP_map, dropAt_map, ← HN.out, hmn.out]
  · have j1 : (n1 : Int) ≤ (j : Int) := by omega
    have hmn := Lib.hid (show min j n1 = n1 by omega)
    go_wp2_with fail
    rw [show min (j : Int) (n1 : Int) = (n1 : Int) by omega]
    refine Calls.mono (InsertEnd_any base g n1 c w'.heap.size ((dropAt ts i).map parOf) (.slice q1 m1 c1, k1) _ (HO.out _) hn1c rfl (hnew rfl)) ?_
    rintro e w2 ⟨rfl, how, hgr2⟩
    have FIN : Hid _ := Lib.hid (HF.out _ n1 w2 rfl hmn.out.symm _ rfl (by
      have hl : ((dropAt ts i).map parOf).length = n1 := by rw [List.length_map, dropAt_length (by rw [H.out.len]; exact hi), H.out.len, HN.out]
      unfold putAtP
      rw [List.take_of_length_le (by omega), List.drop_eq_nil_of_le (by omega)]
      exact how) hgr2)
    clear how hgr2
    go_wp2
    go_ret
    refine RetP.of FIN.out.1 FIN.out.2 ?_
    rw [putAtP_map, dropAt_map, ← HN.out, hmn.out]
end Go.Proofs.YtfbmdlfkipipfaaGreatDoor
namespace Go.Proofs.YtfbmdlfkipipfaaGreatDoor
open Go.RowKit Go.By
set_option maxRecDepth 100000 in
set_option maxHeartbeats 4000000 in
theorem double_any (base n i : Nat) (j : Int) (v : Value) (ts : List Par) (t : Par) (d b : Int) (av : Value) (w : World) (h : PL w base v n ts) (ht : ts[i]? = some t) (hbase : base ≤ w.heap.size) (hr : Room t.2.2.length) (hn : n < 4096) :
    Calls Tryz.prog 145 #[actV d i j b av, v] w (RetP base w (ts.map parIs ++ [parIs t])) := by
  obtain ⟨i0, hi0, hz0, hz1, hz2⟩ := info_parts info_parcel
  have hi : i < n := by have := (List.getElem?_eq_some_iff.1 ht).1; rw [h.len] at this; exact this
  obtain ⟨q, c, rfl⟩ : ∃ q c, v = .slice q n c := by
    rcases h.own.2 with ⟨h1, h0⟩ | ⟨g, cap, cur, hv, _⟩
    · omega
    · exact ⟨_, _, hv⟩
  obtain ⟨g, cur, rfl, hg, hh, hnc, hcm, hcl, hct⟩ := owns2_open h.own (by omega)
  unfold maxLen at hcm
  have hgs : g < w.heap.size := lt_of_cell (par_cells h ht).1
  obtain ⟨q1, m1, c1, ht1, hto⟩ := h.row t (List.mem_of_getElem? ht)
  obtain ⟨t1, k1, xs⟩ := t
  simp only at ht1 hto hr
  subst ht1
  obtain ⟨d0, d1⟩ := par_cells h ht
  simp only at d0 d1
  have hB := fun o1 => al (o := o1) (Below.refl w.heap.size w) (Nat.le_refl _)
  obtain ⟨W, hW⟩ : ∃ W, W = w.alloc (.cells #[.int .i64 d, .int .i64 i, .int .i64 j, .int .u32 b, av] 176) := ⟨_, rfl⟩
  have hBW : Below w.heap.size w W := by rw [hW]; exact hB _
  have x1 : W.heap[w.heap.size]? = some (.cells #[.int .i64 d, .int .i64 i, .int .i64 j, .int .u32 b, av] 176 (0, 0)) := by rw [hW]; exact hnew rfl
  have hWs : W.heap.size = w.heap.size + 1 := by rw [hW]; simp
  have R0 : ∀ W', Below W.heap.size W W' → W'.cell? ⟨g, i * 2, none⟩ = some (.slice q1 m1 c1) := fun W' hb => ((hBW.trans (hb.mono (by omega))).cell (p := ⟨g, i * 2, none⟩) hgs).trans d0
  have R1 : ∀ W', Below W.heap.size W W' → W'.cell? ⟨g, i * 2 + 1, none⟩ = some (.int .i64 k1) := fun W' hb => ((hBW.trans (hb.mono (by omega))).cell (p := ⟨g, i * 2 + 1, none⟩) hgs).trans d1
  have R2 : ∀ W', Below W.heap.size W W' → W'.cell? ⟨w.heap.size, 1, none⟩ = some (.int .i64 i) := fun W' hb => cell_of_row _ _ 1 _ _ _ ((hb.block _ (by omega)).trans x1)
  have i1 : (i : Int) < (n : Int) := by omega
  have h4 : ¬ (4096 : Int) ≤ (n : Int) := by omega
  obtain ⟨m0, hm0⟩ : ∃ m0, m0 = xs.length := ⟨_, rfl⟩
  have hml : m1 = m0 := by have := hto.1; simp at this; omega
  rw [← hm0] at hr
  have HM0 := Lib.hid hm0
  clear hm0
  subst hml
  have C1 : Hid (∀ W', Below W.heap.size W W' → Calls Tryz.prog 150 #[.slice q1 m1 c1] W' fun e w' => ∃ q c', e = .returned (.slice q m1 c') ∧ w'.ownsRow W'.heap.size 5 1 (.slice q m1 c') m1 (xs.map B8) ∧ Below W'.heap.size W' w') := fun W' hb =>
    BClone_any q1 m1 c1 xs W' ((Sl.of_owns hto).keep (hBW.trans (hb.mono (by omega)))) hr
  have s0 := R0 W (Below.refl _ _); have s1 := R1 W (Below.refl _ _); have s2 := R2 W (Below.refl _ _)
  have hd : Below W.heap.size W W.drew := (Below.refl _ _).drew
  have H := Lib.hid h; have HT := Lib.hid ht; have HBW := Lib.hid hBW
  clear h hh hct hcl d0 d1 ht hto hB hBW x1
  go_enter Tryz.func145, Tryz.ntmps145
  go_wp2_with fail
  rw [← hW]
  clear hW
  have hNews : Hid (∀ (w1 : World) (q2 : Option Addr) (c2 : Nat), ∀ (jj : Nat) (u : Value), [Value.slice q2 m1 c2, Value.int .i64 k1][jj]? = some u → (w1.alloc (.cells #[.slice q2 m1 c2, .int .i64 k1] 174)).cell? ((⟨w1.heap.size, 0, none⟩ : Addr).add jj) = some u) := fun w1 q2 c2 jj u hj => by
    rw [Addr.add_lit, Nat.zero_add, cell_of_row _ _ jj _ _ _ (hnew rfl)]
    match jj with
    | 0 => simpa using hj
    | 1 => simpa using hj
    | jj + 2 => simp at hj
  have hOnes : Hid (∀ (q2 : Option Addr) (c2 : Nat), ∀ u ∈ [Value.slice q2 m1 c2, Value.int .i64 k1], u.oneCell' = true) := fun q2 c2 x hx => by simp at hx; rcases hx with rfl | rfl <;> rfl
  have hOwn : Hid (∀ (w1 : World) (o : Obj), Below W.heap.size W w1 → (w1.alloc o).ownsRow base 174 2 (.slice (some ⟨g, 0, none⟩) n c) n (pcs (ts.map parOf))) := fun w1 o hb =>
    ((H.out.keep (HBW.out.trans (hb.mono (by omega)))).keep (al (Below.refl _ _) (Nat.le_refl _))).own
  have hMx : n + 1 ≤ maxLen := by unfold maxLen; omega
  have hBy : (n + 1) * 32 ≤ 140737488355328 := by omega
  have hBs : Hid (∀ (w1 : World) (o : Obj), Below W.heap.size W w1 → base ≤ (w1.alloc o).heap.size) := fun w1 o hb => by have := hb.size; simp; omega
  have hFin : Hid (∀ (w1 w2 : World) (q2 : Option Addr) (c2 g3 cap3 : Nat), Below W.heap.size W w1 → w1.ownsRow W.heap.size 5 1 (.slice q2 m1 c2) m1 (xs.map B8) →
      w2.ownsRow base 174 2 (.slice (some ⟨g3, 0, none⟩) (n + 1) cap3) (n + 1) (pcs (ts.map parOf) ++ [.slice q2 m1 c2, .int .i64 k1]) → (w1.alloc (.cells #[.slice q2 m1 c2, .int .i64 k1] 174)).grownBy w2 (Value.slice (some ⟨g, 0, none⟩) n c).ownBlock →
      PL w2 base (.slice (some ⟨g3, 0, none⟩) (n + 1) cap3) (n + 1) (ts ++ [(.slice q2 m1 c2, k1, xs)]) ∧ Below base w w2) := fun w1 w2 q2 c2 g3 cap3 hb ho1 ho2 hgr => by
    have hal : Below w1.heap.size w1 (w1.alloc (.cells #[.slice q2 m1 c2, .int .i64 k1] 174)) := al (Below.refl _ _) (Nat.le_refl _)
    have hs := hb.size
    refine ⟨Pl.push (w1 := W) (H.out.keep HBW.out) ne_types ⟨_, _, _, rfl, owns_keep ho1 hal⟩ (by omega) (hb.trans (hal.mono hs)) ho2 hgr, ?_⟩
    exact (((HBW.out.trans (hb.mono (by omega))).mono hbase).trans (hal.mono (by omega))).grown hgr (by simp; omega) (fun k hk => by cases hk; exact hg)
  go_region_law (first
    | (go_simp; go_at_call 150; (with_reducible refine Calls.mono (C1.out _ (by assumption)) ?_); rintro e w1 ⟨q2, c2, rfl, ho2, hb2⟩; have hw1 := stp (by assumption) hb2 rfl (Nat.le_refl _); have f0 := R0 w1 hw1; have f1 := R1 w1 hw1; have f2 := R2 w1 hw1)
    | (refine step_append_lies _ rfl (.tmp 9) (.tmp 24) 171 rfl base 174 i0 _ 2 32 Tryz.underlying171 hi0 hz0 hz1 hz2 rfl (by omega) (.slice (some ⟨g, 0, none⟩) n c) n (pcs (ts.map parOf)) (by simp [Act.eval, Act.put]) (hOwn.out _ _ (by assumption)) _ 1 1 _ (by simp [Act.eval, Act.put]) rfl (hNews.out _ _ _) (hOnes.out _ _) (by omega) hMx hBy (hBs.out _ _ (by assumption)) _ rfl ?_; intro g3 cap3 w3 ho3 hgr3 hat3 hlt3))
  all_goals go_wp2
  all_goals go_ret
  all_goals (have hF := hFin.out _ _ _ _ _ _ hw1 ho2 ho3 hgr3; exact RetP.of hF.1 hF.2 (by simp [parIs]))
end Go.Proofs.YtfbmdlfkipipfaaGreatDoor
namespace Go.Proofs.YtfbmdlfkipipfaaGreatDoor
open Go.RowKit Go.By
/-- what a cut does to a parcel -/
def cutP (p : List UInt8 × Int) (j : Nat) : List UInt8 × Int := if j < p.1.length then (p.1.take j, -1) else p
set_option maxRecDepth 100000 in
set_option maxHeartbeats 4000000 in
theorem cut_any (base n i j : Nat) (v : Value) (ts : List Par) (t : Par) (d b : Int) (av : Value) (w : World) (h : PL w base v n ts) (ht : ts[i]? = some t) (hbase : base ≤ w.heap.size) (hr : Room t.2.2.length) (hj : j ≤ 9223372036854775807) :
    Calls Tryz.prog 147 #[actV d i j b av, v] w (RetP base w ((ts.map parIs).set i (cutP (parIs t) j))) := by
  have hi : i < n := by have := (List.getElem?_eq_some_iff.1 ht).1; rw [h.len] at this; exact this
  obtain ⟨q, c, rfl⟩ : ∃ q c, v = .slice q n c := by
    rcases h.own.2 with ⟨h1, h0⟩ | ⟨g, cap, cur, hv, _⟩
    · omega
    · exact ⟨_, _, hv⟩
  obtain ⟨g, cur, rfl, hg, hh, hnc, hcm, hcl, hct⟩ := owns2_open h.own (by omega)
  unfold maxLen at hcm
  have hgs : g < w.heap.size := lt_of_cell (par_cells h ht).1
  obtain ⟨q1, m1, c1, ht1, hto⟩ := h.row t (List.mem_of_getElem? ht)
  obtain ⟨t1, k1, xs⟩ := t
  simp only at ht1 hto hr
  subst ht1
  obtain ⟨d0, d1⟩ := par_cells h ht
  simp only at d0 d1
  have hB := fun o1 => al (o := o1) (Below.refl w.heap.size w) (Nat.le_refl _)
  obtain ⟨W, hW⟩ : ∃ W, W = w.alloc (.cells #[.int .i64 d, .int .i64 i, .int .i64 j, .int .u32 b, av] 176) := ⟨_, rfl⟩
  have hBW : Below w.heap.size w W := by rw [hW]; exact hB _
  have x1 : W.heap[w.heap.size]? = some (.cells #[.int .i64 d, .int .i64 i, .int .i64 j, .int .u32 b, av] 176 (0, 0)) := by rw [hW]; exact hnew rfl
  have hWs : W.heap.size = w.heap.size + 1 := by rw [hW]; simp
  have R0 : ∀ W', Below W.heap.size W W' → W'.cell? ⟨g, i * 2, none⟩ = some (.slice q1 m1 c1) := fun W' hb => ((hBW.trans (hb.mono (by omega))).cell (p := ⟨g, i * 2, none⟩) hgs).trans d0
  have R1 : ∀ W', Below W.heap.size W W' → W'.cell? ⟨g, i * 2 + 1, none⟩ = some (.int .i64 k1) := fun W' hb => ((hBW.trans (hb.mono (by omega))).cell (p := ⟨g, i * 2 + 1, none⟩) hgs).trans d1
  have R2 : ∀ W', Below W.heap.size W W' → W'.cell? ⟨w.heap.size, 1, none⟩ = some (.int .i64 i) := fun W' hb => cell_of_row _ _ 1 _ _ _ ((hb.block _ (by omega)).trans x1)
  have R3 : ∀ W', Below W.heap.size W W' → W'.cell? ⟨w.heap.size, 2, none⟩ = some (.int .i64 j) := fun W' hb => cell_of_row _ _ 2 _ _ _ ((hb.block _ (by omega)).trans x1)
  have Z0 : ∀ W', Below W.heap.size W W' → W'.frozen? ⟨g, i * 2, none⟩ = false := fun W' hb => frozen_arr (cur := cur) (((hBW.trans (hb.mono (by omega))).block g hgs).trans hh) _
  have Z1 : ∀ W', Below W.heap.size W W' → W'.frozen? ⟨g, i * 2 + 1, none⟩ = false := fun W' hb => frozen_arr (cur := cur) (((hBW.trans (hb.mono (by omega))).block g hgs).trans hh) _
  have i1 : (i : Int) < (n : Int) := by omega
  have s0 := R0 W (Below.refl _ _); have s1 := R1 W (Below.refl _ _); have s2 := R2 W (Below.refl _ _); have s3 := R3 W (Below.refl _ _)
  obtain ⟨m0, hm0⟩ : ∃ m0, m0 = xs.length := ⟨_, rfl⟩
  have hml : m1 = m0 := by have := hto.1; simp at this; omega
  rw [← hm0] at hr
  have HM0 := Lib.hid hm0
  clear hm0
  subst hml
  have H := Lib.hid h; have HT := Lib.hid ht; have HBW := Lib.hid hBW
  have HS := Lib.hid (Sl.of_owns hto)
  have bm := HS.out.le; have bc := HS.out.max; unfold maxLen at bc
  clear h hh hct hcl d0 d1 ht hB hBW x1
  by_cases hjm : j < m1
  · have j1 : (j : Int) < (m1 : Int) := by omega
    have HC : Hid (cutP (parIs (.slice q1 m1 c1, k1, xs)) j = (xs.take j, -1)) := by unfold cutP parIs; rw [Hid, if_pos (by rw [← HM0.out]; exact hjm)]
    rw [HC.out]
    obtain ⟨ad, rfl⟩ : ∃ ad, q1 = some ad := by
      cases q1 with
      | none => have := HS.out.nil rfl; omega
      | some ad => exact ⟨ad, rfl⟩
    have C1 : Hid (∀ W', Below W.heap.size W W' → Calls Tryz.prog 150 #[.slice (some ad) j c1] W' fun e w' => ∃ q c', e = .returned (.slice q j c') ∧ w'.ownsRow W'.heap.size 5 1 (.slice q j c') j ((xs.take j).map B8) ∧ Below W'.heap.size W' w') := fun W' hb =>
      BClone_any (some ad) j c1 (xs.take j) W' ((Sl.take_c HS.out (by omega)).keep (HBW.out.trans (hb.mono (by omega)))) (hr.le (by omega))
    have j2 : j ≤ c1 := by omega
    clear hto
    go_enter Tryz.func147, Tryz.ntmps147
    go_wp2_with fail
    rw [← hW]
    clear hW
    go_quiet (fail)
    go_wp2_with fail
    have hd : Below W.heap.size W (W.drewN (nq + 1)) := bdn (Below.refl _ _)
    have hFin : Hid (∀ (w1 : World) (q2 : Option Addr) (c2 : Nat), Below W.heap.size W w1 → w1.ownsRow W.heap.size 5 1 (.slice q2 j c2) j ((xs.take j).map B8) →
        PL ((w1.setCell ⟨g, i * 2, none⟩ (.slice q2 j c2)).setCell ⟨g, i * 2 + 1, none⟩ (.int .i64 (-1))) base (.slice (some ⟨g, 0, none⟩) n c) n (ts.set i (.slice q2 j c2, -1, xs.take j)) ∧ Below base w ((w1.setCell ⟨g, i * 2, none⟩ (.slice q2 j c2)).setCell ⟨g, i * 2 + 1, none⟩ (.int .i64 (-1)))) := fun w1 q2 c2 hb ho => by
      have how := ((H.out.keep (HBW.out.trans (hb.mono (by omega)))).own.stored (i * 2) (.slice q2 j c2)).1
      have how2 := (how.stored (i * 2 + 1) (.int .i64 (-1))).1
      have hs := hb.size
      refine ⟨Pl.swap (w1 := W) (w2 := w1) (H.out.keep HBW.out) hi ne_types ⟨_, _, _, rfl, ho⟩ (by omega) hb ?_ (grown_trans (grownBy_setCell _ g _ _) (grownBy_setCell _ g _ _)), ?_⟩
      · rw [pcs_set _ _ _ (by rw [List.length_map, H.out.len]; exact hi)]; exact how2
      · exact (((HBW.out.mono hbase).trans (hb.mono (by omega))).setCell hg _).setCell hg _
    go_region_law (first
      | (go_simp; go_at_call 150; (with_reducible refine Calls.mono (C1.out _ (by assumption)) ?_); rintro e w1 ⟨q2, c2, rfl, ho2, hb2⟩; have hw1 := stp (by assumption) hb2 rfl (Nat.le_refl _); have f0 := R0 w1 hw1; have f1 := R1 w1 hw1; have f2 := R2 w1 hw1; have f3 := R3 w1 hw1; have z0 := Z0 w1 hw1; have z1 := Z1 w1 hw1))
    all_goals go_wp2
    all_goals go_ret
    all_goals (have hF := hFin.out _ _ _ hw1 ho2; exact RetP.of hF.1 hF.2 (by simp [List.map_set, parIs]))
  · have j1 : (m1 : Int) ≤ (j : Int) := by omega
    have HC : Hid (cutP (parIs (.slice q1 m1 c1, k1, xs)) j = (xs, k1)) := by unfold cutP parIs; rw [Hid, if_neg (by rw [← HM0.out]; exact hjm)]
    rw [HC.out]
    clear hto
    go_enter Tryz.func147, Tryz.ntmps147
    go_wp2_with fail
    rw [← hW]
    clear hW
    go_quiet (fail)
    go_wp2
    go_ret
    refine RetP.of (H.out.keep (bdn HBW.out)) (bdn (HBW.out.mono hbase)) ?_
    apply List.ext_getElem?
    intro jj
    rw [List.getElem?_set, List.getElem?_map]
    split
    · rename_i e; subst e; rw [HT.out]; simp [parIs, hi, H.out.len]
    · rfl
end Go.Proofs.YtfbmdlfkipipfaaGreatDoor
namespace Go.Proofs.YtfbmdlfkipipfaaGreatDoor
open Go.RowKit Go.By
theorem set_get {α : Type} {ts : List α} {i : Nat} {t : α} (h : ts[i]? = some t) : ts.set i t = ts := by
  apply List.ext_getElem?
  intro j
  rw [List.getElem?_set]
  split
  · rename_i e; subst e
    have := (List.getElem?_eq_some_iff.1 h).1
    rw [if_pos this, h]
  · rfl
theorem par_lt {w : World} {base n i : Nat} {v : Value} {ts : List Par} {t : Par} (h : PL w base v n ts) (ht : ts[i]? = some t) : i < n := by
  have := (List.getElem?_eq_some_iff.1 ht).1; rw [h.len] at this; exact this
/-- where it came from is written -/
theorem Pl.from_set {w : World} {base n c g i : Nat} {ts : List Par} {t : Par} (h : PL w base (.slice (some ⟨g, 0, none⟩) n c) n ts) (ht : ts[i]? = some t) (k : Int) :
    PL (w.setCell ⟨g, i * 2 + 1, none⟩ (.int .i64 k)) base (.slice (some ⟨g, 0, none⟩) n c) n (ts.set i (t.1, k, t.2.2)) := by
  have hi := par_lt h ht
  have hil : i < ts.length := by rw [h.len]; exact hi
  have hg := grownBy_setCell w g (i * 2 + 1) (.int .i64 k)
  refine ⟨by rw [List.length_set, h.len], ?_, fun s hs => ?_, ?_⟩
  · have := (h.own.stored (i * 2 + 1) (.int .i64 k)).1
    rw [List.map_set, pcs_set _ _ _ (by rw [List.length_map]; exact hil)]
    have hp := pcs_at (us := ts.map parOf) (i := i) (u := parOf t) (by rw [List.getElem?_map, ht]; rfl)
    have e : (pcs (ts.map parOf)).set (i * 2) t.1 = pcs (ts.map parOf) := set_get hp.1
    show World.ownsRow _ _ _ _ _ _ (((pcs (ts.map parOf)).set (i * 2) t.1).set (i * 2 + 1) _)
    rw [e]; exact this
  · rcases List.mem_or_eq_of_mem_set hs with hs | rfl
    · exact (h.row s hs).grown ne_types h.own hg
    · exact (h.row t (List.mem_of_getElem? ht)).grown ne_types h.own hg
  · have e : blks (ts.set i (t.1, k, t.2.2)) = blks ts := by
      have h1 : (ts.set i (t.1, k, t.2.2)).map (·.1) = ts.map (·.1) := by
        rw [List.map_set]; exact set_get (by rw [List.getElem?_map, ht]; rfl)
      have h2 : ∀ ss : List Par, blks ss = (ss.map (·.1)).filterMap (·.ownBlock) := fun ss => by simp [blks, List.filterMap_map]; rfl
      rw [h2, h2, h1]
    rw [e]; exact h.dis
/-- a byte of it is written -/
theorem Pl.byte_set {w : World} {base n i gb m c k : Nat} {v : Value} {ts : List Par} {f : Int} {xs : List UInt8} (h : PL w base v n ts) (ht : ts[i]? = some (.slice (some ⟨gb, 0, none⟩) m c, f, xs)) (y : UInt8) :
    PL (w.setCell ⟨gb, k, none⟩ (B8 y)) base v n (ts.set i (.slice (some ⟨gb, 0, none⟩) m c, f, xs.set k y)) := by
  have hi := par_lt h ht
  have hil : i < ts.length := by rw [h.len]; exact hi
  have hg := grownBy_setCell w gb k (B8 y)
  obtain ⟨q', m', c', e1, hrow⟩ := h.row _ (List.mem_of_getElem? ht)
  simp only at e1 hrow
  obtain ⟨rfl, rfl, rfl⟩ : some ⟨gb, 0, none⟩ = q' ∧ m = m' ∧ c = c' := by simpa using e1
  have hne : ∀ kk, v.ownBlock = some kk → some kk ≠ some gb := fun kk hk => owns_ne h.own hrow (fun e => ne_types e.symm) kk hk
  refine ⟨by rw [List.length_set, h.len], ?_, fun s hs => ?_, ?_⟩
  · rw [List.map_set]
    have e : (ts.map parOf).set i (parOf (.slice (some ⟨gb, 0, none⟩) m c, f, xs.set k y)) = ts.map parOf := set_get (by rw [List.getElem?_map, ht]; rfl)
    rw [e]; exact owns_kept h.own hg hne
  · obtain ⟨j, hj, e⟩ := List.getElem_of_mem hs
    rw [List.getElem_set] at e
    split at e
    · subst e
      have := (hrow.stored k (B8 y)).1
      rw [← List.map_set] at this
      exact ⟨_, _, _, rfl, this⟩
    · rename_i hij
      have hjl : j < ts.length := by rw [List.length_set] at hj; exact hj
      have hs' : s ∈ ts := by rw [← e]; exact List.getElem_mem hjl
      obtain ⟨q2, m2, c2, e2, hrow2⟩ := h.row s hs'
      refine ⟨q2, m2, c2, e2, owns_kept hrow2 hg (fun kk hk e3 => ?_)⟩
      have hd := h.dis
      unfold blks at hd
      rw [List.Nodup, List.pairwise_filterMap, List.pairwise_iff_getElem] at hd
      have ei : ts[i] = (.slice (some ⟨gb, 0, none⟩) m c, f, xs) := Option.some.inj ((List.getElem?_eq_getElem hil).symm.trans ht)
      have b1 : (ts[i]).1.ownBlock = some gb := by rw [ei]; rfl
      have b2 : (ts[j]).1.ownBlock = some gb := by rw [e, e2, hk]; exact e3
      rcases Nat.lt_or_ge i j with hlt | hge
      · exact hd i j hil hjl hlt gb b1 gb b2 rfl
      · exact hd j i hjl hil (by omega) gb b2 gb b1 rfl
  · have e : blks (ts.set i (.slice (some ⟨gb, 0, none⟩) m c, f, xs.set k y)) = blks ts := by
      have h1 : (ts.set i (.slice (some ⟨gb, 0, none⟩) m c, f, xs.set k y)).map (·.1) = ts.map (·.1) := by
        rw [List.map_set]; exact set_get (by rw [List.getElem?_map, ht]; rfl)
      have h2 : ∀ ss : List Par, blks ss = (ss.map (·.1)).filterMap (·.ownBlock) := fun ss => by simp [blks, List.filterMap_map]; rfl
      rw [h2, h2, h1]
    rw [e]; exact h.dis
/-- the byte k of a parcel, with bit o turned -/
def flip (xs : List UInt8) (at' : Nat) : List UInt8 := xs.set (at' / 8) ((xs.getD (at' / 8) 0) ^^^ UInt8.ofNat (2 ^ (at' % 8)))
/-- behind so many bits: the bytes, and whether any was turned -/
def maskF (b j : Nat) (xs : List UInt8) : Nat → List UInt8 × Bool
  | 0 => (xs, false)
  | k + 1 => if b.testBit k = true ∧ (j + k) / 8 < xs.length then (flip (maskF b j xs k).1 (j + k), true) else maskF b j xs k
theorem maskF_len (b j : Nat) (xs : List UInt8) : ∀ k, (maskF b j xs k).1.length = xs.length
  | 0 => rfl
  | k + 1 => by
    unfold maskF
    split
    · simp [flip, maskF_len b j xs k]
    · exact maskF_len b j xs k
end Go.Proofs.YtfbmdlfkipipfaaGreatDoor
namespace Go.Proofs.YtfbmdlfkipipfaaGreatDoor
open Go.RowKit Go.By
/-- what a mask does to a parcel -/
def maskP (p : List UInt8 × Int) (b j : Nat) : List UInt8 × Int := ((maskF b j p.1 32).1, if (maskF b j p.1 32).2 then -1 else p.2)
theorem maskF_far (b j : Nat) (xs : List UInt8) (h : xs.length ≤ j / 8) : ∀ k, maskF b j xs k = (xs, false)
  | 0 => rfl
  | k + 1 => by
    unfold maskF
    rw [if_neg (by rintro ⟨_, h2⟩; have : j / 8 ≤ (j + k) / 8 := Nat.div_le_div_right (by omega); omega)]
    exact maskF_far b j xs h k
theorem wraps_u32' (n : Int) (h₀ : 0 ≤ n) (h₁ : n < 2 ^ 32) : IntKind.u32.wrap n = n := by rw [IntKind.wrap_u32]; omega
theorem flip_val (x : UInt8) (e : Nat) (he : e < 8) : Value.int .u8 (bits .xor .u8 (x.toNat : Int) ((2 : Int) ^ e % 256)) = B8 (x ^^^ UInt8.ofNat (2 ^ e)) := by
  have h2 : ∀ e, e < 8 → ((UInt8.ofNat (2 ^ e)).toNat : Int) = (2 : Int) ^ e % 256 := by decide
  rw [← h2 e he, bits_xor]
theorem and_one (b k : Nat) (hb : b < 4294967296) : bits .and .u32 ((b : Int) / 2 ^ k) 1 = if b.testBit k = true then 1 else 0 := by
  have e : (b : Int) / 2 ^ k = ((b / 2 ^ k : Nat) : Int) := by simp
  have hlt : b / 2 ^ k < 2 ^ 32 := Nat.lt_of_le_of_lt (Nat.div_le_self _ _) hb
  have h := (bits_nat .u32 32 (by decide) wraps_u32' (b / 2 ^ k) 1 hlt (by decide)).1
  rw [e]
  refine h.trans ?_
  rw [Nat.and_one_is_mod, Nat.testBit_eq_decide_div_mod_eq]
  rcases Nat.mod_two_eq_zero_or_one (b / 2 ^ k) with h | h <;> simp [h]
set_option maxRecDepth 100000 in
set_option maxHeartbeats 4000000 in
theorem mask_any (base n i j b : Nat) (v : Value) (ts : List Par) (t : Par) (d : Int) (av : Value) (w : World) (h : PL w base v n ts) (ht : ts[i]? = some t) (hbase : base ≤ w.heap.size) (hr : Room t.2.2.length) (hj : j ≤ 9223372036854775807) (hb32 : b < 4294967296) :
    Calls Tryz.prog 148 #[actV d i j b av, v] w (RetP base w ((ts.map parIs).set i (maskP (parIs t) b j))) := by
  have hi := par_lt h ht
  obtain ⟨q, c, rfl⟩ : ∃ q c, v = .slice q n c := by
    rcases h.own.2 with ⟨h1, h0⟩ | ⟨g, cap, cur, hv, _⟩
    · omega
    · exact ⟨_, _, hv⟩
  obtain ⟨g, cur, rfl, hg, hh, hnc, hcm, hcl, hct⟩ := owns2_open h.own (by omega)
  unfold maxLen at hcm
  have hgs : g < w.heap.size := lt_of_cell (par_cells h ht).1
  obtain ⟨q1, m1, c1, ht1, hto⟩ := h.row t (List.mem_of_getElem? ht)
  obtain ⟨t1, k1, xs⟩ := t
  simp only at ht1 hto hr
  subst ht1
  obtain ⟨d0, d1⟩ := par_cells h ht
  simp only at d0 d1
  have hB := fun o1 => al (o := o1) (Below.refl w.heap.size w) (Nat.le_refl _)
  obtain ⟨W, hW⟩ : ∃ W, W = w.alloc (.cells #[.int .i64 d, .int .i64 i, .int .i64 j, .int .u32 b, av] 176) := ⟨_, rfl⟩
  have hBW : Below w.heap.size w W := by rw [hW]; exact hB _
  have x1 : W.heap[w.heap.size]? = some (.cells #[.int .i64 d, .int .i64 i, .int .i64 j, .int .u32 b, av] 176 (0, 0)) := by rw [hW]; exact hnew rfl
  have hWs : W.heap.size = w.heap.size + 1 := by rw [hW]; simp
  have s0 : W.cell? ⟨g, i * 2, none⟩ = some (.slice q1 m1 c1) := (hBW.cell (p := ⟨g, i * 2, none⟩) hgs).trans d0
  have s2 : W.cell? ⟨w.heap.size, 1, none⟩ = some (.int .i64 i) := cell_of_row _ _ 1 _ _ _ x1
  have s3 : W.cell? ⟨w.heap.size, 2, none⟩ = some (.int .i64 j) := cell_of_row _ _ 2 _ _ _ x1
  have i1 : (i : Int) < (n : Int) := by omega
  obtain ⟨m0, hm0⟩ : ∃ m0, m0 = xs.length := ⟨_, rfl⟩
  have hml : m1 = m0 := by have := hto.1; simp at this; omega
  rw [← hm0] at hr
  have HM0 := Lib.hid hm0
  clear hm0
  subst hml
  have H := Lib.hid h; have HT := Lib.hid ht; have HBW := Lib.hid hBW
  have HS := Lib.hid (Sl.of_owns hto)
  have bm := HS.out.le; have bc := HS.out.max; unfold maxLen at bc
  unfold Room at hr
  have X1 := Lib.hid x1
  clear h hh hct hcl d0 d1 ht hB hBW x1
  by_cases hjm : j / 8 < m1
  · have j1 : ¬ (m1 : Int) ≤ (j : Int) / 8 := by omega
    have HTO := Lib.hid hto
    clear hto
    go_enter Tryz.func148, Tryz.ntmps148
    go_wp2_with fail
    rw [← hW]
    clear hW
    go_quiet (fail)
    go_wp2_with fail
    obtain ⟨gb, rfl⟩ : ∃ gb, q1 = some ⟨gb, 0, none⟩ := by
      rcases HTO.out.2 with ⟨h1, h0⟩ | ⟨g', cap, cur', hv, _⟩
      · omega
      · obtain ⟨rfl, -⟩ : q1 = some ⟨g', 0, none⟩ ∧ c1 = cap := by simpa using hv
        exact ⟨g', rfl⟩
    have jk : j ≤ 2 ^ 52 := by omega
    clear s0 s2 s3
    go_loopw [22] (fun i' wr => ∃ k : Nat, k ≤ 32 ∧ i' = .int .i64 k ∧ Hid (PL wr base (.slice (some ⟨g, 0, none⟩) n c) n (ts.set i (.slice (some ⟨gb, 0, none⟩) m1 c1, if (maskF b j xs k).2 then -1 else k1, (maskF b j xs k).1))) ∧ Hid (Below base w wr) ∧
      Hid (wr.heap[w.heap.size]? = some (.cells #[.int .i64 d, .int .i64 i, .int .i64 j, .int .u32 b, av] 176 (0, 0)))) (fun i' _ => 32 - (intOf i').toNat)
    case atStart => exact ⟨0, by omega, rfl, by
      show PL _ _ _ _ _
      rw [show (ts.set i (Value.slice (some ⟨gb, 0, none⟩) m1 c1, if (maskF b j xs 0).2 then -1 else k1, (maskF b j xs 0).1)) = ts from set_get HT.out]
      exact H.out.keep (bdn HBW.out), bdn (HBW.out.mono hbase), X1.out⟩
    case round =>
      obtain ⟨k, hk, rfl, hP, hBl, hX⟩ := hrel
      by_cases hlt : k < 32
      · have hss := List.getElem?_set_self (l := ts) (i := i) (a := (Value.slice (some ⟨gb, 0, none⟩) m1 c1, (if (maskF b j xs k).2 then (-1 : Int) else k1), (maskF b j xs k).1)) (by rw [H.out.len]; exact hi)
        have s0 := (par_cells hP.out hss).1
        simp only at s0
        have s2 : wr.cell? ⟨w.heap.size, 2, none⟩ = some (.int .i64 j) := cell_of_row _ _ 2 _ _ _ hX.out
        have s3 : wr.cell? ⟨w.heap.size, 3, none⟩ = some (.int .u32 b) := cell_of_row _ _ 3 _ _ _ hX.out
        have HSS := Lib.hid hss; clear hss
        by_cases hin : (j + k) / 8 < m1
        · have in1 : ((j : Int) + (k : Int)) / 8 < (m1 : Int) := by omega
          have hidx : (((j : Int) + (k : Int)) / 8).toNat = (j + k) / 8 := by omega
          have hand := and_one b k hb32
          obtain ⟨q2, m2, c2, e2, hrow⟩ := hP.out.row _ (List.mem_of_getElem? HSS.out)
          simp only at e2 hrow
          obtain ⟨rfl, rfl, rfl⟩ : some ⟨gb, 0, none⟩ = q2 ∧ m1 = m2 ∧ c1 = c2 := by simpa using e2
          have hx : ∃ x, (maskF b j xs k).1[(j + k) / 8]? = some x := by
            have : (j + k) / 8 < (maskF b j xs k).1.length := by rw [maskF_len, ← HM0.out]; exact hin
            exact ⟨_, List.getElem?_eq_getElem this⟩
          obtain ⟨x, hx⟩ := hx
          have cx : wr.cell? ⟨gb, (j + k) / 8, none⟩ = some (B8 x) := by rw [hrow.cellAt _ (by omega), List.getElem?_map, hx]; rfl
          have zx : wr.frozen? ⟨gb, (j + k) / 8, none⟩ = false := hrow.frozenAt _
          have HX := Lib.hid hx
          clear hx e2
          by_cases hbit : b.testBit k = true
          · rw [if_pos hbit] at hand
            go_wp2_with fail
            go_region
            rw [flip_val x _ (Nat.mod_lt _ (by decide))]
            have P2 := Pl.byte_set (k := (j + k) / 8) hP.out HSS.out (x ^^^ UInt8.ofNat (2 ^ ((j + k) % 8)))
            rw [List.set_set] at P2
            have HSS2 := List.getElem?_set_self (l := ts) (i := i) (a := (Value.slice (some ⟨gb, 0, none⟩) m1 c1, (if (maskF b j xs k).2 then (-1 : Int) else k1), (maskF b j xs k).1.set ((j + k) / 8) (x ^^^ UInt8.ofNat (2 ^ ((j + k) % 8))))) (by rw [H.out.len]; exact hi)
            have hgb : gb < wr.heap.size ∧ base ≤ gb := ⟨lt_of_cell cx, (hrow.lt gb rfl).1⟩
            have hne1 : w.heap.size ≠ gb := by have := (HTO.out.lt gb rfl).2; omega
            have hX2 : Hid ((wr.setCell ⟨gb, (j + k) / 8, none⟩ (B8 (x ^^^ UInt8.ofNat (2 ^ ((j + k) % 8))))).heap[w.heap.size]? = some (.cells #[.int .i64 d, .int .i64 i, .int .i64 j, .int .u32 b, av] 176 (0, 0))) := hsc hX.out hne1
            have hBl2 : Hid (Below base w (wr.setCell ⟨gb, (j + k) / 8, none⟩ (B8 (x ^^^ UInt8.ofNat (2 ^ ((j + k) % 8)))))) := hBl.out.setCell hgb.2 _
            have HP2 := Lib.hid P2; have HH2 := Lib.hid HSS2
            clear cx zx s0 s2 s3 hrow P2 HSS2
            generalize wr.setCell ⟨gb, (j + k) / 8, none⟩ (B8 (x ^^^ UInt8.ofNat (2 ^ ((j + k) % 8)))) = w2 at *
            obtain ⟨y0, y1⟩ := par_cells HP2.out HH2.out
            simp only at y1
            have z1 : w2.frozen? ⟨g, i * 2 + 1, none⟩ = false := HP2.out.own.frozenAt _
            clear y0
            go_wp2
            go_roundw
            case rel =>
              refine ⟨k + 1, by omega, by go_num, ?_, ?_, ?_⟩
              · have P3 := Pl.from_set (HP2.out.keep (Below.refl _ _).drew) HH2.out (-1)
                rw [List.set_set] at P3
                have e : maskF b j xs (k + 1) = ((maskF b j xs k).1.set ((j + k) / 8) (x ^^^ UInt8.ofNat (2 ^ ((j + k) % 8))), true) := by
                  show (if b.testBit k = true ∧ (j + k) / 8 < xs.length then (flip (maskF b j xs k).1 (j + k), true) else maskF b j xs k) = _
                  rw [if_pos ⟨hbit, by rw [← HM0.out]; exact hin⟩]
                  unfold flip
                  rw [show (maskF b j xs k).1.getD ((j + k) / 8) 0 = x by simp [List.getD, HX.out]]
                rw [e]
                exact P3
              · exact (hBl2.out.drew).setCell hg _
              · exact hsc (show w2.drew.heap[w.heap.size]? = _ from hX2.out) (by show w.heap.size ≠ g; omega)
            case measure => simp [intOf]; omega
          · rw [if_neg hbit] at hand
            clear cx zx hrow
            go_wp2
            go_roundw
            case rel =>
              have e : maskF b j xs (k + 1) = maskF b j xs k := by
                show (if b.testBit k = true ∧ (j + k) / 8 < xs.length then (flip (maskF b j xs k).1 (j + k), true) else maskF b j xs k) = _
                rw [if_neg (fun h => hbit h.1)]
              exact ⟨k + 1, by omega, by go_num, by rw [e]; exact hP.out, hBl.out, hX.out⟩
            case measure => simp [intOf]; omega
        · have in1 : ¬ ((j : Int) + (k : Int)) / 8 < (m1 : Int) := by omega
          have hand := and_one b k hb32
          have e : Hid (maskF b j xs (k + 1) = maskF b j xs k) := by
            show (if b.testBit k = true ∧ (j + k) / 8 < xs.length then (flip (maskF b j xs k).1 (j + k), true) else maskF b j xs k) = _
            rw [if_neg (fun h => hin (by rw [HM0.out]; exact h.2))]
          by_cases hbit : b.testBit k = true
          · rw [if_pos hbit] at hand
            go_wp2
            go_roundw
            case rel => exact ⟨k + 1, by omega, by go_num, by rw [e.out]; exact hP.out, hBl.out, hX.out⟩
            case measure => simp [intOf]; omega
          · rw [if_neg hbit] at hand
            go_wp2
            go_roundw
            case rel => exact ⟨k + 1, by omega, by go_num, by rw [e.out]; exact hP.out, hBl.out, hX.out⟩
            case measure => simp [intOf]; omega
      · have hk32 : k = 32 := by omega
        subst hk32
        go_wp2
        go_ret
        refine RetP.of hP.out hBl.out ?_
        rw [List.map_set]; rfl
  · have j1 : (m1 : Int) ≤ (j : Int) / 8 := by omega
    have HC : Hid (maskP (parIs (.slice q1 m1 c1, k1, xs)) b j = (xs, k1)) := by unfold maskP parIs; rw [Hid]; simp only; rw [maskF_far b j xs (by rw [← HM0.out]; omega) 32]; rfl
    rw [HC.out]
    clear hto
    go_enter Tryz.func148, Tryz.ntmps148
    go_wp2_with fail
    rw [← hW]
    clear hW
    go_quiet (fail)
    go_wp2
    go_ret
    refine RetP.of (H.out.keep (bdn HBW.out)) (bdn (HBW.out.mono hbase)) ?_
    exact (set_get (by rw [List.getElem?_map, HT.out]; rfl)).symm
end Go.Proofs.YtfbmdlfkipipfaaGreatDoor
namespace Go.Proofs.YtfbmdlfkipipfaaGreatDoor
open Go.RowKit Go.By
structure ActD where
  d : Int
  i : Int
  j : Int
  b : Nat
  bs : List UInt8
abbrev Pack := List UInt8 × Int
def stepS (ps : List Pack) (a : ActD) : List Pack :=
  if a.d < 0 ∨ 6 ≤ a.d ∨ a.j < 0 then ps
  else if a.d = 5 then ps ++ [(a.bs, -1)]
  else match ps[a.i.toNat]? with
    | none => ps
    | some p => if a.i < 0 then ps
      else if a.d = 0 then dropAt ps a.i.toNat
      else if a.d = 1 then ps ++ [p]
      else if a.d = 2 then putAtP (dropAt ps a.i.toNat) (min a.j.toNat (ps.length - 1)) p
      else if a.d = 3 then ps.set a.i.toNat (cutP p a.j.toNat)
      else ps.set a.i.toNat (maskP p a.b a.j.toNat)
def playS (ps : List Pack) (acs : List ActD) : List Pack := acs.foldl stepS ps
theorem stepS_len (ps : List Pack) (a : ActD) : (stepS ps a).length ≤ ps.length + 1 := by
  unfold stepS
  split
  · omega
  · split
    · simp
    · split
      · omega
      · rename_i p hp
        have hi := (List.getElem?_eq_some_iff.1 hp).1
        split
        · omega
        · split
          · rw [dropAt_length hi]; omega
          · split
            · simp
            · split
              · rw [(putAtP_perm _ _ _).length_eq, List.length_cons, dropAt_length hi]; omega
              · split <;> simp
theorem stepS_room {ps : List Pack} {a : ActD} (h : ∀ p, p ∈ ps → Room p.1.length) (ha : Room a.bs.length) : ∀ p, p ∈ stepS ps a → Room p.1.length := by
  unfold stepS
  split
  · exact h
  · split
    · intro p hp
      rcases List.mem_append.1 hp with hp | hp
      · exact h p hp
      · simp at hp; subst hp; exact ha
    · split
      · exact h
      · rename_i p hp
        have hpm := List.mem_of_getElem? hp
        split
        · exact h
        · split
          · intro x hx; exact h x ((dropAt_sub _ _).subset hx)
          · split
            · intro x hx
              rcases List.mem_append.1 hx with hx | hx
              · exact h x hx
              · simp at hx; subst hx; exact h _ hpm
            · split
              · intro x hx
                rcases List.mem_cons.1 ((putAtP_perm _ _ _).subset hx) with rfl | hx
                · exact h _ hpm
                · exact h x ((dropAt_sub _ _).subset hx)
              · split
                · intro x hx
                  rcases List.mem_or_eq_of_mem_set hx with hx | rfl
                  · exact h x hx
                  · unfold cutP
                    split
                    · exact (h _ hpm).le (by rw [List.length_take]; omega)
                    · exact h _ hpm
                · intro x hx
                  rcases List.mem_or_eq_of_mem_set hx with hx | rfl
                  · exact h x hx
                  · unfold maskP; simp only; rw [maskF_len]; exact h _ hpm
/-- a slice value of acts that reads as a list -/
structure SlA (w : World) (p : Option Addr) (n c : Nat) (acs : List ActD) : Prop where
  len : acs.length = n
  max : c ≤ maxLen
  le : n ≤ c
  rs : ∀ k a, acs[k]? = some a → ∃ b o q m c', p = some ⟨b, o, none⟩ ∧ w.cell? ⟨b, o + k * 5, none⟩ = some (.int .i64 a.d) ∧ w.cell? ⟨b, o + k * 5 + 1, none⟩ = some (.int .i64 a.i) ∧ w.cell? ⟨b, o + k * 5 + 2, none⟩ = some (.int .i64 a.j) ∧
    w.cell? ⟨b, o + k * 5 + 3, none⟩ = some (.int .u32 a.b) ∧ w.cell? ⟨b, o + k * 5 + 4, none⟩ = some (.slice q m c') ∧ Sl B8 w q m c' a.bs ∧ a.i ≤ 9223372036854775807 ∧ a.j ≤ 9223372036854775807 ∧ a.b < 4294967296
theorem SlA.keep {w w' : World} {p : Option Addr} {n c : Nat} {acs : List ActD} (h : SlA w p n c acs) (hb : Below w.heap.size w w') : SlA w' p n c acs :=
  ⟨h.len, h.max, h.le, fun k a hk => by
    obtain ⟨b, o, q, m, c', hp, h0, h1, h2, h3, h4, h5, h6⟩ := h.rs k a hk
    have hlt := lt_of_cell h0
    exact ⟨b, o, q, m, c', hp, (hb.cell (p := ⟨b, o + k * 5, none⟩) hlt).trans h0, (hb.cell (p := ⟨b, o + k * 5 + 1, none⟩) hlt).trans h1, (hb.cell (p := ⟨b, o + k * 5 + 2, none⟩) hlt).trans h2, (hb.cell (p := ⟨b, o + k * 5 + 3, none⟩) hlt).trans h3, (hb.cell (p := ⟨b, o + k * 5 + 4, none⟩) hlt).trans h4, h5.keep hb, h6⟩⟩
theorem SlA.bound {w : World} {p : Option Addr} {n c : Nat} {acs : List ActD} (h : SlA w p n c acs) : n ≤ 9223372036854775807 := by have := h.le; have := h.max; unfold maxLen at this; omega
/-- the packets, each with its place -/
def initS (xss : List (List UInt8)) : List Pack := (List.range xss.length).map fun i => (xss.getD i [], (i : Int))
def blankS (n : Nat) : List Pack := List.replicate n ([], 0)
theorem initS_len (xss : List (List UInt8)) : (initS xss).length = xss.length := by simp [initS]
theorem initS_at {xss : List (List UInt8)} {k : Nat} {x : List UInt8} (h : xss[k]? = some x) : (initS xss)[k]? = some (x, (k : Int)) := by
  have hk := (List.getElem?_eq_some_iff.1 h).1
  obtain ⟨hk', e⟩ := List.getElem?_eq_some_iff.1 h
  simp [initS, hk, e]
end Go.Proofs.YtfbmdlfkipipfaaGreatDoor
