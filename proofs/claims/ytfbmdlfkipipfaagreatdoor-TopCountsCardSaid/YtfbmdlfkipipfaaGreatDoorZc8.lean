/- A sender while others turn; two takers beside each other. Of a plan that may not be there is no gate, no taker, no relay; a plan that may be as numbers. A region that draws its order, by shapes, by what holds of the world as operations run, and by ties between slots. Two slices of headers, each grown by one in a region that draws its order. A plan of an object; ranks of combinations; rows of headers of new bytes while others turn. Chapter 19: the law's awake. A sender and a taker in memory, carried along. The contracts of the document's sum: Put, Sum (bit by bit). Plain law: a packet of which one stretch of four bytes has turned is not let in. What TakerHas, TripRuns, TripArrives carry: rows of bytes that grow; a sender that may refuse. Arguments that came in, as bytes and slices of bytes. Slices of structs of two slices of bytes, that came in. Sources that came in: a slice of structs of a byte, bytes and a number, opened. What the laws of the packets ask first: few bytes, small plans. Chapter 19: TakerHas, of an object that the plan fits. The contracts of slices.Delete and slices.Insert at parcels. The contract of slices.Insert at parcels: one more, where there is room. Lists of parcels that the call owns: each owns its bytes, no two share them. The contracts of the acts: drop, move, forge. The contract of the act move. The contract of the act double. The contract of the act cut. One cell of a parcel is written: its bytes, or where it came from. The contract of the act mask. What acts do to lists of packets; acts that came in, read from memory. Acts that came in: a slice of structs of five cells, and one by value, opened. The contract of play. The contracts of Apply and Whole. The contracts of Whole, of slices.Equal at ints, of Harms; of the law's Few; the chapter's example. The contract of the law's Few of layer 20; the chapter's example. The plain law of WayWhole: what came whole is what was sent; acts that harm nothing leave all whole; acts one by one are as all at once. Chapter 22: what a trip comes to (plain); what a sender and a taker carry along while other blocks turn. Chapters 11, 17: a plan and an object that do not fit. Chapter 22: trip.Run of a plan and an object that fit. Chapter 22: the law's awake. Chapter 22: the law's Few; trip.Run of what does not fit. The theorems through the layers: small, few. The theorems through the layers: sent: the packets of an object. The theorems through the layers: awake. Plain law of TripArrives: which ones came hangs on lengths alone; what is harmed, calmly, is not let in. Chapter 22: trip.Vectors. Where equations first clash: plain law. A row of headers that read in an older world; vectors of rows. Numbers by their digits: plain laws of layer 6. Numbers by their digits: one digit more, one digit set, sums and products step by step, which is greater. Numbers as texts of base 16, and as trimmed bytes: plain laws. Numbers told by texts of base 16, by bytes, by words: plain laws. One step of a product by hand; texts cut into words. How many bytes a number needs; trimmed bytes: plain laws. Numbers in memory; made, Of. DERIVED: THE SHELF's CONTRACTS AT THIS DUMP, IN PLAIN WORDS (tools/lay-plain.mjs out of 'TryzShelf.lean', which tools/lay-shelf.mjs wrote): THE SAME DECLARATIONS UNDER THE SAME NAMES: 'import', 'namespace', 'open', 'def', 'theorem' AND NOTHING ELSE: no command of the shelf's: FOR A HAND-IN. Each laying: the table of numbers ('.._ren') and one theorem, a field a fact of the dump's own or the kernel's comparison; each contract: ONE APPLICATION. Numbers: Len, Cmp; the library's sums and products of words. The library: FormatUint of base 16. Texts as lists of bytes; builders. Numbers: plus. -/
import Derived.Test.YtfbmdlfkipipfaaGreatDoorZc7
import Derived.OpenShut
import Derived.Lib.SmallJoins
import Derived.Deep.DeepCutAuto
import Derived.Deep.RegionLaw
import Derived.Lib.Overlaps
import Derived.Shelf.Spec.SlicesInsert
import Derived.Lib.AppendZeros
import Derived.Deep.AppendLies
import Derived.Deep.RegionWith
import Derived.BigQuiet
import Derived.WalkKit
import Derived.Lib.ItoaNum
import Derived.Test.YtfbmdlfkipipfaaGreatDoorProg
import Derived.Deep.QuietTactic
import Derived.WalkLawsBesides
import Derived.WalkSpells
import Derived.Lib.Hide
import Derived.Shelf.Abstract
import Derived.Laws.ResultCell
import Derived.Laws.Rows
import Derived.Shelf.Bits.Mul64
import Derived.Shelf.Spec.BitsCarry
import Derived.Lib.ItoaWalk
import Derived.Laws.IdiomStrings
import Derived.Lib.Strings
import Derived.Lib.UnsafeStr
import Derived.Lib.AppendStr
import Derived.Lib.Builder
import Derived.OwnWalk
namespace Go.By
open Go.RowKit Go.Maps Go.Proofs.YtfbmdlfkipipfaaGreatDoor
section
variable {w w' : World} {base gt be L t k D N : Nat} {M v : Value} {C : DataW Unit} {K : List Rw} {st : Nat}
theorem TChg.owns (h : TChg w w' gt be v) (hT : Tkr w base gt be L t k D N M v C K st) {b2 T e n : Nat} {v2 : Value} {ys : List Value} (ho : w.ownsRow b2 T e v2 n ys) (h1 : T ≠ 126) (h2 : T ≠ 201) (h3 : ∀ g, v2.ownBlock = some g → v.ownBlock ≠ some g) : w'.ownsRow b2 T e v2 n ys := by
  refine owns_same ho h.size fun g2 hg2 => ?_
  rcases ho.2 with ⟨e1, _⟩ | ⟨g', cap, cur, e1, _, hh, _⟩
  · rw [e1] at hg2; cases hg2
  · have h4 := h3 g2 hg2
    rw [e1] at hg2; cases hg2
    refine h.block _ (lt_of_block hh) (fun e => ?_) (fun e => ?_) h4
    · have := hT.box; rw [← e, hh] at this; injection this with this; injection this with _ this _; exact h1 this
    · have := hT.elm.box; rw [← e, hh] at this; injection this with this; injection this with _ this _; exact h2 this
theorem tkr_owns_ne {b2 T e n : Nat} {v2 : Value} {ys : List Value} (hT : Tkr w base gt be L t k D N M v C K st) (ho : w.ownsRow b2 T e v2 n ys) (h : 139 ≠ T) : ∀ g, v2.ownBlock = some g → v.ownBlock ≠ some g := by
  intro g hg
  rcases ho.2 with ⟨e1, _⟩ | ⟨g', cap, cur, e1, _, hh, _⟩
  · rw [e1] at hg; cases hg
  · rw [e1] at hg; cases hg
    exact hT.elm.rows.ne_box hh h
theorem TChg.bw (h : TChg w w' gt be v) (hT : Tkr w base gt be L t k D N M v C K st) {b : Nat} {u : Value} {xs : List UInt8} (hu : Bw 5 w b u xs) : Bw 5 w' b u xs := by
  obtain ⟨q, m, c, e, l, o⟩ := hu
  exact ⟨q, m, c, e, l, h.owns hT o (by decide) (by decide) (tkr_owns_ne hT o (by decide))⟩
theorem TChg.rwl (h : TChg w w' gt be v) (hT : Tkr w base gt be L t k D N M v C K st) {b2 n2 : Nat} {v2 : Value} {K2 : List Rw} (h2 : RwL 139 5 w b2 v2 n2 K2) (hne : ∀ g, v2.ownBlock = some g → v.ownBlock ≠ some g) : RwL 139 5 w' b2 v2 n2 K2 := by
  obtain ⟨vs, a, b, o, r⟩ := h2
  exact ⟨vs, a, b, h.owns hT o (by decide) (by decide) hne, fun j u hj => by obtain ⟨x, hk, g1, g2⟩ := r j u hj; exact ⟨x, hk, h.bw hT g1, h.bw hT g2⟩⟩
theorem TChg.cnt (h : TChg w w' gt be v) (hT : Tkr w base gt be L t k D N M v C K st) {M2 : Value} {N2 : Nat} {C2 : DataW Unit} (hc : CntM w M2 N2 C2) : CntM w' M2 N2 C2 := by
  refine ⟨?_, hc.small⟩
  rcases hc.at_ with h1 | ⟨b, e, ho⟩
  · exact .inl h1
  · refine .inr ⟨b, e, ?_⟩
    have hlt := ho.lt
    obtain ⟨es, clock, h1, F, hs, hD⟩ := ho
    refine ⟨es, clock, (h.block b hlt (fun e => ?_) (fun e => ?_) (fun e => ?_)).trans h1, F, hs, hD⟩
    · have := hT.box; rw [← e, h1] at this; cases this
    · have := hT.elm.box; rw [← e, h1] at this; cases this
    · obtain ⟨vs, _, _, o, _⟩ := hT.elm.rows
      rcases o.2 with ⟨e1, _⟩ | ⟨g', cap, cur, e1, _, hh, _⟩
      · rw [e1] at e; cases e
      · rw [e1] at e; cases e
        rw [h1] at hh; cases hh
end
theorem sl_gchg {w w' : World} {q : Option Addr} {n c g T : Nat} {ys : List UInt8} {cs : Array Value} {fr : Nat × Nat} (h : Sl B8 w q n c ys) (hg : w.heap[g]? = some (.cells cs T fr)) (hno : ∀ (j : Nat) (x : UInt8), cs[j]? ≠ some (B8 x)) (hc : GChg w g w') : Sl B8 w' q n c ys :=
  ⟨h.len, h.le, h.max, h.nil, fun j hj => by
    obtain ⟨b, o, e, hcl⟩ := h.rs j hj
    refine ⟨b, o, e, ?_⟩
    have hne : b ≠ g := fun e1 => by
      rw [e1, cell_of_row _ _ (o + j) _ _ _ hg] at hcl
      exact hno _ _ hcl
    exact (World.cell?_of_block (a := ⟨b, o + j, none⟩) (hc.block b (lt_of_cell hcl) hne)).trans hcl⟩
theorem sl2_gchg {w w' : World} {q : Option Addr} {n c g T : Nat} {yss : List (List UInt8)} {cs : Array Value} {fr : Nat × Nat} (h : Sl2 w q n c yss) (hq : ∀ a, q = some a → a.block ≠ g) (hg : w.heap[g]? = some (.cells cs T fr)) (hno : ∀ (j : Nat) (x : UInt8), cs[j]? ≠ some (B8 x)) (hc : GChg w g w') : Sl2 w' q n c yss :=
  ⟨h.len, h.le, h.max, h.nil, fun j ys hj => by
    obtain ⟨b, o, q', c', e, hcl, hs⟩ := h.rs j ys hj
    exact ⟨b, o, q', c', e, (World.cell?_of_block (a := ⟨b, o + j, none⟩) (hc.block b (lt_of_cell hcl) (hq _ e))).trans hcl, sl_gchg hs hg hno hc⟩⟩
theorem GChg.trans {w a b : World} {g : Nat} (h : GChg w g a) (h2 : GChg a g b) : GChg w g b :=
  ⟨h2.os.trans h.os, h2.tape.trans h.tape, h2.output.trans h.output, Nat.le_trans h.size h2.size, fun i hi hg => (h2.block i (Nat.lt_of_lt_of_le hi h.size) hg).trans (h.block i hi hg)⟩
theorem GChg.then {w a b : World} {g B : Nat} (h : GChg w g a) (h2 : Below B a b) (hB : w.heap.size ≤ B) : GChg w g b :=
  ⟨h2.os.trans h.os, h2.tape.trans h.tape, h2.output.trans h.output, Nat.le_trans h.size h2.size, fun i hi hg => (h2.block i (Nat.lt_of_lt_of_le hi hB)).trans (h.block i hi hg)⟩
end Go.By
namespace Go.Proofs.YtfbmdlfkipipfaaGreatDoor
open Go.RowKit Go.By Go.Maps
/-- a sender, seen from the world in which it was made -/
structure SndO (w0 w : World) (gs L t k D nx : Nat) (xss : List (List UInt8)) : Prop where
  ok : POK L t k D
  mem : ∃ q c n0, w0.heap[gs]? = some (.cells #[.int .i64 (L : Nat), .int .i64 (t : Nat), .int .i64 (k : Nat), .int .u32 (D : Nat), .slice q k c, .int .u64 (n0 : Nat)] 153 (0, 0)) ∧ w.heap[gs]? = some (.cells #[.int .i64 (L : Nat), .int .i64 (t : Nat), .int .i64 (k : Nat), .int .u32 (D : Nat), .slice q k c, .int .u64 (nx : Nat)] 153 (0, 0)) ∧ Sl2 w0 q k c xss ∧ ∀ a, q = some a → a.block ≠ gs
  fit : ∀ xs, xs ∈ xss → xs.length = t
  chg : GChg w0 gs w
theorem SndO.start {w : World} {gs L t k D nx : Nat} {xss : List (List UInt8)} (h : Snd w gs L t k D nx xss) : SndO w w gs L t k D nx xss := by
  obtain ⟨q, c, h1, h2, h3⟩ := h.mem
  exact ⟨h.ok, ⟨q, c, nx, h1, h1, h2, h3⟩, h.fit, ⟨rfl, rfl, rfl, Nat.le_refl _, fun _ _ _ => rfl⟩⟩
theorem SndO.snd {w0 w : World} {gs L t k D nx : Nat} {xss : List (List UInt8)} (h : SndO w0 w gs L t k D nx xss) : Snd w gs L t k D nx xss := by
  obtain ⟨q, c, n0, h1, h2, h3, h4⟩ := h.mem
  exact ⟨h.ok, ⟨q, c, h2, sl2_gchg h3 h4 h1 noByte6 h.chg, h4⟩, h.fit⟩
theorem SndO.lt {w0 w : World} {gs L t k D nx : Nat} {xss : List (List UInt8)} (h : SndO w0 w gs L t k D nx xss) : gs < w0.heap.size := by
  obtain ⟨q, c, n0, h1, h2, h3, h4⟩ := h.mem
  exact lt_of_block h1
theorem SndO.keep {w0 w w' : World} {gs L t k D nx B : Nat} {xss : List (List UInt8)} (h : SndO w0 w gs L t k D nx xss) (hb : Below B w w') (hB : w0.heap.size ≤ B) : SndO w0 w' gs L t k D nx xss := by
  have hl := h.lt
  obtain ⟨q, c, n0, h1, h2, h3, h4⟩ := h.mem
  exact ⟨h.ok, ⟨q, c, n0, h1, (hb.block _ (Nat.lt_of_lt_of_le hl hB)).trans h2, h3, h4⟩, h.fit, h.chg.then hb hB⟩
theorem SndO.sent {w0 w w' : World} {gs L t k D nx nx' : Nat} {xss : List (List UInt8)} {ys : List UInt8} {code : Int} {e : Ending} (h : SndO w0 w gs L t k D nx xss) (hs : SdRetQ w gs L t k D xss ys nx nx' code e w') : SndO w0 w' gs L t k D nx' xss := by
  obtain ⟨q, c, n0, h1, h2, h3, h4⟩ := h.mem
  obtain ⟨⟨_, _, _, _, _, _, hg⟩, hq⟩ := hs
  exact ⟨h.ok, ⟨q, c, n0, h1, hq q c h2, h3, h4⟩, h.fit, h.chg.trans hg⟩
set_option maxRecDepth 100000 in
set_option maxHeartbeats 1000000 in
/-- of a source that does not fit nothing is sent -/
theorem SSend_bad (gs L t k D nx : Nat) (xss : List (List UInt8)) (m : UInt8) (p : Option Addr) (j c s : Nat) (xs : List UInt8) (w : World) (hS : Snd w gs L t k D nx xss) (hnx : nx < 4294967296) (hm : srcC m j k ≠ 0) (h : Sl B8 w p j c xs) (hr : Room j) :
    Calls Tryz.prog 31 #[.pointer (some ⟨gs, 0, none⟩), SVal m p j c s] w fun e w' => e = .returned (.tuple #[.slice none 0 0, .int .i64 (srcC m j k)]) ∧ Below w.heap.size w w' := by
  obtain ⟨qs, cs, hbox, hsx, hqs⟩ := hS.mem
  have hV : Hid (∀ w, Sl B8 w p j c xs → Calls Tryz.prog 32 #[SVal m p j c s, .int .i64 (k : Nat)] w (SRet w (if srcC m j k = 0 then vecS m xs s k else []) (srcC m j k))) := fun w h => SVector_any m p j c s k xs hS.ok.k1 hS.ok.k2 w h hr
  have e0 : ((nx : Int) == 4294967296) = false := beq_eq_false_iff_ne.2 (by omega)
  have hz : (srcC m j k != 0) = true := bne_iff_ne.2 hm
  generalize srcC m j k = R at *
  generalize (if R = 0 then vecS m xs s k else []) = V at *
  have H := Lib.hid h
  have HBOX := Lib.hid hbox
  have a0 : ∀ o', (w.alloc o').cell? ⟨gs, 5, none⟩ = some (.int .u64 (nx : Nat)) := fun _ => calloc (cells_six hbox).2.2.2.2.2
  clear hS h hm hsx hqs hbox hr hnx
  go_enter Tryz.func31, Tryz.ntmps31
  go_wp2_with fail
  have hgs := lt_of_block HBOX.out
  have B0 : Hid (Below w.heap.size w (w.alloc (.cells #[B8 m, .slice p j c, .int .u64 (s : Nat)] 66 (0, 0)))) := al (Below.refl _ _) (Nat.le_refl _)
  have k1 : (w.alloc (.cells #[B8 m, .slice p j c, .int .u64 (s : Nat)] 66 (0, 0))).heap[w.heap.size]? = some (.cells #[B8 m, .slice p j c, .int .u64 (s : Nat)] 66 (0, 0)) := hnew rfl
  have k2 := (B0.out.block _ hgs).trans HBOX.out
  generalize w.alloc (.cells #[B8 m, .slice p j c, .int .u64 (s : Nat)] 66 (0, 0)) = w1 at *
  have H1 := Lib.hid (H.out.keep B0.out)
  obtain ⟨b0, b1, b2⟩ := cells_three k1
  obtain ⟨c0, c1, c2, c3, c4, c5⟩ := cells_six k2
  refine wp_region_shapes (fun ix => ([.val (.agg #[B8 m, .slice p j c, .int .u64 (s : Nat)]), .val (.pointer (some ⟨gs, 0, none⟩)), .val (.pointer (some ⟨gs, 0, none⟩)), .val (.pointer (some ⟨gs, 0, none⟩)), .val (.pointer (some ⟨gs, 2, none⟩)), .val (.int .i64 (k : Nat)), ShSR (V) (R), ShSR (V) (R), .bytes (V), .val (.int .i64 (R)), .bytes (V), .val (.int .i64 (R))][ix]?).getD (.any)) 79 rfl (by kernel_rfl) (by decide) (by decide) (by decide) ?_ ?_
  · refine ⟨?_, ?_, ?_, ?_, ?_, ?_, ?_, ?_, ?_, ?_, ?_, ?_, trivial⟩
    · intro a W hb0 hs hp hi; have hb := undrew hb0; clear hb0
      have tt : sl a 3 = .pointer (some ⟨w.heap.size, 0, none⟩) := hi 3 (by decide)
      have dd0 := (hb.cell (p := ⟨w.heap.size, 0, none⟩) (lt_of_cell b0)).trans b0
      have dd1 := (hb.cell (p := ⟨w.heap.size, 1, none⟩) (lt_of_cell b1)).trans b1
      have dd2 := (hb.cell (p := ⟨w.heap.size, 2, none⟩) (lt_of_cell b2)).trans b2
      refine ite_y rfl (wp_val (.agg #[B8 m, .slice p j c, .int .u64 (s : Nat)]) ?_ ?_)
      · simp only [execOp, eval_tmp, tt]; simp [go_sem, dd0, dd1, dd2]
      · exact ⟨_, rfl, Below.refl _ _, rfl⟩
    · intro a W hb0 hs hp hi; have hb := undrew hb0; clear hb0
      have t0 : sl a 0 = .pointer (some ⟨gs, 0, none⟩) := hi 0 (by decide)
      exact ite_y rfl (wp_val (sl a 0) rfl ⟨_, rfl, Below.refl _ _, t0⟩)
    · intro a W hb0 hs hp hi; have hb := undrew hb0; clear hb0
      have tt : sl a 20 = .pointer (some ⟨gs, 0, none⟩) := hp 1 (by decide)
      refine ite_y rfl (wp_val (.pointer (some ⟨gs, 0, none⟩)) ?_ ?_)
      · simp only [execOp, eval_tmp, tt]; simp [go_sem]
      · exact ⟨_, rfl, Below.refl _ _, rfl⟩
    · intro a W hb0 hs hp hi; have hb := undrew hb0; clear hb0
      have tt : sl a 21 = .pointer (some ⟨gs, 0, none⟩) := hp 2 (by decide)
      refine ite_y rfl (wp_val (.pointer (some ⟨gs, 0, none⟩)) ?_ ?_)
      · simp only [execOp, eval_tmp, tt]; simp [go_sem]
      · exact ⟨_, rfl, Below.refl _ _, rfl⟩
    · intro a W hb0 hs hp hi; have hb := undrew hb0; clear hb0
      have tt : sl a 22 = .pointer (some ⟨gs, 0, none⟩) := hp 3 (by decide)
      refine ite_y rfl (wp_val (.pointer (some ⟨gs, 2, none⟩)) ?_ ?_)
      · simp only [execOp, eval_tmp, tt]; simp [go_sem]
      · exact ⟨_, rfl, Below.refl _ _, rfl⟩
    · intro a W hb0 hs hp hi; have hb := undrew hb0; clear hb0
      have tt : sl a 23 = .pointer (some ⟨gs, 2, none⟩) := hp 4 (by decide)
      have dd := (hb.cell (p := ⟨gs, 2, none⟩) (lt_of_cell c2)).trans c2
      refine ite_y rfl (wp_val (.int .i64 (k : Nat)) ?_ ?_)
      · simp only [execOp, eval_tmp, tt]; simp [go_sem, dd]
      · exact ⟨_, rfl, Below.refl _ _, rfl⟩
    · intro a W hb0 hs hp hi; have hb := undrew hb0; clear hb0
      have t19 : sl a 19 = .agg #[B8 m, .slice p j c, .int .u64 (s : Nat)] := hp 0 (by decide)
      have t24 : sl a 24 = .int .i64 (k : Nat) := hp 5 (by decide)
      refine ite_y rfl (wp_enter 32 #[SVal m p j c s, .int .i64 (k : Nat)] ?_ (hV.out _ (H1.out.keep hb)) ?_)
      · simp only [execOp, resolve, List.map_toArray, List.map, eval_tmp, eval_func, eval_const, t19, t24]; simp [go_sem]
      · rintro e W' ⟨q5, n5, g5, rfl, o5, hw⟩; exact ⟨_, rfl, _, rfl, hw, q5, n5, g5, rfl, o5⟩
    · intro a W hb0 hs hp hi; have hb := undrew hb0; clear hb0
      exact ite_y rfl (wp_val (sl a 25) rfl ⟨_, rfl, Below.refl _ _, hp 6 (by decide)⟩)
    · intro a W hb0 hs hp hi; have hb := undrew hb0; clear hb0
      have tt : SRT (V) (R) (sl a 18) W := hp 7 (by decide)
      obtain ⟨q5, n5, g5, tt, z5⟩ := tt
      refine ite_y rfl (wp_val (.slice q5 n5 g5) ?_ ?_)
      · simp only [execOp, eval_tmp, tt]; rfl
      · exact ⟨_, rfl, Below.refl _ _, q5, n5, g5, rfl, z5⟩
    · intro a W hb0 hs hp hi; have hb := undrew hb0; clear hb0
      have tt : SRT (V) (R) (sl a 18) W := hp 7 (by decide)
      obtain ⟨q5, n5, g5, tt, z5⟩ := tt
      refine ite_y rfl (wp_val (.int .i64 (R)) ?_ ?_)
      · simp only [execOp, eval_tmp, tt]; rfl
      · exact ⟨_, rfl, Below.refl _ _, rfl⟩
    · intro a W hb0 hs hp hi; have hb := undrew hb0; clear hb0
      exact ite_y rfl (wp_val (sl a 26) rfl ⟨_, rfl, Below.refl _ _, hp 8 (by decide)⟩)
    · intro a W hb0 hs hp hi; have hb := undrew hb0; clear hb0
      have t27 : sl a 27 = .int .i64 (R) := hp 9 (by decide)
      exact ite_y rfl (wp_val (sl a 27) rfl ⟨_, rfl, Below.refl _ _, t27⟩)
  intro a w2 hb hs hd hI ht
  have ha := act_is [19, 20, 21, 22, 23, 24, 25, 18, 26, 27, 6, 7] hs hd ht (by decide)
  have t7 : sl a 7 = .int .i64 (R) := hI 11 (by decide)
  have y6 := hI 10 (by decide)
  obtain ⟨q6, n6, c6, t6, z6⟩ := y6
  simp only [List.foldl, t7, t6] at ha
  generalize sl a 19 = u19 at ha
  generalize sl a 20 = u20 at ha
  generalize sl a 21 = u21 at ha
  generalize sl a 22 = u22 at ha
  generalize sl a 23 = u23 at ha
  generalize sl a 24 = u24 at ha
  generalize sl a 25 = u25 at ha
  generalize sl a 18 = u18 at ha
  generalize sl a 26 = u26 at ha
  generalize sl a 27 = u27 at ha
  simp only [Act.put, List.setIfInBounds_toArray, List.set_cons_zero, List.set_cons_succ] at ha
  rw [ha]
  clear ha hI ht
  have HB2 := Lib.hid (bl B0.out hb B0.out.size)
  clear hb z6 k1 k2 b0 b1 b2 c0 c1 c2 c3 c4 c5 H1
  go_wp2
  go_ret2
  exact ⟨rfl, HB2.out⟩
end Go.Proofs.YtfbmdlfkipipfaaGreatDoor
namespace Go.Proofs.YtfbmdlfkipipfaaGreatDoor
open Go.RowKit Go.By Go.Maps
theorem pok_of {l s n d : Int} (hl : l ≤ 9223372036854775807) (hc : checkS l s n = 0) (h0 : 0 ≤ d) (h1 : d < 4294967296) : ∃ L t k D : Nat, l = L ∧ s = t ∧ n = k ∧ d = D ∧ POK L t k D := by
  have hf : fitS l s = 0 ∧ n = needS l s := by
    unfold checkS at hc
    by_cases hf : fitS l s = 0
    · rw [if_pos hf] at hc
      refine ⟨hf, ?_⟩
      by_cases hn : n = needS l s
      · exact hn
      · rw [if_neg hn] at hc; omega
    · rw [if_neg hf] at hc; exact absurd hc hf
  obtain ⟨hf, hn⟩ := hf
  have hs : 0 ≤ l ∧ 1 ≤ s ∧ s ≤ 65535 ∧ needS l s ≤ 4096 := by
    unfold fitS at hf
    split at hf
    · omega
    · split at hf
      · omega
      · split at hf
        · omega
        · omega
  obtain ⟨g1, g2⟩ := needS_pos hs.1 hs.2.1
  refine ⟨l.toNat, s.toNat, n.toNat, d.toNat, by omega, by omega, by omega, by omega, ⟨?_, by omega, by omega, by omega, by omega, by omega, by omega⟩⟩
  rw [show ((l.toNat : Nat) : Int) = l by omega, show ((s.toNat : Nat) : Int) = s by omega, show ((n.toNat : Nat) : Int) = n by omega]
  exact hc
end Go.Proofs.YtfbmdlfkipipfaaGreatDoor
namespace Go.By
open Go.RowKit
section
variable {P : Program} {ops : Array Oper} {Q : Exit → Act → World → Prop}
end
end Go.By
namespace Go.By
open Go.RowKit
theorem Hdr.keep {T base i : Nat} {w1 w w' : World} {v : Value} {xss : List (List UInt8)} (h : Hdr T w1 base w v i xss) (hb : Below w.heap.size w w') : Hdr T w1 base w' v i xss := by
  obtain ⟨vs, o, hl, hr⟩ := h
  exact ⟨vs, owns_keepv o hb, hl, hr⟩
section
variable {T : Nat} {wz W w w' : World} {va vb : Value} {n i4 i9 i : Nat} {A B : List (List UInt8)} {dn : Nat → Bool}
end
end Go.By
namespace Go.Proofs.YtfbmdlfkipipfaaGreatDoor
open Go.RowKit Go.By Gf Go.Maps
/-- an object that a plan fits -/
structure ObjP (n t k D : Nat) : Prop where
  ok : POK n t k D
  fit : ∀ i : Nat, i < k → i * t ≤ n
  le : n ≤ k * t
theorem of_obj {n : Nat} {s d : Int} (hf : fitS n s = 0) (hn : (n : Int) ≤ 9223372036854775807) (d0 : 0 ≤ d) (d1 : d < 4294967296) :
    ∃ t k D : Nat, s = t ∧ d = D ∧ ObjP n t k D ∧ ofS n s d = .tuple #[PVal n t k D, .int .i64 0] := by
  have hc : checkS (n : Int) s (needS n s) = 0 := by unfold checkS; rw [if_pos hf, if_pos rfl]
  obtain ⟨L, t, k, D, e1, e2, e3, e4, hP⟩ := pok_of hn hc d0 d1
  have e1' : L = n := by omega
  subst e1'
  subst e2
  subst e4
  refine ⟨t, k, D, rfl, rfl, ⟨hP, ?_, ?_⟩, ?_⟩
  · intro i hi
    by_cases h0 : (L : Int) = 0
    · have : needS L t = 1 := by unfold needS; rw [if_pos h0]
      have : i = 0 := by omega
      subst this; omega
    · have h5 := (needS_spec (l := L) (s := t) (by omega) (by have := hP.t1; omega)).1
      rw [e3] at h5
      have h6 : (i : Int) * t ≤ ((k : Int) - 1) * t := Int.mul_le_mul_of_nonneg_right (by omega) (by omega)
      have h7 : ((i * t : Nat) : Int) ≤ (L : Int) := by rw [Int.natCast_mul]; exact Int.le_of_lt (Int.lt_of_le_of_lt h6 h5)
      omega
  · by_cases h0 : (L : Int) = 0
    · have : L = 0 := by omega
      subst this; omega
    · have h5 := (needS_spec (l := L) (s := t) (by omega) (by have := hP.t1; omega)).2
      rw [e3] at h5
      have h7 : (L : Int) ≤ ((k * t : Nat) : Int) := by rw [Int.natCast_mul]; exact h5
      omega
  · unfold ofS; rw [if_pos hf, e3]
theorem of_none {n : Nat} {s d : Int} (hf : fitS n s ≠ 0) : ofS n s d = .tuple #[.agg #[.int .i64 0, .int .i64 0, .int .i64 0, .int .u32 0], .int .i64 (fitS n s)] := by
  unfold ofS; rw [if_neg hf]
end Go.Proofs.YtfbmdlfkipipfaaGreatDoor
namespace Go.By
open Go.RowKit Go.Maps Go.Proofs.YtfbmdlfkipipfaaGreatDoor
theorem fresh_same {T : TypeId} {B : Nat} {w w' : World} {q : Option Addr} {n c : Nat} {xs : List UInt8} (h : Fresh T B w q n c xs) (hp : ∀ (b : Nat) (cs : Array Value) (fr : Nat × Nat), w.heap[b]? = some (.cells cs T fr) → w'.heap[b]? = w.heap[b]?) : Fresh T B w' q n c xs := by
  have hd : ∀ a, q = some a → w'.heap[a.block]? = w.heap[a.block]? := fun a ha => by
    obtain ⟨cs, fr, e⟩ := h.ty a ha; exact hp _ cs fr e
  refine ⟨⟨h.sl.len, h.sl.le, h.sl.max, h.sl.nil, fun i hi => ?_⟩, h.new, fun a ha => ?_⟩
  · obtain ⟨b, o, e, hc⟩ := h.sl.rs i hi
    exact ⟨b, o, e, (World.cell?_of_block (a := ⟨b, o + i, none⟩) (show w'.heap[b]? = w.heap[b]? from hd ⟨b, o, none⟩ e)).trans hc⟩
  · obtain ⟨cs, fr, e⟩ := h.ty a ha
    exact ⟨cs, fr, (hd a ha).trans e⟩
theorem GChg.same {w w' : World} {g T' : Nat} {old : Array Value} {fr : Nat × Nat} (h : GChg w g w') (hg : w.heap[g]? = some (.cells old T' fr)) {T : TypeId} (hne : T' ≠ T) : ∀ (b : Nat) (cs : Array Value) (fr : Nat × Nat), w.heap[b]? = some (.cells cs T fr) → w'.heap[b]? = w.heap[b]? := fun b cs fr hb =>
  (h.blk hg hb hne).trans hb.symm
theorem TChg.same {w w' : World} {base gt be L t k D N : Nat} {M v : Value} {C : DataW Unit} {K : List Rw} {st : Nat} (h : TChg w w' gt be v) (hT : Tkr w base gt be L t k D N M v C K st) {T : TypeId} (h1 : T ≠ 126) (h2 : T ≠ 201) (h3 : 139 ≠ T) : ∀ (b : Nat) (cs : Array Value) (fr : Nat × Nat), w.heap[b]? = some (.cells cs T fr) → w'.heap[b]? = w.heap[b]? := fun b cs fr hb =>
  (h.blk hT hb h1 h2 h3).trans hb.symm
/-- headers of bytes in new memory -/
def HdrF (T2 T1 : TypeId) (B : Nat) (w : World) (v : Value) (n : Nat) (xss : List (List UInt8)) : Prop :=
  ∃ vs, w.ownsRow B T2 1 v n vs ∧ xss.length = n ∧ ∀ (j : Nat) (u : Value), vs[j]? = some u → ∃ q m c xs, u = .slice q m c ∧ xss[j]? = some xs ∧ Fresh T1 B w q m c xs
theorem HdrF.nil (T2 T1 B : Nat) (w : World) : HdrF T2 T1 B w (.slice none 0 0) 0 [] := ⟨[], World.ownsRow_nil _ _ _ _, rfl, fun j u h => by simp at h⟩
theorem HdrF.shape {T2 T1 B n : Nat} {w : World} {v : Value} {xss : List (List UInt8)} (h : HdrF T2 T1 B w v n xss) : ∃ q c, v = .slice q n c := by
  obtain ⟨vs, o, _⟩ := h; exact owns_shape o
theorem HdrF.len {T2 T1 B n : Nat} {w : World} {v : Value} {xss : List (List UInt8)} (h : HdrF T2 T1 B w v n xss) : xss.length = n := by
  obtain ⟨vs, o, l, _⟩ := h; exact l
theorem HdrF.keep {T2 T1 B n : Nat} {w w' : World} {v : Value} {xss : List (List UInt8)} (h : HdrF T2 T1 B w v n xss) (hb : Below w.heap.size w w') : HdrF T2 T1 B w' v n xss := by
  obtain ⟨vs, o, l, r⟩ := h
  refine ⟨vs, owns_keepv o hb, l, fun j u hj => ?_⟩
  obtain ⟨q, m, c, xs, e, hx, hf⟩ := r j u hj
  exact ⟨q, m, c, xs, e, hx, hf.keep hb⟩
theorem HdrF.same {T2 T1 B n : Nat} {w w' : World} {v : Value} {xss : List (List UInt8)} (h : HdrF T2 T1 B w v n xss) (hs : w.heap.size ≤ w'.heap.size) (h2 : ∀ (b : Nat) (cs : Array Value) (fr : Nat × Nat), w.heap[b]? = some (.cells cs T2 fr) → w'.heap[b]? = w.heap[b]?) (h1 : ∀ (b : Nat) (cs : Array Value) (fr : Nat × Nat), w.heap[b]? = some (.cells cs T1 fr) → w'.heap[b]? = w.heap[b]?) : HdrF T2 T1 B w' v n xss := by
  obtain ⟨vs, o, l, r⟩ := h
  refine ⟨vs, owns_same o hs fun g hg => ?_, l, fun j u hj => ?_⟩
  · rcases o.2 with ⟨e1, _⟩ | ⟨g', cap, cur, e1, _, hh, _⟩
    · rw [e1] at hg; cases hg
    · rw [e1] at hg; cases hg
      exact h2 _ _ _ hh
  · obtain ⟨q, m, c, xs, e, hx, hf⟩ := r j u hj
    exact ⟨q, m, c, xs, e, hx, fresh_same hf h1⟩
theorem HdrF.sl2 {T2 T1 B n : Nat} {w : World} {q : Option Addr} {c : Nat} {xss : List (List UInt8)} (h : HdrF T2 T1 B w (.slice q n c) n xss) : Sl2 w q n c xss := by
  obtain ⟨vs, o, l, r⟩ := h
  have hd : Hdr T2 w B w (.slice q n c) n xss := ⟨vs, o, l, fun j u hj => by
    obtain ⟨q, m, c, xs, e, hx, hf⟩ := r j u hj
    exact ⟨q, m, c, xs, e, hx, hf.sl⟩⟩
  exact hd.sl2 (Below.refl _ _)
/-- one more -/
theorem HdrF.push {T2 T1 B n : Nat} {w w' : World} {v v' : Value} {xss : List (List UInt8)} {vs : List Value} {q : Option Addr} {m c : Nat} {xs : List UInt8} (ho : w'.ownsRow B T2 1 v' (n + 1) (vs ++ [.slice q m c])) (hvl : vs.length = n) (hl : xss.length = n)
    (hr : ∀ (j : Nat) (u : Value), vs[j]? = some u → ∃ q m c xs, u = .slice q m c ∧ xss[j]? = some xs ∧ Fresh T1 B w q m c xs) (hx : Fresh T1 B w q m c xs) (hp : ∀ (b : Nat) (cs : Array Value) (fr : Nat × Nat), w.heap[b]? = some (.cells cs T1 fr) → w'.heap[b]? = w.heap[b]?) : HdrF T2 T1 B w' v' (n + 1) (xss ++ [xs]) := by
  refine ⟨_, ho, by simp [hl], fun j u hj => ?_⟩
  by_cases h : j < vs.length
  · rw [List.getElem?_append_left h] at hj
    obtain ⟨q, m, c, ys, e, hy, hf⟩ := r_of hr hj
    exact ⟨q, m, c, ys, e, by rw [List.getElem?_append_left (by omega)]; exact hy, fresh_same hf hp⟩
  · rw [List.getElem?_append_right (by omega)] at hj
    by_cases h0 : j - vs.length = 0
    · rw [h0] at hj
      simp at hj
      refine ⟨q, m, c, xs, hj.symm, ?_, fresh_same hx hp⟩
      rw [List.getElem?_append_right (by omega), show j - xss.length = 0 by omega]; rfl
    · rw [List.getElem?_eq_none (by simp; omega)] at hj; cases hj
where
  r_of {T1 B : Nat} {w : World} {vs : List Value} {xss : List (List UInt8)} {j : Nat} {u : Value} (hr : ∀ (j : Nat) (u : Value), vs[j]? = some u → ∃ q m c xs, u = .slice q m c ∧ xss[j]? = some xs ∧ Fresh T1 B w q m c xs) (hj : vs[j]? = some u) := hr j u hj
end Go.By
namespace Go.Proofs.YtfbmdlfkipipfaaGreatDoor
open Go.RowKit Go.By Go.Maps
end Go.Proofs.YtfbmdlfkipipfaaGreatDoor
namespace Go.By
open Go.RowKit Go.Maps Go.Proofs.YtfbmdlfkipipfaaGreatDoor
/-- what stays of other types -/
def OthS (T : TypeId) : Prop := T ≠ 126 ∧ T ≠ 201 ∧ 139 ≠ T ∧ 153 ≠ T
structure KeepS (w w' : World) : Prop where
  size : w.heap.size ≤ w'.heap.size
  same : ∀ T, OthS T → ∀ (b : Nat) (cs : Array Value) (fr : Nat × Nat), w.heap[b]? = some (.cells cs T fr) → w'.heap[b]? = w.heap[b]?
theorem KeepS.of {w w' : World} (h : Below w.heap.size w w') : KeepS w w' := ⟨h.size, fun _ _ b _ _ hb => h.block b (lt_of_block hb)⟩
theorem KeepS.trans {w a b : World} (h : KeepS w a) (h2 : KeepS a b) : KeepS w b :=
  ⟨Nat.le_trans h.size h2.size, fun T hT i cs fr hi => (h2.same T hT i cs fr ((h.same T hT i cs fr hi).trans hi)).trans (h.same T hT i cs fr hi)⟩
theorem KeepS.blk {w w' : World} (h : KeepS w w') {T b : Nat} {cs : Array Value} {fr : Nat × Nat} (hT : OthS T) (hb : w.heap[b]? = some (.cells cs T fr)) : w'.heap[b]? = some (.cells cs T fr) := (h.same T hT b cs fr hb).trans hb
theorem KeepS.fresh {w w' : World} (h : KeepS w w') {T B n c : Nat} {q : Option Addr} {xs : List UInt8} (hT : OthS T) (hf : Fresh T B w q n c xs) : Fresh T B w' q n c xs := fresh_same hf (h.same T hT)
theorem KeepS.hdr {w w' : World} (h : KeepS w w') {T2 T1 B n : Nat} {v : Value} {xss : List (List UInt8)} (h2 : OthS T2) (h1 : OthS T1) (hf : HdrF T2 T1 B w v n xss) : HdrF T2 T1 B w' v n xss := hf.same h.size (h.same T2 h2) (h.same T1 h1)
theorem KeepS.owns {w w' : World} (h : KeepS w w') {b2 T e n : Nat} {v : Value} {ys : List Value} (hT : OthS T) (ho : w.ownsRow b2 T e v n ys) : w'.ownsRow b2 T e v n ys :=
  owns_same ho h.size fun g hg => by
    rcases ho.2 with ⟨e1, _⟩ | ⟨g', cap, cur, e1, _, hh, _⟩
    · rw [e1] at hg; cases hg
    · rw [e1] at hg; cases hg
      exact h.same T hT _ _ _ hh
theorem os_u8 : OthS 5 := ⟨by decide, by decide, by decide, by decide⟩
theorem os_rows : OthS 22 := ⟨by decide, by decide, by decide, by decide⟩
theorem os_plan : OthS 27 := ⟨by decide, by decide, by decide, by decide⟩
theorem TChg.keepS {w w' : World} {base gt be L t k D N : Nat} {M v : Value} {C : DataW Unit} {K : List Rw} {st : Nat} (h : TChg w w' gt be v) (hT : Tkr w base gt be L t k D N M v C K st) : KeepS w w' :=
  ⟨h.size, fun T hO => h.same hT hO.1 hO.2.1 hO.2.2.1⟩
theorem GChg.keepSS {w w' : World} {g : Nat} {cs : Array Value} {fr : Nat × Nat} (h : GChg w g w') (hg : w.heap[g]? = some (.cells cs 153 fr)) : KeepS w w' :=
  ⟨h.size, fun T hO => h.same hg hO.2.2.2⟩
end Go.By
namespace Go.Proofs.YtfbmdlfkipipfaaGreatDoor
open Go.RowKit Go.By Gf Go.Maps
/-- a sender and a taker, in memory; wI: the world ahead, w0: the world in which the sender was made -/
structure ST (wI w0 w : World) (gs gt be base L t k D : Nat) (FX : List (List UInt8)) (nx N : Nat) (v : Value) (K : List Rw) (st : Nat) : Prop where
  bel : Below wI.heap.size wI w
  i0 : wI.heap.size ≤ w0.heap.size
  le : w0.heap.size ≤ w.heap.size
  b1 : w0.heap.size ≤ base
  gs0 : wI.heap.size ≤ gs
  snd : SndO w0 w gs L t k D nx FX
  tk : ∃ M C, Tkr w base gt be L t k D N M v C K st
section
variable {wI w0 w w' : World} {gs gt be base L t k D nx N st : Nat} {FX : List (List UInt8)} {v : Value} {K : List Rw}
theorem ST.keep (h : ST wI w0 w gs gt be base L t k D FX nx N v K st) (hb : Below w.heap.size w w') : ST wI w0 w' gs gt be base L t k D FX nx N v K st := by
  obtain ⟨M, C, h1⟩ := h.tk
  exact ⟨bl h.bel hb h.bel.size, h.i0, Nat.le_trans h.le hb.size, h.b1, h.gs0, h.snd.keep hb h.le, ⟨M, C, h1.keep hb⟩⟩
theorem ST.sbox (h : ST wI w0 w gs gt be base L t k D FX nx N v K st) : ∃ cs fr, w.heap[gs]? = some (.cells cs 153 fr) := by
  obtain ⟨q, c, n0, h1, h2, h3, h4⟩ := h.snd.mem
  exact ⟨_, _, h2⟩
/-- an owned row of another type grew -/
theorem ST.grown (h : ST wI w0 w gs gt be base L t k D FX nx N v K st) {T e n : Nat} {u : Value} {ys : List Value} (ho : w.ownsRow w0.heap.size T e u n ys) (hg : w.grownBy w' u.ownBlock) (h1 : T ≠ 201) (h2 : T ≠ 139) (h3 : T ≠ 5) (h4 : T ≠ 126) :
    ST wI w0 w' gs gt be base L t k D FX nx N v K st ∧ (∀ T', T ≠ T' → ∀ (b : Nat) (cs : Array Value) (fr : Nat × Nat), w.heap[b]? = some (.cells cs T' fr) → w'.heap[b]? = w.heap[b]?) := by
  rcases ho.2 with ⟨e1, _⟩ | ⟨g, cap, cur, e1, hgb, hh, _⟩
  · have hb : Below w.heap.size w w' := ⟨hg.os, hg.tape, hg.output, hg.size, fun b hb => hg.block b hb (fun e => by rw [e1] at e; cases e)⟩
    exact ⟨h.keep hb, fun T' _ b cs fr hc => hb.block b (lt_of_block hc)⟩
  · have hc : GChg w g w' := ⟨hg.os, hg.tape, hg.output, hg.size, fun b hb hne => hg.block b hb (fun e => by rw [e1] at e; cases e; exact hne rfl)⟩
    obtain ⟨M, C, t1⟩ := h.tk
    exact ⟨⟨h.bel.trans (hc.below (Nat.le_trans h.i0 hgb) h.bel.size), h.i0, Nat.le_trans h.le hc.size, h.b1, h.gs0, h.snd.keep (hc.below hgb h.le) (Nat.le_refl _), ⟨M, C, hc.tkr hh t1 h1 h2 h3 h4⟩⟩, fun T' hne => hc.same hh hne⟩
/-- the sender sent -/
theorem ST.sent (h : ST wI w0 w gs gt be base L t k D FX nx N v K st) {ys : List UInt8} {nx' : Nat} {code : Int} {e : Ending} (hs : SdRetQ w gs L t k D FX ys nx nx' code e w') : ST wI w0 w' gs gt be base L t k D FX nx' N v K st ∧ KeepS w w' := by
  obtain ⟨cs, fr, hbx⟩ := h.sbox
  obtain ⟨M, C, t1⟩ := h.tk
  have hS := h.snd.sent hs
  obtain ⟨⟨_, _, _, _, _, _, hg⟩, -⟩ := hs
  exact ⟨⟨h.bel.trans (hg.below h.gs0 h.bel.size), h.i0, Nat.le_trans h.le hg.size, h.b1, h.gs0, hS, ⟨M, C, hg.tkr hbx t1 (by decide) (by decide) (by decide) (by decide)⟩⟩, hg.keepSS hbx⟩
end
/-- made anew -/
theorem ST.start {wI w0 w1 : World} {gs gt be L t k D nx : Nat} {FX : List (List UInt8)} {v M : Value} {C : DataW Unit} (hB : Below wI.heap.size wI w0) (hgs : wI.heap.size ≤ gs) (hs : Snd w0 gs L t k D nx FX) (ht : Tkr w1 w0.heap.size gt be L t k D 0 M v C [] 0) (hb : Below w0.heap.size w0 w1) : ST wI w0 w1 gs gt be w0.heap.size L t k D FX nx 0 v [] 0 :=
  ⟨bl hB hb hB.size, hB.size, hb.size, Nat.le_refl _, hgs, (SndO.start hs).keep hb (Nat.le_refl _), ⟨M, C, ht⟩⟩
end Go.Proofs.YtfbmdlfkipipfaaGreatDoor
namespace Go.By
end Go.By
namespace Go.Proofs.YtfbmdlfkipipfaaGreatDoor
open Go.RowKit Go.By
end Go.Proofs.YtfbmdlfkipipfaaGreatDoor
namespace Go.By
end Go.By
namespace Go.Proofs.YtfbmdlfkipipfaaGreatDoor
open Go.RowKit Go.By
end Go.Proofs.YtfbmdlfkipipfaaGreatDoor
namespace Go.By
open Go.RowKit Go.Maps Go.Proofs.YtfbmdlfkipipfaaGreatDoor
theorem HdrF.lt {T2 T1 B n : Nat} {w : World} {v : Value} {xss : List (List UInt8)} (h : HdrF T2 T1 B w v n xss) : ∀ g, v.ownBlock = some g → g < w.heap.size := by
  obtain ⟨vs, o, _⟩ := h
  exact fun g hg => (o.lt g hg).2
theorem HdrF.at {T2 T1 B n : Nat} {w : World} {q : Option Addr} {c : Nat} {xss : List (List UInt8)} (h : HdrF T2 T1 B w (.slice q n c) n xss) {j : Nat} (hj : j < n) : ∃ b o p m d xs, q = some ⟨b, o, none⟩ ∧ w.cell? ⟨b, o + j, none⟩ = some (.slice p m d) ∧ Hid (xss[j]? = some xs) ∧ Fresh T1 B w p m d xs := by
  obtain ⟨b, o, p, m, d, xs, e, hc, _, hx⟩ := h.sl2.at j hj
  obtain ⟨vs, ow, l, r⟩ := h
  have hl : vs.length = n := owns_len ow
  obtain ⟨p', m', d', xs', e1, hx', hf⟩ := r j vs[j] (List.getElem?_eq_getElem (by omega))
  have hx := hx.out
  rw [hx'] at hx; cases hx
  refine ⟨b, o, p, m, d, xs, e, hc, hx', ?_⟩
  have hc2 : w.cell? ⟨b, o + j, none⟩ = some (.slice p' m' d') := by
    rcases ow.2 with ⟨h2, _⟩ | ⟨g, cap, cur, hv, _⟩
    · cases h2; cases e
    · cases hv; cases e
      have h3 := ow.cellAt j (by omega)
      rw [Nat.zero_add, h3, List.getElem?_eq_getElem (by omega), e1]
  rw [hc2] at hc; cases hc
  exact hf
end Go.By
namespace Go.Proofs.YtfbmdlfkipipfaaGreatDoor
open Go.RowKit Go.By Gf Go.Maps
def OwnsH (W : World) (B T : Nat) (v : Value) (n : Nat) : Prop := ∃ ys, W.ownsRow B T 1 v n ys
/-- append(rows, x) -/
theorem wpList_hdr {ops : Array Oper} {rest : List Oper} {o : Oper} {a : Act} {W : World} {Q : Exit → Act → World → Prop} (hgd : o.guard = none) (s x : Operand) (ho : o.op = .call { callee := .builtin .append, args := #[s, x], argTypes := #[31, 31] })
    (B n : Nat) (v : Value) (xss : List (List UInt8)) (hs : a.eval s = v) (hH : HdrF 22 5 B W v n xss) (hn : n ≤ 1000000) (hB : B ≤ W.heap.size)
    (g : Nat) (hx : a.eval x = .slice (some ⟨g, 0, none⟩) 1 1) (q : Option Addr) (m c : Nat) (fr : Nat × Nat) (xs : List UInt8) (hg : W.heap[g]? = some (.cells #[.slice q m c] 22 fr)) (hF : Fresh 5 B W q m c xs)
    (h : ∀ v' W', HdrF 22 5 B W' v' (n + 1) (xss ++ [xs]) → OwnsH W B 22 v n → W.grownBy W' v.ownBlock → (v'.ownBlock = v.ownBlock ∨ v'.ownBlock = some W.heap.size) → wpList Tryz.prog ops Q rest (a.put o.dst v') W') : wpList Tryz.prog ops Q (o :: rest) a W := by
  obtain ⟨i0, hi0, hz0, hz1, hz2⟩ := info_parts info_bytesC
  obtain ⟨vs, ho1, hl, hr⟩ := hH
  refine wpList_append_where W hgd s x 31 ho B 22 i0 (.slice none 0 0) 1 24 Tryz.underlying31 hi0 hz0 hz1 hz2 rfl (by decide) v n vs hs ho1 ⟨g, 0, none⟩ 1 1 [.slice q m c] hx rfl (news_one hg) ones_one (by unfold maxLen; omega) (by omega) hB (by decide) ?_
  intro v' W' h1 h2 h3
  refine h v' W' (HdrF.push (v := v) h1 (by simpa using ho1.1) hl hr hF fun b cs fr hb => ?_) ⟨vs, ho1⟩ h2 h3
  rcases ho1.2 with ⟨e1, _⟩ | ⟨g', cap, cur, e1, _, hh, _⟩
  · exact h2.block b (lt_of_block hb) (fun e => by rw [e1] at e; cases e)
  · refine h2.block b (lt_of_block hb) (fun e => ?_)
    rw [e1] at e; cases e
    rw [hh] at hb; injection hb with hb; injection hb with _ hb _; exact absurd hb (by decide)
/-- what is sent by a source -/
def sentX (D nx : Nat) (k : Nat) (FX : List (List UInt8)) (m : UInt8) (j s : Nat) (xs : List UInt8) : List UInt8 := if srcC m j k = 0 then pktB m D nx xs s (combS (vecS m xs s k) FX).1 else []
def nextX (nx k : Nat) (m : UInt8) (j : Nat) : Nat := if srcC m j k = 0 then nx + 1 else nx
section
variable {wI w0 w w' : World} {gs gt be base L t k D nx N st : Nat} {FX : List (List UInt8)} {v : Value} {K : List Rw}
end
/-- a take of a packet of the object, or of nothing -/
theorem OneObj.takeV {k t D : Nat} {FX : List (List UInt8)} {X K : List Rw} {x y : List UInt8} (h : OneObj k t FX X K) (hF : ∀ x, x ∈ FX → x.length = t) (hk : FX.length = k) (hr : readC k t D x = 0) (he : eqX k t x = rowC t FX y) (hy : y.length = k) :
    OneObj k t FX (X ++ [rowC t FX y]) (takeK k t D K (stF K k) x) ∧ takeS k t D K (stF K k) x = stF (takeK k t D K (stF K k) x) k := by
  obtain ⟨e3, e4⟩ := rowC_ok (k := k) hF hk hy
  have e3' := e3; have e4' := e4
  rw [← he] at e3' e4'
  obtain ⟨t1, t2⟩ := h.take e3' e4' hr
  rw [t1, t2, he]
  exact ⟨h.put e3 e4, rfl⟩
end Go.Proofs.YtfbmdlfkipipfaaGreatDoor
namespace Go.By
open Go.RowKit
theorem byte_of_wf {a : Int} (h : (Lit.int .u8 a).wf = true) : ∃ x : UInt8, Value.int .u8 a = B8 x ∧ a = (x.toNat : Int) := by
  have hb := bounds_u8 h
  have e : a = ((UInt8.ofNat a.toNat).toNat : Int) := by simp; omega
  exact ⟨UInt8.ofNat a.toNat, B8_congr e, e⟩
theorem sl_of_row {w : World} {a : Option Addr} {len cap : Nat} {zs : List Int}
    (h : (a = none ∧ len = 0 ∧ cap = 0 ∧ zs = []) ∨ ∃ x, a = some x ∧ len ≤ cap ∧ cap ≤ maxLen ∧ zs.length = cap ∧ (∀ i, i < zs.length → w.cell? (x.add i) = some (.int .u8 (zs.getD i 0))) ∧ ∀ n ∈ zs, (Lit.int .u8 n).wf = true) :
    ∃ xs, Sl B8 w a len cap xs := by
  rcases h with ⟨rfl, rfl, rfl, _⟩ | ⟨x, rfl, hl, hm, hz, hc, hw⟩
  · exact ⟨[], Sl.nil0 _ _⟩
  · refine ⟨(zs.take len).map fun z => UInt8.ofNat z.toNat, ⟨by simp; omega, hl, hm, fun h => by simp at h, ?_⟩⟩
    intro i hi
    have hi' : i < zs.length := by simp at hi; omega
    obtain ⟨b, o, hx, hc'⟩ := ints_at hc (by omega)
    refine ⟨b, o, by rw [hx], ?_⟩
    have hh := hc i hi'
    rw [hx, Addr.add_lit] at hh
    rw [hh]
    have e : zs.getD i 0 = zs[i] := by simp [hi']
    rw [e]
    have hb := bounds_u8 (hw _ (List.getElem_mem hi'))
    simp
    omega
end Go.By
namespace Go.Proofs.YtfbmdlfkipipfaaGreatDoor
open Go.RowKit Go.By Go.ChangeShapes Go.WideShapes Go.Deep
section
variable {H : Type} {enc : TypeId × Value → H} {P : Program} {w : World} {base : Nat} {held : Bool}
theorem open_bytes1 {t q : TypeId} {fuel : Nat} {c4 : Value} {x : DataW H × List MemPlace} (h4 : P.underlying t = some (.slice q)) (hq : P.underlying q = some (.int .u8)) (cq : P.cellsOf q = 1) (g4 : DataW.trod enc P w base (fun _ => true) held fuel t [c4] = some x) : ∃ p m c bs, c4 = .slice p m c ∧ Sl B8 w p m c bs := by
  rcases open_ints h4 hq cq g4 with ⟨hcs, _⟩ | ⟨x, l, c, zs, hcs, _, hl, hm, hz, _, hcell, hwz⟩
  · simp at hcs
    exact ⟨none, 0, 0, [], hcs, Sl.nil0 _ _⟩
  · simp at hcs
    obtain ⟨xs, hx⟩ := sl_of_row (.inr ⟨_, rfl, hl, hm, by simpa using hz, hcell, hwz⟩)
    exact ⟨_, _, _, xs, hcs, hx⟩
end
end Go.Proofs.YtfbmdlfkipipfaaGreatDoor
namespace Go.By
open Go.RowKit
/-- a source -/
structure SrcD where
  m : UInt8
  xs : List UInt8
  s : Nat
/-- sources in memory -/
structure SlS (w : World) (p : Option Addr) (n c : Nat) (by_ : List SrcD) : Prop where
  len : by_.length = n
  max : c ≤ maxLen
  le : n ≤ c
  rs : ∀ k a, by_[k]? = some a → ∃ b o q j c', p = some ⟨b, o, none⟩ ∧ w.cell? ⟨b, o + k * 3, none⟩ = some (B8 a.m) ∧ w.cell? ⟨b, o + k * 3 + 1, none⟩ = some (.slice q j c') ∧ w.cell? ⟨b, o + k * 3 + 2, none⟩ = some (.int .u64 (a.s : Nat)) ∧ Sl B8 w q j c' a.xs ∧ a.s < 18446744073709551616
theorem SlS.keep {w w' : World} {p : Option Addr} {n c : Nat} {l : List SrcD} (h : SlS w p n c l) (hb : Below w.heap.size w w') : SlS w' p n c l :=
  ⟨h.len, h.max, h.le, fun k a hk => by
    obtain ⟨b, o, q, j, c', hp, h0, h1, h2, h3, h4⟩ := h.rs k a hk
    have hlt := lt_of_cell h0
    exact ⟨b, o, q, j, c', hp, (hb.cell (p := ⟨b, o + k * 3, none⟩) hlt).trans h0, (hb.cell (p := ⟨b, o + k * 3 + 1, none⟩) hlt).trans h1, (hb.cell (p := ⟨b, o + k * 3 + 2, none⟩) hlt).trans h2, h3.keep hb, h4⟩⟩
theorem SlS.bound {w : World} {p : Option Addr} {n c : Nat} {l : List SrcD} (h : SlS w p n c l) : n ≤ 9223372036854775807 := by have := h.le; have := h.max; unfold maxLen at this; omega
theorem SlS.at {w : World} {p : Option Addr} {n c : Nat} {l : List SrcD} (h : SlS w p n c l) {i : Nat} (hi : i < n) : ∃ b o q j c' a, p = some ⟨b, o, none⟩ ∧ Hid (l[i]? = some a) ∧ w.cell? ⟨b, o + i * 3, none⟩ = some (B8 a.m) ∧ w.cell? ⟨b, o + i * 3 + 1, none⟩ = some (.slice q j c') ∧ w.cell? ⟨b, o + i * 3 + 2, none⟩ = some (.int .u64 (a.s : Nat)) ∧ Sl B8 w q j c' a.xs ∧ a.s < 18446744073709551616 := by
  have e : l[i]? = some (l[i]'(by rw [h.len]; exact hi)) := List.getElem?_eq_getElem _
  obtain ⟨b, o, q, j, c', hp, r⟩ := h.rs i _ e
  exact ⟨b, o, q, j, c', _, hp, e, r⟩
end Go.By
namespace Go.Proofs.YtfbmdlfkipipfaaGreatDoor
open Go.RowKit Go.By Go.ChangeShapes Go.WideShapes Go.Deep
section
variable {H : Type} {enc : TypeId × Value → H} {P : Program} {w : World} {base : Nat} {held : Bool}
theorem trod_struct3 {t : TypeId} {f0 f1 f2 : Field} {fuel : Nat} {cs : List Value} {x : DataW H × List MemPlace} {spare : Nat → Bool} (ht : P.underlying t = some (.struct #[f0, f1, f2])) (h : DataW.trod enc P w base spare held fuel t cs = some x) :
    ∃ y0 y1 y2 n, cs.length = P.cellsOf t ∧ DataW.trod enc P w base spare held n f0.type ((cs.drop f0.offset).take (P.cellsOf f0.type)) = some y0 ∧
      DataW.trod enc P w base spare held n f1.type ((cs.drop f1.offset).take (P.cellsOf f1.type)) = some y1 ∧ DataW.trod enc P w base spare held n f2.type ((cs.drop f2.offset).take (P.cellsOf f2.type)) = some y2 := by
  obtain ⟨xs, n, _, rfl, hl, hlen, hf⟩ := DataW.trod_struct ht h
  match xs, hlen with
  | [y0, y1, y2], _ => exact ⟨y0, y1, y2, n, hl, by simpa using hf 0 f0 rfl, by simpa using hf 1 f1 rfl, by simpa using hf 2 f2 rfl⟩
theorem list3 {α : Type} {cs : List α} (h : cs.length = 3) : ∃ c0 c1 c2, cs = [c0, c1, c2] := by
  match cs, h with
  | [c0, c1, c2], _ => exact ⟨c0, c1, c2, rfl⟩
/-- one source, cell by cell -/
theorem open_src {t q : TypeId} {f0 f1 f2 : Field} {fuel : Nat} {cs : List Value} {x : DataW H × List MemPlace} (ht : P.underlying t = some (.struct #[f0, f1, f2])) (hone : oneCellFields P #[f0, f1, f2] = true) (hC : P.cellsOf t = 3)
    (h0 : P.underlying f0.type = some (.int .u8)) (h1 : P.underlying f1.type = some (.slice q)) (h2 : P.underlying f2.type = some (.int .u64)) (hq : P.underlying q = some (.int .u8)) (cq : P.cellsOf q = 1)
    (h : DataW.trod enc P w base (fun _ => true) held fuel t cs = some x) :
    ∃ (a : SrcD) (p : Option Addr) (m c : Nat), cs = [B8 a.m, .slice p m c, .int .u64 (a.s : Nat)] ∧ Sl B8 w p m c a.xs ∧ a.s < 18446744073709551616 := by
  obtain ⟨y0, y1, y2, n, hl, g0, g1, g2⟩ := trod_struct3 ht h
  obtain ⟨c0, c1, c2, rfl⟩ := list3 (hl.trans hC)
  obtain ⟨o0, k0⟩ := hone_of hone 0 f0 rfl
  obtain ⟨o1, k1⟩ := hone_of hone 1 f1 rfl
  obtain ⟨o2, k2⟩ := hone_of hone 2 f2 rfl
  rw [o0, k0] at g0; rw [o1, k1] at g1; rw [o2, k2] at g2
  obtain ⟨d, e0, -, w0⟩ := DataW.trod_int h0 g0
  obtain ⟨p, m, c, bs, e1, hs⟩ := open_bytes1 h1 hq cq g1
  obtain ⟨s, e2, -, w2⟩ := DataW.trod_int h2 g2
  have b0 : 0 ≤ d ∧ d ≤ 255 := by
    simp [Lit.wf, IntKind.min, IntKind.max, IntKind.signed, IntKind.bits] at w0
    omega
  have b2 : 0 ≤ s ∧ s ≤ 18446744073709551615 := by
    simp [Lit.wf, IntKind.min, IntKind.max, IntKind.signed, IntKind.bits] at w2
    omega
  obtain ⟨sn, rfl⟩ := Int.eq_ofNat_of_zero_le b2.1
  obtain ⟨xd, hxd, -⟩ := byte_of_wf w0
  simp at e0 e2
  subst e0; subst e1; subst e2

  exact ⟨⟨xd, bs, sn⟩, p, m, c, by show [_, _, _] = [B8 xd, _, _]; rw [hxd], hs, by show sn < 18446744073709551616; have := b2.2; omega⟩
theorem open_srcs {t e q : TypeId} {f0 f1 f2 : Field} {fuel : Nat} {cs : List Value} {x : DataW H × List MemPlace} (ht : P.underlying t = some (.slice e)) (he : P.underlying e = some (.struct #[f0, f1, f2])) (hone : oneCellFields P #[f0, f1, f2] = true) (hC : P.cellsOf e = 3)
    (h0 : P.underlying f0.type = some (.int .u8)) (h1 : P.underlying f1.type = some (.slice q)) (h2 : P.underlying f2.type = some (.int .u64)) (hq : P.underlying q = some (.int .u8)) (cq : P.cellsOf q = 1)
    (h : DataW.trod enc P w base (fun _ => true) held fuel t cs = some x) : ∃ p n c l, cs = [.slice p n c] ∧ SlS w p n c l := by
  rcases open_slice ht h with ⟨hcs, _⟩ | ⟨a, len, cap, m, n, D, Pl, rfl, hb, hl, hm, hmm, rfl, hx⟩
  · exact ⟨none, 0, 0, [], hcs, ⟨rfl, by simp [maxLen], Nat.le_refl _, fun k a hk => by simp at hk⟩⟩
  simp only [if_true] at hmm
  have hmm' := hmm.symm
  subst hmm'
  have hsp : 0 < len → a.spot = none := fun h => by
    obtain ⟨cs', hc, htr⟩ := hx 0 (by omega)
    obtain ⟨y, p, m', c', rfl, -⟩ := open_src he hone hC h0 h1 h2 hq cq htr
    obtain ⟨_, _, hcell⟩ := World.cells?_some hc
    have z0 := hcell 0 (by omega)
    simpa [Addr.add] using World.cell?_spot (z0.trans rfl)
  have each : ∀ k, k < len → ∃ y : SrcD, ∃ b o q j c', a = ⟨b, o, none⟩ ∧ w.cell? ⟨b, o + k * 3, none⟩ = some (B8 y.m) ∧ w.cell? ⟨b, o + k * 3 + 1, none⟩ = some (.slice q j c') ∧ w.cell? ⟨b, o + k * 3 + 2, none⟩ = some (.int .u64 (y.s : Nat)) ∧ Sl B8 w q j c' y.xs ∧ y.s < 18446744073709551616 := by
    intro k hk
    obtain ⟨cs', hc, htr⟩ := hx k (by omega)
    obtain ⟨y, p, m', c', rfl, hs, hb1⟩ := open_src he hone hC h0 h1 h2 hq cq htr
    obtain ⟨_, _, hcell⟩ := World.cells?_some hc
    rw [hC] at hcell
    obtain ⟨b, o, spot⟩ := a
    have z0 := hcell 0 (by omega)
    have hspot : spot = none := hsp (by omega)
    subst hspot
    have z1 := hcell 1 (by omega); have z2 := hcell 2 (by omega)
    simp only [add_plain] at z0 z1 z2
    exact ⟨y, b, o, p, m', c', rfl, z0, z1, z2, hs, hb1⟩
  obtain ⟨f, hf⟩ : ∃ f : Nat → SrcD, ∀ k, k < len → ∃ b o q j c', a = ⟨b, o, none⟩ ∧ w.cell? ⟨b, o + k * 3, none⟩ = some (B8 (f k).m) ∧ w.cell? ⟨b, o + k * 3 + 1, none⟩ = some (.slice q j c') ∧ w.cell? ⟨b, o + k * 3 + 2, none⟩ = some (.int .u64 ((f k).s : Nat)) ∧ Sl B8 w q j c' (f k).xs ∧ (f k).s < 18446744073709551616 :=
    ⟨fun k => if hk : k < len then Classical.choose (each k hk) else ⟨0, [], 0⟩, fun k hk => by simp only [dif_pos hk]; exact Classical.choose_spec (each k hk)⟩
  refine ⟨some a, len, cap, (List.range len).map f, rfl, ⟨by simp, hm, hl, fun k y hk => ?_⟩⟩
  rw [List.getElem?_map] at hk
  cases hr : (List.range len)[k]? with
  | none => rw [hr] at hk; simp at hk
  | some k' =>
    rw [hr] at hk
    obtain ⟨hk1, hk2⟩ := List.getElem?_eq_some_iff.1 hr
    simp at hk1 hk2 hk
    subst hk2; subst hk
    obtain ⟨b, o, q, j, c', e, r⟩ := hf k hk1
    exact ⟨b, o, q, j, c', by rw [e], r⟩
end
end Go.Proofs.YtfbmdlfkipipfaaGreatDoor
namespace Go.Proofs.YtfbmdlfkipipfaaGreatDoor
open Go.RowKit Go.By
/-- a plan is gone through here: none that may be, or a small one -/
def small19 (l s n : Int) : Bool := if checkS l s n = 0 then decide (n ≤ 12) && decide (s ≤ 20) else true
set_option maxRecDepth 100000 in
set_option maxHeartbeats 1000000 in
theorem Small19_any (l s n d : Int) (w : World) (hl2 : l ≤ 9223372036854775807) :
    Calls Tryz.prog 29 #[.agg #[.int .i64 l, .int .i64 s, .int .i64 n, .int .u32 d]] w fun e w' => e = .returned (.bool (small19 l s n)) ∧ Below w.heap.size w w' := by
  have HC := Lib.hid (fun w => Check_any l s n d w hl2)
  have HS : Hid (small19 l s n = if checkS l s n = 0 then decide (n ≤ 12) && decide (s ≤ 20) else true) := rfl
  generalize small19 l s n = R at *
  generalize checkS l s n = C at *
  by_cases hc : C = 0
  · subst hc
    by_cases hn : n ≤ 12
    · by_cases hs : s ≤ 20
      · have HR : Hid (R = true) := by show _ = _; rw [HS.out, if_pos rfl, decide_eq_true hn, decide_eq_true hs]; rfl
        clear HS
        go_enter Tryz.func29, Tryz.ntmps29
        go_wp2_with fail
        refine Calls.mono (HC.out _) ?_
        rintro e w1 ⟨rfl, hb⟩
        obtain ⟨hb1, h1, hsz⟩ := one_of hb
        obtain ⟨c0, c1, c2, c3⟩ := cells_four h1
        have HB := Lib.hid hb1
        clear hb hb1
        go_wp2
        go_ret
        exact ⟨by rw [HR.out]; first | rfl | (simp only [decide_eq_true hs]; rfl), HB.out⟩
      · have hs' : ¬ s ≤ 20 := by omega
        have HR : Hid (R = false) := by show _ = _; rw [HS.out, if_pos rfl, decide_eq_true hn, decide_eq_false hs']; rfl
        clear HS
        go_enter Tryz.func29, Tryz.ntmps29
        go_wp2_with fail
        refine Calls.mono (HC.out _) ?_
        rintro e w1 ⟨rfl, hb⟩
        obtain ⟨hb1, h1, hsz⟩ := one_of hb
        obtain ⟨c0, c1, c2, c3⟩ := cells_four h1
        have HB := Lib.hid hb1
        clear hb hb1
        go_wp2
        go_ret
        exact ⟨by rw [HR.out]; first | rfl | (simp only [show decide (s ≤ 20) = false from decide_eq_false (by omega)]; rfl), HB.out⟩
    · have HR : Hid (R = false) := by show _ = _; rw [HS.out, if_pos rfl, decide_eq_false hn]; rfl
      clear HS
      go_enter Tryz.func29, Tryz.ntmps29
      go_wp2_with fail
      refine Calls.mono (HC.out _) ?_
      rintro e w1 ⟨rfl, hb⟩
      obtain ⟨hb1, h1, hsz⟩ := one_of hb
      obtain ⟨c0, c1, c2, c3⟩ := cells_four h1
      have HB := Lib.hid hb1
      clear hb hb1
      go_wp2
      go_ret
      exact ⟨by rw [HR.out]; rfl, HB.out⟩
  · have hz : (C != 0) = true := bne_iff_ne.2 hc
    have HR : Hid (R = true) := by show _ = _; rw [HS.out, if_neg hc]
    clear HS hc
    go_enter Tryz.func29, Tryz.ntmps29
    go_wp2_with fail
    refine Calls.mono (HC.out _) ?_
    rintro e w1 ⟨rfl, hb⟩
    obtain ⟨hb1, h1, hsz⟩ := one_of hb
    have HB := Lib.hid hb1
    clear hb hb1
    go_wp2
    go_ret
    exact ⟨by rw [HR.out]; rfl, HB.out⟩
end Go.Proofs.YtfbmdlfkipipfaaGreatDoor
namespace Go.Proofs.YtfbmdlfkipipfaaGreatDoor
open Go.RowKit Go.By Gf Go.Maps
theorem read_roomT {L t k D : Nat} {xs : List UInt8} (hP : POK L t k D) (h : readC k t D xs = 0) : xs.length ≤ 140737488355328 := by
  unfold readC at h
  split at h
  · rename_i hh; exact absurd h hh
  · split at h
    · cases h
    · rename_i hl
      have hl : xs.length = lenP (xs.getD 1 0) k t := by
        rcases Nat.lt_trichotomy xs.length (lenP (xs.getD 1 0) k t) with g | g | g
        · exact absurd (Nat.ne_of_lt g) hl
        · exact g
        · exact absurd (Nat.ne_of_gt g) hl
      rw [hl]
      unfold lenP widS
      have := hP.k2; have := hP.t2
      split
      · omega
      · split <;> omega
end Go.Proofs.YtfbmdlfkipipfaaGreatDoor
namespace Go.Proofs.YtfbmdlfkipipfaaGreatDoor
open Go.RowKit Go.By
end Go.Proofs.YtfbmdlfkipipfaaGreatDoor
namespace Go.Proofs.YtfbmdlfkipipfaaGreatDoor
open Go.RowKit Go.By
end Go.Proofs.YtfbmdlfkipipfaaGreatDoor
namespace Go.By
open Go.RowKit
/-- a slice value that owns bytes -/
def Bt (T1 : Nat) (w : World) (base : Nat) (v : Value) (xs : List UInt8) : Prop := ∃ q m c, v = .slice q m c ∧ w.ownsRow base T1 1 (.slice q m c) m (xs.map B8)
/-- a parcel in memory: its slice, where it came from, its bytes -/
abbrev Par := Value × Int × List UInt8
def parOf (t : Par) : Value × Int := (t.1, t.2.1)
def blks (ts : List Par) : List Nat := ts.filterMap fun t => t.1.ownBlock
structure Pl (TP T1 : Nat) (w : World) (base : Nat) (v : Value) (n : Nat) (ts : List Par) : Prop where
  len : ts.length = n
  own : w.ownsRow base TP 2 v n (pcs (ts.map parOf))
  row : ∀ t, t ∈ ts → Bt T1 w base t.1 t.2.2
  dis : (blks ts).Nodup
section
variable {TP T1 : Nat} {w w' : World} {base n : Nat} {v : Value} {ts : List Par}
theorem Bt.keep {xs : List UInt8} (h : Bt T1 w base v xs) (hb : Below w.heap.size w w') : Bt T1 w' base v xs := by
  obtain ⟨q, m, c, rfl, h⟩ := h; exact ⟨q, m, c, rfl, owns_keep h hb⟩
theorem Bt.one {xs : List UInt8} (h : Bt T1 w base v xs) : v.oneCell' = true := by obtain ⟨q, m, c, rfl, h⟩ := h; rfl
theorem Bt.lt {xs : List UInt8} (h : Bt T1 w base v xs) : ∀ b, v.ownBlock = some b → base ≤ b ∧ b < w.heap.size := by
  obtain ⟨q, m, c, rfl, h⟩ := h; exact h.lt
/-- what is written into the array of parcels leaves the bytes -/
theorem Bt.grown {xs : List UInt8} {u : Value} {L : List Value} {m : Nat} (h : Bt T1 w base v xs) (hT : T1 ≠ TP) (ho : w.ownsRow base TP 2 u m L) (hg : w.grownBy w' u.ownBlock) : Bt T1 w' base v xs := by
  obtain ⟨q, m, c, rfl, h⟩ := h; exact ⟨q, m, c, rfl, owns_kept h hg (owns_ne h ho hT)⟩
theorem Pl.keep (h : Pl TP T1 w base v n ts) (hb : Below w.heap.size w w') : Pl TP T1 w' base v n ts :=
  ⟨h.len, owns_keepv h.own hb, fun t ht => (h.row t ht).keep hb, h.dis⟩
theorem blks_append (a b : List Par) : blks (a ++ b) = blks a ++ blks b := by simp [blks]
theorem Pl.blt (h : Pl TP T1 w base v n ts) : ∀ b, b ∈ blks ts → base ≤ b ∧ b < w.heap.size := by
  intro b hb
  obtain ⟨t, ht, e⟩ := List.mem_filterMap.1 hb
  exact (h.row t ht).lt b e
/-- one more, with bytes of its own in new memory; 'w1' is the world in which the clone is made, 'w2' behind it -/
theorem Pl.push {w1 w2 : World} {u x : Value} {k : Int} {xs : List UInt8} (h : Pl TP T1 w1 base v n ts) (hT : T1 ≠ TP) (hx : Bt T1 w2 w1.heap.size x xs) (hbase : base ≤ w1.heap.size) (hb : Below w1.heap.size w1 w2) (ho : w'.ownsRow base TP 2 u (n + 1) (pcs (ts.map parOf) ++ [x, .int .i64 k])) (hg : w2.grownBy w' v.ownBlock) :
    Pl TP T1 w' base u (n + 1) (ts ++ [(x, k, xs)]) := by
  have h2 := h.keep hb
  have hx2 : Bt T1 w2 base x xs := by obtain ⟨q, m, c, rfl, h⟩ := hx; exact ⟨q, m, c, rfl, owns_mono h hbase⟩
  refine ⟨by simp [h.len], ?_, fun t ht => ?_, ?_⟩
  · rw [List.map_append, pcs_append]; exact ho
  · rcases List.mem_append.1 ht with ht | ht
    · exact (h2.row t ht).grown hT h2.own hg
    · simp at ht; subst ht; exact hx2.grown hT h2.own hg
  · rw [blks_append, List.nodup_append]
    refine ⟨h.dis, ?_, ?_⟩
    · cases hb : x.ownBlock <;> simp [blks, hb]
    · intro a ha b hb' e
      subst e
      obtain ⟨t, ht, e⟩ := List.mem_filterMap.1 hb'
      simp at ht; subst ht
      have := (hx.lt a e).1
      have := (h.blt a ha).2
      omega
end
end Go.By
namespace Go.Proofs.YtfbmdlfkipipfaaGreatDoor
open Go.RowKit Go.By
abbrev PL (w : World) (base : Nat) (v : Value) (n : Nat) (ts : List Par) : Prop := Pl 174 5 w base v n ts
end Go.Proofs.YtfbmdlfkipipfaaGreatDoor
namespace Go.Proofs.YtfbmdlfkipipfaaGreatDoor
open Go.RowKit Go.By
def dropAt {α : Type} (ps : List α) (i : Nat) : List α := ps.take i ++ ps.drop (i + 1)
def putAtP {α : Type} (ps : List α) (k : Nat) (p : α) : List α := ps.take k ++ p :: ps.drop k
end Go.Proofs.YtfbmdlfkipipfaaGreatDoor
namespace Go.Proofs.YtfbmdlfkipipfaaGreatDoor
open Go.RowKit Go.By
end Go.Proofs.YtfbmdlfkipipfaaGreatDoor
namespace Go.Proofs.YtfbmdlfkipipfaaGreatDoor
open Go.RowKit Go.By
/-- what a cut does to a parcel -/
def cutP (p : List UInt8 × Int) (j : Nat) : List UInt8 × Int := if j < p.1.length then (p.1.take j, -1) else p
end Go.Proofs.YtfbmdlfkipipfaaGreatDoor
namespace Go.Proofs.YtfbmdlfkipipfaaGreatDoor
open Go.RowKit Go.By
/-- the byte k of a parcel, with bit o turned -/
def flip (xs : List UInt8) (at' : Nat) : List UInt8 := xs.set (at' / 8) ((xs.getD (at' / 8) 0) ^^^ UInt8.ofNat (2 ^ (at' % 8)))
/-- behind so many bits: the bytes, and whether any was turned -/
def maskF (b j : Nat) (xs : List UInt8) : Nat → List UInt8 × Bool
  | 0 => (xs, false)
  | k + 1 => if b.testBit k = true ∧ (j + k) / 8 < xs.length then (flip (maskF b j xs k).1 (j + k), true) else maskF b j xs k
end Go.Proofs.YtfbmdlfkipipfaaGreatDoor
namespace Go.Proofs.YtfbmdlfkipipfaaGreatDoor
open Go.RowKit Go.By
/-- what a mask does to a parcel -/
def maskP (p : List UInt8 × Int) (b j : Nat) : List UInt8 × Int := ((maskF b j p.1 32).1, if (maskF b j p.1 32).2 then -1 else p.2)
end Go.Proofs.YtfbmdlfkipipfaaGreatDoor
namespace Go.Proofs.YtfbmdlfkipipfaaGreatDoor
open Go.RowKit Go.By
structure ActD where
  d : Int
  i : Int
  j : Int
  b : Nat
  bs : List UInt8
abbrev Pack := List UInt8 × Int
def stepS (ps : List Pack) (a : ActD) : List Pack :=
  if a.d < 0 ∨ 6 ≤ a.d ∨ a.j < 0 then ps
  else if a.d = 5 then ps ++ [(a.bs, -1)]
  else match ps[a.i.toNat]? with
    | none => ps
    | some p => if a.i < 0 then ps
      else if a.d = 0 then dropAt ps a.i.toNat
      else if a.d = 1 then ps ++ [p]
      else if a.d = 2 then putAtP (dropAt ps a.i.toNat) (min a.j.toNat (ps.length - 1)) p
      else if a.d = 3 then ps.set a.i.toNat (cutP p a.j.toNat)
      else ps.set a.i.toNat (maskP p a.b a.j.toNat)
end Go.Proofs.YtfbmdlfkipipfaaGreatDoor
namespace Go.Proofs.YtfbmdlfkipipfaaGreatDoor
open Go.RowKit Go.By Go.ChangeShapes Go.WideShapes Go.Deep
section
variable {H : Type} {enc : TypeId × Value → H} {P : Program} {w : World} {base : Nat} {held : Bool}
instance : Inhabited ActD := ⟨⟨0, 0, 0, 0, []⟩⟩
end
end Go.Proofs.YtfbmdlfkipipfaaGreatDoor
namespace Go.Proofs.YtfbmdlfkipipfaaGreatDoor
open Go.RowKit Go.By
theorem Pl.mono {w : World} {base base' n : Nat} {v : Value} {ts : List Par} (h : PL w base v n ts) (hb : base' ≤ base) : PL w base' v n ts :=
  ⟨h.len, owns_mono h.own hb, fun t ht => by obtain ⟨q, m, c, e, hr⟩ := h.row t ht; exact ⟨q, m, c, e, owns_mono hr hb⟩, h.dis⟩
theorem Pl.shape {w : World} {base n : Nat} {v : Value} {ts : List Par} (h : PL w base v n ts) : ∃ q c, v = .slice q n c := by
  rcases h.own.2 with ⟨h1, h0⟩ | ⟨g, cap, cur, hv, _⟩
  · exact ⟨none, 0, by rw [h1, h0]⟩
  · exact ⟨_, _, hv⟩
end Go.Proofs.YtfbmdlfkipipfaaGreatDoor
namespace Go.Proofs.YtfbmdlfkipipfaaGreatDoor
open Go.RowKit Go.By
end Go.Proofs.YtfbmdlfkipipfaaGreatDoor
namespace Go.Proofs.YtfbmdlfkipipfaaGreatDoor
open Go.RowKit Go.By
end Go.Proofs.YtfbmdlfkipipfaaGreatDoor
namespace Go.Proofs.YtfbmdlfkipipfaaGreatDoor
open Go.RowKit Go.By
end Go.Proofs.YtfbmdlfkipipfaaGreatDoor
namespace Go.Proofs.YtfbmdlfkipipfaaGreatDoor
open Go.RowKit Go.By
end Go.Proofs.YtfbmdlfkipipfaaGreatDoor
namespace Go.Proofs.YtfbmdlfkipipfaaGreatDoor
open Go.RowKit Go.By Gf Go.Maps
/-- a taker's turn: its rows and its status -/
def tkF (k t D : Nat) (s : List Rw × Nat) (x : List UInt8) : List Rw × Nat := (takeK k t D s.1 s.2 x, takeS k t D s.1 s.2 x)
def tkR (k t D : Nat) (came : List (List UInt8)) : List Rw × Nat := came.foldl (tkF k t D) ([], 0)
theorem tkR_snoc {k t D : Nat} {came : List (List UInt8)} {i : Nat} {x : List UInt8} (h : came[i]? = some x) : tkR k t D (came.take (i + 1)) = tkF k t D (tkR k t D (came.take i)) x := by
  obtain ⟨hi, e⟩ := List.getElem?_eq_some_iff.1 h
  unfold tkR
  rw [foldl_take_succ _ _ _ _ hi, e]
/-- what is sent by sources, one after another -/
def sendF (D k : Nat) (FX : List (List UInt8)) (acc : List (List UInt8)) (a : SrcD) : List (List UInt8) := if srcC a.m a.xs.length k = 0 then acc ++ [pktB a.m D acc.length a.xs a.s (combS (vecS a.m a.xs a.s k) FX).1] else acc
def sendsS (D k : Nat) (FX : List (List UInt8)) (l : List SrcD) : List (List UInt8) := l.foldl (sendF D k FX) []
theorem sends_snoc {D k : Nat} {FX : List (List UInt8)} {l : List SrcD} {i : Nat} {a : SrcD} (h : l[i]? = some a) : sendsS D k FX (l.take (i + 1)) = sendF D k FX (sendsS D k FX (l.take i)) a := by
  obtain ⟨hi, e⟩ := List.getElem?_eq_some_iff.1 h
  unfold sendsS
  rw [foldl_take_succ _ _ _ _ hi, e]
theorem sendF_len {D k : Nat} {FX acc : List (List UInt8)} {a : SrcD} : acc.length ≤ (sendF D k FX acc a).length ∧ (sendF D k FX acc a).length ≤ acc.length + 1 := by
  unfold sendF
  split <;> simp
theorem sends_len (D k : Nat) (FX : List (List UInt8)) (l : List SrcD) : (sendsS D k FX l).length ≤ l.length := by
  unfold sendsS
  have : ∀ (l : List SrcD) (acc : List (List UInt8)), (l.foldl (sendF D k FX) acc).length ≤ acc.length + l.length := by
    intro l
    induction l with
    | nil => exact fun acc => Nat.le_refl _
    | cons a l ih => exact fun acc => Nat.le_trans (ih _) (by have := (sendF_len (D := D) (k := k) (FX := FX) (acc := acc) (a := a)).2; simp; omega)
  simpa using this l []
section
variable {wI w0 w w' : World} {gs gt be base L t k D nx N st : Nat} {FX : List (List UInt8)} {v : Value} {K : List Rw}
end
theorem GChg.one {w : World} {g i : Nat} (v : Value) : GChg w g (w.setCell ⟨g, i, none⟩ v) := (GChg.of g (Below.refl _ _)).set v
end Go.Proofs.YtfbmdlfkipipfaaGreatDoor
namespace Go.Proofs.YtfbmdlfkipipfaaGreatDoor
open Go.RowKit Go.By
end Go.Proofs.YtfbmdlfkipipfaaGreatDoor
namespace Go.By
open Go.RowKit
theorem KeepR.owns {w w' : World} {b2 T e n : Nat} {v : Value} {ys : List Value} (h : ∀ (b : Nat) (cs : Array Value) (fr : Nat × Nat), w.heap[b]? = some (.cells cs T fr) → w'.heap[b]? = w.heap[b]?) (hs : w.heap.size ≤ w'.heap.size) (ho : w.ownsRow b2 T e v n ys) : w'.ownsRow b2 T e v n ys :=
  owns_same ho hs fun g hg => by
    rcases ho.2 with ⟨e1, _⟩ | ⟨g', cap, cur, e1, _, hh, _⟩
    · rw [e1] at hg; cases hg
    · rw [e1] at hg; cases hg
      exact h _ _ _ hh
end Go.By
namespace Go.Proofs.YtfbmdlfkipipfaaGreatDoor
open Go.RowKit Go.By Gf Go.Maps
end Go.Proofs.YtfbmdlfkipipfaaGreatDoor
namespace Go.By
open Go.RowKit Go.Proofs.YtfbmdlfkipipfaaGreatDoor
end Go.By
namespace Go.Proofs.YtfbmdlfkipipfaaGreatDoor
open Go.RowKit Go.By Gf Go.Maps
end Go.Proofs.YtfbmdlfkipipfaaGreatDoor
namespace Go.Proofs.YtfbmdlfkipipfaaGreatDoor
open Go.RowKit Go.By Gf Go.Maps
end Go.Proofs.YtfbmdlfkipipfaaGreatDoor
namespace Go.Proofs.YtfbmdlfkipipfaaGreatDoor
open Go.RowKit Go.By Gf Go.Maps
set_option maxRecDepth 100000 in
set_option maxHeartbeats 2000000 in
theorem TSmall_ok (q0 : Option Addr) (n0 c0 : Nat) (s k d : Int) (w : World) (hn : n0 ≤ 9223372036854775807) (hof : ofS n0 s d = .tuple #[.agg #[.int .i64 n0, .int .i64 s, .int .i64 k, .int .u32 d], .int .i64 0]) :
    Calls Tryz.prog 11 #[.slice q0 n0 c0, .int .i64 s, .int .u32 d] w fun e w' => e = .returned (.tuple #[.agg #[.int .i64 n0, .int .i64 s, .int .i64 k, .int .u32 d], .bool (small19 n0 s k)]) ∧ Below w.heap.size w w' := by
  have HOf : Hid (∀ w, Calls Tryz.prog 24 #[.int .i64 (n0 : Nat), .int .i64 s, .int .u32 d] w fun e w' => e = .returned (.tuple #[.agg #[.int .i64 n0, .int .i64 s, .int .i64 k, .int .u32 d], .int .i64 0]) ∧ Below w.heap.size w w') := fun w => by
    have := POf_any (n0 : Int) s d w (by omega)
    rw [hof] at this; exact this
  have HSm := Lib.hid (fun w => Small19_any (n0 : Int) s k d w (by omega))
  clear hof
  generalize small19 n0 s k = S at *
  go_enter Tryz.func11, Tryz.ntmps11
  go_wp2_with fail
  refine Calls.mono (HOf.out _) ?_
  rintro e w1 ⟨rfl, hb⟩
  obtain ⟨hb1, k6, -⟩ := one_of hb
  have ba : Below w1.heap.size w1 (w1.alloc (.cells #[.int .i64 n0, .int .i64 s, .int .i64 k, .int .u32 d] 27 (0, 0))) := al (Below.refl _ _) (Nat.le_refl _)
  have HB2 := Lib.hid (bl hb1 ba hb1.size)
  have k8 : (w1.alloc (.cells #[.int .i64 n0, .int .i64 s, .int .i64 k, .int .u32 d] 27 (0, 0))).heap[w1.heap.size]? = some (.cells #[.int .i64 n0, .int .i64 s, .int .i64 k, .int .u32 d] 27 (0, 0)) := hnew rfl
  have k62 := (ba.block _ (lt_of_block k6)).trans k6
  obtain ⟨g6, hg6⟩ : ∃ g6, g6 = w.heap.size := ⟨_, rfl⟩
  obtain ⟨g8, hg8⟩ : ∃ g8, g8 = w1.heap.size := ⟨_, rfl⟩
  rw [← hg6] at k62 ⊢
  rw [← hg8] at k8
  clear hb hb1 ba k6
  go_wp2
  rw [← hg8, ← hg6]
  generalize w1.alloc (.cells #[.int .i64 n0, .int .i64 s, .int .i64 k, .int .u32 d] 27 (0, 0)) = w2 at *
  obtain ⟨z0, z1, z2, z3⟩ := cells_four k8
  have HG6 := Lib.hid (Nat.le_of_eq hg6.symm)
  clear hg8 hg6
  refine wp_region_slipV (fun ix => ([.val (.agg #[.int .i64 n0, .int .i64 s, .int .i64 k, .int .u32 d]), .val (.int .i64 0), .val (.bool true), .val (.bool true), .val (.agg #[.int .i64 n0, .int .i64 s, .int .i64 k, .int .u32 d]), .val (.bool S), .val (.bool S), .any, .any][ix]?).getD (.any)) 25 7 6 24 (.bool S) rfl (by kernel_rfl) (by decide +kernel) (by decide +kernel) (by decide +kernel) _ rfl rfl rfl (by decide) rfl (by decide) ?_ ?_
  · refine ⟨?_, ?_, ?_, ?_, ?_, ?_, ?_, trivial⟩
    · intro a W hb0 hs hp hi; have hb := undrew hb0; clear hb0
      have tt : sl a 8 = .pointer (some ⟨g8, 0, none⟩) := hi 8 (by decide)
      have dd0 := (hb.cell (p := ⟨g8, 0, none⟩) (lt_of_cell z0)).trans z0
      have dd1 := (hb.cell (p := ⟨g8, 1, none⟩) (lt_of_cell z1)).trans z1
      have dd2 := (hb.cell (p := ⟨g8, 2, none⟩) (lt_of_cell z2)).trans z2
      have dd3 := (hb.cell (p := ⟨g8, 3, none⟩) (lt_of_cell z3)).trans z3
      refine ite_y rfl (wp_val (.agg #[.int .i64 n0, .int .i64 s, .int .i64 k, .int .u32 d]) ?_ ?_)
      · simp only [execOp, eval_tmp, tt]; simp [go_sem, dd0, dd1, dd2, dd3]
      · exact ⟨_, rfl, Below.refl _ _, rfl⟩
    · intro a W hb0 hs hp hi; have hb := undrew hb0; clear hb0
      have t9 : sl a 9 = .int .i64 0 := hi 9 (by decide)
      exact ite_y rfl (wp_val (sl a 9) rfl ⟨_, rfl, Below.refl _ _, t9⟩)
    · intro a W hb0 hs hp hi; have hb := undrew hb0; clear hb0
      have t19 : sl a 19 = .int .i64 0 := hp 1 (by decide)
      refine ite_y rfl (wp_val (.bool true) ?_ ?_)
      · simp only [execOp, eval_tmp, eval_const, t19]; simp [go_sem]
      · exact ⟨_, rfl, Below.refl _ _, rfl⟩
    · intro a W hb0 hs hp hi; have hb := undrew hb0; clear hb0
      have t20 : sl a 20 = .bool true := hp 2 (by decide)
      exact ite_y rfl (wp_val (sl a 20) rfl ⟨_, rfl, Below.refl _ _, t20⟩)
    · intro a W hb0 hs hp hi; have hb := undrew hb0; clear hb0
      have tg : sl a 21 = .bool true := hp 3 (by decide)
      have tt : sl a 8 = .pointer (some ⟨g8, 0, none⟩) := hi 8 (by decide)
      have dd0 := (hb.cell (p := ⟨g8, 0, none⟩) (lt_of_cell z0)).trans z0
      have dd1 := (hb.cell (p := ⟨g8, 1, none⟩) (lt_of_cell z1)).trans z1
      have dd2 := (hb.cell (p := ⟨g8, 2, none⟩) (lt_of_cell z2)).trans z2
      have dd3 := (hb.cell (p := ⟨g8, 3, none⟩) (lt_of_cell z3)).trans z3
      refine ite_y (wanted_yes rfl rfl (by have hz : a.tmps.size = 25 := hs; rw [hz]; decide) tg) (wp_val (.agg #[.int .i64 n0, .int .i64 s, .int .i64 k, .int .u32 d]) ?_ ?_)
      · simp only [execOp, eval_tmp, tt]; simp [go_sem, dd0, dd1, dd2, dd3]
      · exact ⟨_, rfl, Below.refl _ _, rfl⟩
    · intro a W hb0 hs hp hi; have hb := undrew hb0; clear hb0
      have tg : sl a 21 = .bool true := hp 3 (by decide)
      have t22 : sl a 22 = .agg #[.int .i64 n0, .int .i64 s, .int .i64 k, .int .u32 d] := hp 4 (by decide)
      refine ite_y (wanted_yes rfl rfl (by have hz : a.tmps.size = 25 := hs; rw [hz]; decide) tg) (wp_enter 29 #[.agg #[.int .i64 n0, .int .i64 s, .int .i64 k, .int .u32 d]] ?_ (HSm.out _) ?_)
      · simp only [execOp, resolve, List.map_toArray, List.map, eval_tmp, eval_func, eval_const, t22]; simp [go_sem]
      · rintro e W' ⟨rfl, hw⟩; exact ⟨_, rfl, _, rfl, hw, rfl⟩
    · intro a W hb0 hs hp hi; have hb := undrew hb0; clear hb0
      have t21 : sl a 21 = .bool true := hp 3 (by decide)
      have t23 : sl a 23 = .bool S := hp 5 (by decide)
      refine ite_y rfl (wp_val (.bool S) ?_ ?_)
      · simp only [execOp, eval_tmp, eval_const, t21, t23]; simp [go_sem]
      · exact ⟨_, rfl, Below.refl _ _, rfl⟩
  intro a w3 o ho hb hs hd hI ht
  simp at ho; subst ho
  have t6 : sl a 6 = .pointer (some ⟨g6, 0, none⟩) := ht 6 (by decide)
  have t18 : sl a 18 = .agg #[.int .i64 n0, .int .i64 s, .int .i64 k, .int .u32 d] := hI 0 (by decide) (by decide)
  have t21 : sl a 21 = .bool true := hI 3 (by decide) (by decide)
  have t23 : sl a 23 = .bool S := hI 5 (by decide) (by decide)
  have v21 : a.tmps[21]?.getD undef = .bool true := by simpa [sl] using t21
  have v23 : a.tmps[23]?.getD undef = .bool S := by simpa [sl] using t23
  have k63 := (hb.block _ (lt_of_block k62)).trans k62
  have HB3 : Below w.heap.size w w3 := bl HB2.out hb HB2.out.size
  refine ⟨fun w' => ?_, ?_⟩
  · simp [execOp, eval_tmp, eval_const, go_sem, v21, v23]
  refine wp_store_row 27 (.tmp 6) (.tmp 18) rfl g6 #[.int .i64 n0, .int .i64 s, .int .i64 k, .int .u32 d] (by rw [eval_tmp]; exact t6) (by rw [eval_tmp]; exact t18) _ _ k63 info_plan rfl (by simp [Value.oneCell']) ?_
  refine ⟨rfl, fun ab hbs hbd hbt hbu => ?_⟩
  have ha := act_is [18, 19, 20, 21, 22, 23, 24, 7] hbs hbd (fun t h => (hbt t (fun e => by subst e; revert h; decide)).trans (ht t h)) (by decide)
  simp only [List.foldl, hbu] at ha
  generalize sl ab 18 = u18 at ha
  generalize sl ab 19 = u19 at ha
  generalize sl ab 20 = u20 at ha
  generalize sl ab 21 = u21 at ha
  generalize sl ab 22 = u22 at ha
  generalize sl ab 23 = u23 at ha
  generalize sl ab 7 = u7 at ha
  simp only [Act.put, List.setIfInBounds_toArray, List.set_cons_zero, List.set_cons_succ] at ha
  rw [ha]; clear ha hbu hbt hbs hbd hI ht hs hd 
  simp only [List.drop_succ_cons, List.drop_zero]
  go_wp2
  exact bodyPost_ret (res_ct rfl _ _ _ 27 #[.int .i64 n0, .int .i64 s, .int .i64 k, .int .u32 d] (0, 0) _ (.bool S) rfl (hrs k63) rfl Tryz.underlying27 rfl info_plan) rfl ⟨rfl, below_row HB3 HG6.out⟩
set_option maxRecDepth 100000 in
set_option maxHeartbeats 2000000 in
theorem TSmall_bad (q0 : Option Addr) (n0 c0 : Nat) (s d : Int) (w : World) (hn : n0 ≤ 9223372036854775807) (hf : fitS n0 s ≠ 0) :
    Calls Tryz.prog 11 #[.slice q0 n0 c0, .int .i64 s, .int .u32 d] w fun e w' => e = .returned (.tuple #[.agg #[.int .i64 0, .int .i64 0, .int .i64 0, .int .u32 0], .bool false]) ∧ Below w.heap.size w w' := by
  have HOf : Hid (∀ w, Calls Tryz.prog 24 #[.int .i64 (n0 : Nat), .int .i64 s, .int .u32 d] w fun e w' => e = .returned (.tuple #[.agg #[.int .i64 0, .int .i64 0, .int .i64 0, .int .u32 0], .int .i64 (fitS n0 s)]) ∧ Below w.heap.size w w') := fun w => by
    have := POf_any (n0 : Int) s d w (by omega)
    rw [of_none hf] at this; exact this
  have hz : (fitS n0 s == 0) = false := beq_eq_false_iff_ne.2 hf
  clear hf
  generalize fitS n0 s = F at *
  go_enter Tryz.func11, Tryz.ntmps11
  go_wp2_with fail
  refine Calls.mono (HOf.out _) ?_
  rintro e w1 ⟨rfl, hb⟩
  obtain ⟨hb1, k6, -⟩ := one_of hb
  have ba : Below w1.heap.size w1 (w1.alloc (.cells #[.int .i64 0, .int .i64 0, .int .i64 0, .int .u32 0] 27 (0, 0))) := al (Below.refl _ _) (Nat.le_refl _)
  have HB2 := Lib.hid (bl hb1 ba hb1.size)
  have k8 : (w1.alloc (.cells #[.int .i64 0, .int .i64 0, .int .i64 0, .int .u32 0] 27 (0, 0))).heap[w1.heap.size]? = some (.cells #[.int .i64 0, .int .i64 0, .int .i64 0, .int .u32 0] 27 (0, 0)) := hnew rfl
  have k62 := (ba.block _ (lt_of_block k6)).trans k6
  obtain ⟨g6, hg6⟩ : ∃ g6, g6 = w.heap.size := ⟨_, rfl⟩
  obtain ⟨g8, hg8⟩ : ∃ g8, g8 = w1.heap.size := ⟨_, rfl⟩
  rw [← hg6] at k62 ⊢
  rw [← hg8] at k8
  clear hb hb1 ba k6
  go_wp2
  rw [← hg8, ← hg6]
  generalize w1.alloc (.cells #[.int .i64 0, .int .i64 0, .int .i64 0, .int .u32 0] 27 (0, 0)) = w2 at *
  obtain ⟨z0, z1, z2, z3⟩ := cells_four k8
  have HG6 := Lib.hid (Nat.le_of_eq hg6.symm)
  clear hg8 hg6
  refine wp_region_slipV (fun ix => ([.val (.agg #[.int .i64 0, .int .i64 0, .int .i64 0, .int .u32 0]), .val (.int .i64 F), .val (.bool false), .val (.bool false), .val (undef), .val (undef), .val (.bool false), .any, .any][ix]?).getD (.any)) 25 7 6 24 (.bool false) rfl (by kernel_rfl) (by decide +kernel) (by decide +kernel) (by decide +kernel) _ rfl rfl rfl (by decide) rfl (by decide) ?_ ?_
  · refine ⟨?_, ?_, ?_, ?_, ?_, ?_, ?_, trivial⟩
    · intro a W hb0 hs hp hi; have hb := undrew hb0; clear hb0
      have tt : sl a 8 = .pointer (some ⟨g8, 0, none⟩) := hi 8 (by decide)
      have dd0 := (hb.cell (p := ⟨g8, 0, none⟩) (lt_of_cell z0)).trans z0
      have dd1 := (hb.cell (p := ⟨g8, 1, none⟩) (lt_of_cell z1)).trans z1
      have dd2 := (hb.cell (p := ⟨g8, 2, none⟩) (lt_of_cell z2)).trans z2
      have dd3 := (hb.cell (p := ⟨g8, 3, none⟩) (lt_of_cell z3)).trans z3
      refine ite_y rfl (wp_val (.agg #[.int .i64 0, .int .i64 0, .int .i64 0, .int .u32 0]) ?_ ?_)
      · simp only [execOp, eval_tmp, tt]; simp [go_sem, dd0, dd1, dd2, dd3]
      · exact ⟨_, rfl, Below.refl _ _, rfl⟩
    · intro a W hb0 hs hp hi; have hb := undrew hb0; clear hb0
      have t9 : sl a 9 = .int .i64 F := hi 9 (by decide)
      exact ite_y rfl (wp_val (sl a 9) rfl ⟨_, rfl, Below.refl _ _, t9⟩)
    · intro a W hb0 hs hp hi; have hb := undrew hb0; clear hb0
      have t19 : sl a 19 = .int .i64 F := hp 1 (by decide)
      refine ite_y rfl (wp_val (.bool false) ?_ ?_)
      · simp only [execOp, eval_tmp, eval_const, t19]; simp [go_sem, hz]
      · exact ⟨_, rfl, Below.refl _ _, rfl⟩
    · intro a W hb0 hs hp hi; have hb := undrew hb0; clear hb0
      have t20 : sl a 20 = .bool false := hp 2 (by decide)
      exact ite_y rfl (wp_val (sl a 20) rfl ⟨_, rfl, Below.refl _ _, t20⟩)
    · intro a W hb0 hs hp hi; have hb := undrew hb0; clear hb0
      have tg : sl a 21 = .bool false := hp 3 (by decide)
      exact ite_n (wanted_no rfl rfl (by have hz : a.tmps.size = 25 := hs; rw [hz]; decide) tg (by decide)) rfl
    · intro a W hb0 hs hp hi; have hb := undrew hb0; clear hb0
      have tg : sl a 21 = .bool false := hp 3 (by decide)
      exact ite_n (wanted_no rfl rfl (by have hz : a.tmps.size = 25 := hs; rw [hz]; decide) tg (by decide)) rfl
    · intro a W hb0 hs hp hi; have hb := undrew hb0; clear hb0
      have t21 : sl a 21 = .bool false := hp 3 (by decide)
      have t23 : sl a 23 = undef := hp 5 (by decide)
      refine ite_y rfl (wp_val (.bool false) ?_ ?_)
      · simp only [execOp, eval_tmp, eval_const, t21, t23]; simp [go_sem]
      · exact ⟨_, rfl, Below.refl _ _, rfl⟩
  intro a w3 o ho hb hs hd hI ht
  simp at ho; subst ho
  have t6 : sl a 6 = .pointer (some ⟨g6, 0, none⟩) := ht 6 (by decide)
  have t18 : sl a 18 = .agg #[.int .i64 0, .int .i64 0, .int .i64 0, .int .u32 0] := hI 0 (by decide) (by decide)
  have t21 : sl a 21 = .bool false := hI 3 (by decide) (by decide)
  have v21 : a.tmps[21]?.getD undef = .bool false := by simpa [sl] using t21
  have k63 := (hb.block _ (lt_of_block k62)).trans k62
  have HB3 : Below w.heap.size w w3 := bl HB2.out hb HB2.out.size
  refine ⟨fun w' => ?_, ?_⟩
  · simp [execOp, eval_tmp, eval_const, go_sem, v21]
  refine wp_store_row 27 (.tmp 6) (.tmp 18) rfl g6 #[.int .i64 0, .int .i64 0, .int .i64 0, .int .u32 0] (by rw [eval_tmp]; exact t6) (by rw [eval_tmp]; exact t18) _ _ k63 info_plan rfl (by simp [Value.oneCell']) ?_
  refine ⟨rfl, fun ab hbs hbd hbt hbu => ?_⟩
  have ha := act_is [18, 19, 20, 21, 22, 23, 24, 7] hbs hbd (fun t h => (hbt t (fun e => by subst e; revert h; decide)).trans (ht t h)) (by decide)
  simp only [List.foldl, hbu] at ha
  generalize sl ab 18 = u18 at ha
  generalize sl ab 19 = u19 at ha
  generalize sl ab 20 = u20 at ha
  generalize sl ab 21 = u21 at ha
  generalize sl ab 22 = u22 at ha
  generalize sl ab 23 = u23 at ha
  generalize sl ab 7 = u7 at ha
  simp only [Act.put, List.setIfInBounds_toArray, List.set_cons_zero, List.set_cons_succ] at ha
  rw [ha]; clear ha hbu hbt hbs hbd hI ht hs hd 
  simp only [List.drop_succ_cons, List.drop_zero]
  go_wp2
  exact bodyPost_ret (res_ct rfl _ _ _ 27 #[.int .i64 0, .int .i64 0, .int .i64 0, .int .u32 0] (0, 0) _ (.bool false) rfl (hrs k63) rfl Tryz.underlying27 rfl info_plan) rfl ⟨rfl, below_row HB3 HG6.out⟩
/-- are sources gone through here -/
def fewT (srcs : List SrcD) : Bool := srcs.all (fun a => decide (a.xs.length ≤ 60)) && decide (srcs.length ≤ 20)
set_option maxRecDepth 100000 in
set_option maxHeartbeats 2000000 in
theorem TFew_any (p1 : Option Addr) (n1 c1 : Nat) (srcs : List SrcD) (w : World) (h1 : SlS w p1 n1 c1 srcs) :
    Calls Tryz.prog 12 #[.slice p1 n1 c1] w fun e w' => e = .returned (.bool (fewT srcs)) ∧ Below w.heap.size w w' := by
  have H1 := Lib.hid h1
  have hb1 := h1.bound
  have HL := Lib.hid h1.len
  clear h1
  go_enter Tryz.func12, Tryz.ntmps12
  go_wp2
  go_loopw [7] (fun iv wr => ∃ i : Nat, i ≤ n1 ∧ iv = .int .i64 (i : Nat) ∧ Hid (∀ (j : Nat) (a : SrcD), j < i → srcs[j]? = some a → a.xs.length ≤ 60) ∧ Hid (Below w.heap.size w wr)) (fun iv _ => n1 - (intOf iv).toNat)
  case atStart => exact ⟨0, Nat.zero_le _, rfl, fun j a hj => by omega, Below.refl _ _⟩
  case round =>
    obtain ⟨i, hi, rfl, hA, hB⟩ := hrel
    by_cases hlt : i < n1
    · obtain ⟨b, ob, q, j, c', a, rfl, hga, f0, f1, f2, hs, hs64⟩ := H1.out.at hlt
      have x0 := (hB.out.cell (p := ⟨b, ob + i * 3, none⟩) (lt_of_cell f0)).trans f0
      have x1 := (hB.out.cell (p := ⟨b, ob + i * 3 + 1, none⟩) (lt_of_cell f1)).trans f1
      have x2 := (hB.out.cell (p := ⟨b, ob + i * 3 + 2, none⟩) (lt_of_cell f2)).trans f2
      have hlt' : (i : Int) < (n1 : Int) := by omega
      have HJ := Lib.hid hs.len
      have hjb := hs.bound
      clear f0 f1 f2 hs hlt
      by_cases hj : j ≤ 60
      · have hj' : ¬ (60 : Int) < (j : Int) := by omega
        have HX : Hid (∀ (j : Nat) (a : SrcD), j < i + 1 → srcs[j]? = some a → a.xs.length ≤ 60) := fun j2 a2 h1 h2 => by
          by_cases e : j2 = i
          · subst e; have := hga.out.symm.trans h2; cases this; rw [HJ.out]; exact hj
          · exact hA.out j2 a2 (by omega) h2
        have HB' := Lib.hid (al (o := .cells #[B8 a.m, .slice q j c', .int .u64 (a.s : Nat)] 66 (0, 0)) hB.out hB.out.size)
        clear hA hga
        go_wp2
        go_roundw
        case rel => exact ⟨i + 1, by omega, by go_num, HX.out, HB'.out⟩
        case measure => simp [intOf]; omega
      · have hj' : (60 : Int) < (j : Int) := by omega
        have HF : Hid (fewT srcs = false) := by
          show _ = _
          unfold fewT
          have : srcs.all (fun a => decide (a.xs.length ≤ 60)) = false := by
            rw [List.all_eq_false]; exact ⟨a, List.mem_of_getElem? hga.out, by have := HJ.out; simp; omega⟩
          rw [this]; rfl
        go_wp2
        go_ret
        exact ⟨by rw [HF.out]; rfl, al hB.out hB.out.size⟩
    · have HA : Hid (fewT srcs = decide (n1 ≤ 20)) := by
        show _ = _
        unfold fewT
        have : srcs.all (fun a => decide (a.xs.length ≤ 60)) = true := List.all_eq_true.2 fun x hx => by
          obtain ⟨r, hr, e⟩ := List.getElem_of_mem hx
          exact decide_eq_true (hA.out r x (by have := HL.out; omega) (by rw [List.getElem?_eq_getElem hr, e]))
        rw [this, HL.out]; rfl
      have hlt' : ¬ (i : Int) < (n1 : Int) := by omega
      clear hA hlt
      by_cases h3 : n1 ≤ 20
      · have h3' : (n1 : Int) ≤ 20 := by omega
        have HR : Hid (fewT srcs = true) := by show _ = _; rw [HA.out, decide_eq_true h3]
        clear h3
        go_wp2
        go_ret
        exact ⟨by rw [HR.out]; rfl, hB.out⟩
      · have h3' : ¬ (n1 : Int) ≤ 20 := by omega
        have HR : Hid (fewT srcs = false) := by show _ = _; rw [HA.out, decide_eq_false h3]
        clear h3
        go_wp2
        go_ret
        exact ⟨by rw [HR.out]; rfl, hB.out⟩
end Go.Proofs.YtfbmdlfkipipfaaGreatDoor
namespace Go.Proofs.YtfbmdlfkipipfaaGreatDoor
open Go.RowKit Go.By Gf Go.Maps
theorem hdr_mono22 {T2 T1 B B' n : Nat} {w : World} {v : Value} {xss : List (List UInt8)} (h : HdrF T2 T1 B w v n xss) (hB : B' ≤ B) : HdrF T2 T1 B' w v n xss := by
  obtain ⟨vs, h1, h2, h3⟩ := h
  refine ⟨vs, owns_mono h1 hB, h2, fun j u hu => ?_⟩
  obtain ⟨q, m, c, xs, e1, e2, e3⟩ := h3 j u hu
  exact ⟨q, m, c, xs, e1, e2, e3.mono hB⟩
/-- a sender, in memory; wI: the world ahead, w0: the world in which the sender was made -/
structure S1 (wI w0 w : World) (gs L t k D : Nat) (FX : List (List UInt8)) (nx : Nat) : Prop where
  bel : Below wI.heap.size wI w
  i0 : wI.heap.size ≤ w0.heap.size
  le : w0.heap.size ≤ w.heap.size
  gs0 : wI.heap.size ≤ gs
  snd : SndO w0 w gs L t k D nx FX
section
variable {wI w0 w w' : World} {gs L t k D nx : Nat} {FX : List (List UInt8)}
theorem S1.keep (h : S1 wI w0 w gs L t k D FX nx) (hb : Below w.heap.size w w') : S1 wI w0 w' gs L t k D FX nx :=
  ⟨bl h.bel hb h.bel.size, h.i0, Nat.le_trans h.le hb.size, h.gs0, h.snd.keep hb h.le⟩
theorem S1.grown (h : S1 wI w0 w gs L t k D FX nx) {T e n : Nat} {u : Value} {ys : List Value} (ho : w.ownsRow w0.heap.size T e u n ys) (hg : w.grownBy w' u.ownBlock) :
    S1 wI w0 w' gs L t k D FX nx ∧ (∀ T', T ≠ T' → ∀ (b : Nat) (cs : Array Value) (fr : Nat × Nat), w.heap[b]? = some (.cells cs T' fr) → w'.heap[b]? = w.heap[b]?) := by
  rcases ho.2 with ⟨e1, _⟩ | ⟨g, cap, cur, e1, hgb, hh, _⟩
  · have hb : Below w.heap.size w w' := ⟨hg.os, hg.tape, hg.output, hg.size, fun b hb => hg.block b hb (fun e => by rw [e1] at e; cases e)⟩
    exact ⟨h.keep hb, fun T' _ b cs fr hc => hb.block b (lt_of_block hc)⟩
  · have hc : GChg w g w' := ⟨hg.os, hg.tape, hg.output, hg.size, fun b hb hne => hg.block b hb (fun e => by rw [e1] at e; cases e; exact hne rfl)⟩
    exact ⟨⟨h.bel.trans (hc.below (Nat.le_trans h.i0 hgb) h.bel.size), h.i0, Nat.le_trans h.le hc.size, h.gs0, h.snd.keep (hc.below hgb h.le) (Nat.le_refl _)⟩, fun T' hne => hc.same hh hne⟩
/-- the sender is asked to send by a source -/
theorem S1_sendA (h : S1 wI w0 w gs L t k D FX nx) (hT : HalfT wI) (hnx : nx < 4294967296) {m : UInt8} {p : Option Addr} {j c s : Nat} {xs : List UInt8} (hs : Sl B8 w p j c xs) (hr : Room j) :
    Calls Tryz.prog 31 #[.pointer (some ⟨gs, 0, none⟩), SVal m p j c s] w fun e w' => ∃ q n c', e = .returned (.tuple #[.slice q n c', .int .i64 (srcC m j k)]) ∧ Fresh 5 w.heap.size w' q n c' (sentX D nx k FX m j s xs) ∧ S1 wI w0 w' gs L t k D FX (nextX nx k m j) ∧ KeepS w w' := by
  unfold sentX nextX
  by_cases hm : srcC m j k = 0
  · rw [if_pos hm, if_pos hm, hm]
    refine Calls.mono (SSend_okF gs L t k D nx FX m p j c s xs w h.snd.snd hnx hm hs hr (hT.keep h.bel)) ?_
    rintro e w1 ⟨⟨q, n, c', he, hf⟩, hq⟩
    have hS := h.snd.sent hq
    obtain ⟨⟨_, _, _, _, _, _, hg⟩, -⟩ := hq
    obtain ⟨_, _, _, _, hbx, _, _⟩ := h.snd.mem
    exact ⟨q, n, c', he, hf, ⟨h.bel.trans (hg.below h.gs0 h.bel.size), h.i0, Nat.le_trans h.le hg.size, h.gs0, hS⟩, hg.keepSS hbx⟩
  · rw [if_neg hm, if_neg hm]
    refine Calls.mono (SSend_bad gs L t k D nx FX m p j c s xs w h.snd.snd hnx hm hs hr) ?_
    rintro e w1 ⟨rfl, hb⟩
    exact ⟨none, 0, 0, rfl, Fresh.none _ _ _, h.keep hb, KeepS.of hb⟩
end
def SentRet (w : World) (XS : List (List UInt8)) (e : Ending) (w' : World) : Prop :=
  ∃ q c, e = .returned (.tuple #[.slice q XS.length c, .bool true]) ∧ HdrF 22 5 w.heap.size w' (.slice q XS.length c) XS.length XS ∧ Below w.heap.size w w'
set_option maxRecDepth 100000 in
set_option maxHeartbeats 4000000 in
theorem TSent_ok (L t k D : Nat) (q0 : Option Addr) (c0 : Nat) (o : List UInt8) (p1 : Option Addr) (n1 c1 : Nat) (srcs : List SrcD) (w : World) (hP : POK L t k D) (hfit : ∀ i : Nat, i < k → i * t ≤ L) (h0 : Sl B8 w q0 L c0 o) (h1 : SlS w p1 n1 c1 srcs) (hT : HalfT w)
    (hn1 : n1 ≤ 1000) (hsr : ∀ a, a ∈ srcs → a.xs.length ≤ 1000000) :
    Calls Tryz.prog 13 #[PVal L t k D, .slice q0 L c0, .slice p1 n1 c1] w (SentRet w (sendsS D k ((List.range k).map (pieceS o t)) srcs)) := by
  obtain ⟨FX, hFX⟩ : ∃ FX, FX = (List.range k).map (pieceS o t) := ⟨_, rfl⟩
  have HT := Lib.hid hT
  have HSR := Lib.hid hsr
  have H1 := Lib.hid h1
  have HSN : Hid (∀ W, Below w.heap.size w W → Calls Tryz.prog 30 #[PVal L t k D, .slice q0 L c0] W fun e w' => ∃ gs, e = .returned (.tuple #[.pointer (some ⟨gs, 0, none⟩), .int .i64 0]) ∧ W.heap.size ≤ gs ∧ Snd w' gs L t k D 0 FX ∧ Below W.heap.size W w') := fun W hb => by
    rw [hFX]; exact SNew_ok L t k D q0 L c0 o W hP (h0.keep hb) hfit rfl
  rw [← hFX]
  clear hP hfit h0 h1 hT hsr hFX
  go_enter Tryz.func13, Tryz.ntmps13
  go_wp2_with fail
  have ba : Below w.heap.size w (w.alloc (.cells #[.int .i64 (L : Nat), .int .i64 (t : Nat), .int .i64 (k : Nat), .int .u32 (D : Nat)] 27 (0, 0))) := al (Below.refl _ _) (Nat.le_refl _)
  refine Calls.mono (HSN.out _ ba) ?_
  rintro e w0 ⟨gs, rfl, hgs, hsn, hb⟩
  have HS0 : Hid (S1 w w0 w0 gs L t k D FX 0) := ⟨bl ba hb ba.size, (bl ba hb ba.size).size, Nat.le_refl _, Nat.le_trans ba.size hgs, SndO.start hsn⟩
  clear hb ba hgs hsn HSN
  go_wp2
  go_loopw [10, 25] (fun sv iv wr => ∃ (i : Nat) (XS : List (List UInt8)), i ≤ n1 ∧ iv = .int .i64 (i : Nat) ∧ XS.length ≤ i ∧ Hid (XS = sendsS D k FX (srcs.take i)) ∧ Hid (S1 w w0 wr gs L t k D FX XS.length) ∧ Hid (HdrF 22 5 w0.heap.size wr sv XS.length XS)) (fun _ iv _ => n1 - (intOf iv).toNat)
  case atStart => exact ⟨0, [], Nat.zero_le _, rfl, Nat.le_refl _, rfl, HS0.out, HdrF.nil _ _ _ _⟩
  case round =>
    obtain ⟨i, XS, hi, rfl, hXi, HXS, HR, HX⟩ := hrel
    clear HS0
    obtain ⟨qs, cs, rfl⟩ := HX.out.shape
    by_cases hlt : i < n1
    · obtain ⟨b, ob, q, j, c', a, rfl, hga, f0, f1, f2, hs, hs64⟩ := H1.out.at hlt
      have x0 := (HR.out.bel.cell (p := ⟨b, ob + i * 3, none⟩) (lt_of_cell f0)).trans f0
      have x1 := (HR.out.bel.cell (p := ⟨b, ob + i * 3 + 1, none⟩) (lt_of_cell f1)).trans f1
      have x2 := (HR.out.bel.cell (p := ⟨b, ob + i * 3 + 2, none⟩) (lt_of_cell f2)).trans f2
      have hlt' : (i : Int) < (n1 : Int) := by omega
      have HSX := Lib.hid hs
      have hjl := hs.len
      have hj : j ≤ 1000000 := by rw [← hjl]; exact HSR.out a (List.mem_of_getElem? hga.out)
      have HNX : Hid (sendsS D k FX (srcs.take (i + 1)) = sendF D k FX XS a) := by show _ = _; rw [sends_snoc hga.out, ← HXS.out]
      have ba : Below wr.heap.size wr (wr.alloc (.cells #[B8 a.m, .slice q j c', .int .u64 (a.s : Nat)] 66 (0, 0))) := al (Below.refl _ _) (Nat.le_refl _)
      have HRa := Lib.hid (HR.out.keep ba)
      have hsend := S1_sendA HRa.out HT.out (by omega) ((HSX.out.keep HR.out.bel).keep ba) (show j ≤ 140737488355328 by omega) (m := a.m) (s := a.s)
      have HXa := Lib.hid (HX.out.keep ba)
      have HLE := Lib.hid HR.out.le
      have HSD := Lib.hid hsend
      clear f0 f1 f2 hs hlt ba hsend HX HR hga
      by_cases hm : srcC a.m j k = 0
      · have HNX2 : Hid (XS ++ [pktB a.m D XS.length a.xs a.s (combS (vecS a.m a.xs a.s k) FX).1] = sendsS D k FX (srcs.take (i + 1))) := by
          show _ = _
          rw [HNX.out]; unfold sendF; rw [hjl, if_pos hm]
        unfold sentX nextX at HSD
        rw [if_pos hm, if_pos hm, hm] at HSD
        clear hm HNX hjl
        generalize pktB a.m D XS.length a.xs a.s (combS (vecS a.m a.xs a.s k) FX).1 = pk at *
        go_wp2_with fail
        refine Calls.mono HSD.out ?_
        rintro e wd ⟨ql, nl, cl, rfl, hf, hS, hK⟩
        have ba : Below wd.heap.size wd (wd.alloc (.cells #[.slice ql nl cl] 22 (0, 0))) := al (Below.refl _ _) (Nat.le_refl _)
        have HSf := Lib.hid (hS.keep ba)
        have HXf := Lib.hid ((hK.hdr os_rows os_u8 HXa.out).keep ba)
        have FLf : Hid (Fresh 5 w0.heap.size (wd.alloc (.cells #[.slice ql nl cl] 22 (0, 0))) ql nl cl pk) := (hf.mono (by have := HLE.out; simp; omega)).keep ba
        clear ba hf hS hK x0 x1 x2 HRa HSD HXa
        go_wp2_with (first | (at_builtin; refine wpList_hdr rfl _ _ rfl w0.heap.size XS.length (.slice qs XS.length cs) XS rfl HXf.out (by omega) HSf.out.le wd.heap.size rfl ql nl cl (0, 0) pk (hnew rfl) FLf.out ?_) | fail)
        rintro sA wA hA1 ⟨ys, hA2⟩ hA3 -
        obtain ⟨hSA, -⟩ := HSf.out.grown hA2 hA3
        have HSA : Hid (S1 w w0 wA gs L t k D FX (XS ++ [pk]).length) := by rw [List.length_append]; exact hSA
        have HXA : Hid (HdrF 22 5 w0.heap.size wA sA (XS ++ [pk]).length (XS ++ [pk])) := by rw [List.length_append]; exact hA1
        clear hA1 hA2 hA3 hSA HSf HXf FLf
        go_wp2
        go_roundw
        case rel => exact ⟨i + 1, XS ++ [pk], by omega, by go_num, by rw [List.length_append]; simp; omega, HNX2.out, HSA.out, HXA.out⟩
        case measure => simp [intOf]; omega
      · have HNX2 : Hid (XS = sendsS D k FX (srcs.take (i + 1))) := by
          show _ = _
          rw [HNX.out]; unfold sendF; rw [hjl, if_neg hm]
        unfold sentX nextX at HSD
        rw [if_neg hm, if_neg hm] at HSD
        have hz5 : (srcC a.m j k == 0) = false := beq_eq_false_iff_ne.2 hm
        generalize srcC a.m j k = R at *
        clear hm HNX hjl
        go_wp2_with fail
        refine Calls.mono HSD.out ?_
        rintro e wd ⟨ql, nl, cl, rfl, -, hS, hK⟩
        have HSA := Lib.hid hS
        have HXA := Lib.hid (hK.hdr os_rows os_u8 HXa.out)
        clear hS hK x0 x1 x2 HRa HSD HXa
        go_wp2
        go_roundw
        case rel => exact ⟨i + 1, XS, by omega, by go_num, by omega, HNX2.out, HSA.out, HXA.out⟩
        case measure => simp [intOf]; omega
    · obtain rfl : n1 = i := by omega
      have hXE : sendsS D k FX srcs = XS := by rw [HXS.out, ← H1.out.len, List.take_length]
      have HB := Lib.hid HR.out.bel
      have HXF := Lib.hid (hdr_mono22 HX.out HR.out.i0)
      have HXE := Lib.hid hXE
      clear hlt hi HXS HR HX hXE
      go_wp2
      go_ret2
      rw [HXE.out]
      exact ⟨qs, cs, rfl, HXF.out, HB.out⟩
end Go.Proofs.YtfbmdlfkipipfaaGreatDoor
namespace Go.Proofs.YtfbmdlfkipipfaaGreatDoor
open Go.RowKit Go.By Go.Maps
theorem pok221 : POK 2 2 1 1 := ⟨by decide, by decide, by decide, by decide, by decide, by decide, by decide⟩
theorem of221 : ofS 2 2 1 = .tuple #[PVal 2 2 1 1, .int .i64 0] := by
  have h : fitS 2 2 = 0 := by decide
  have h2 : needS 2 2 = 1 := by decide
  unfold ofS; rw [if_pos h, h2]; rfl
def pktT : List UInt8 := pktB 0 1 0 [9] 0 (combS [9] [[3, 4]]).1
theorem lenTc : (combS [9] [[3, 4]]).1.length = 2 := by decide +kernel
theorem putT : putK [] ([9], (combS [9] [[3, 4]]).1) = [([1], [3, 4])] ∧ nextS [] ([9], (combS [9] [[3, 4]]).1) 1 = 1 := by decide +kernel
theorem readT : readC 1 2 1 pktT = 0 ∧ eqX 1 2 pktT = ([9], (combS [9] [[3, 4]]).1) := by
  obtain ⟨h1, h2, h3, h4, h5, h6⟩ := read_write (m := 0) (D := 1) (n := 0) (s := 0) (k := 1) (t := 2) (xs := [9]) (ys := (combS [9] [[3, 4]]).1) rfl (fun _ => rfl) lenTc (by decide) (by decide)
  refine ⟨h1, ?_⟩
  unfold eqX
  rw [show pktM pktT = 0 from h2, show pktX 1 pktT = [9] from h4, show pktY 1 2 pktT = (combS [9] [[3, 4]]).1 from h6]
  rfl
theorem takeT : takeK 1 2 1 [] 0 pktT = [([1], [3, 4])] ∧ takeS 1 2 1 [] 0 pktT = 1 := by
  unfold takeK takeS
  rw [if_pos ⟨readT.1, rfl⟩, if_pos ⟨readT.1, rfl⟩, readT.2]
  exact putT
theorem lenT : pktT.length = 17 := by simp [pktT, pktB, bodyP, headB, srcB, put4_len, lenTc]
theorem piecesT : (List.range 1).map (pieceS [3, 4] 2) = [[3, 4]] := by decide
theorem joinT : joinS 2 2 1 (([([1], [3, 4])] : List Rw).map (fun x : Rw => x.2)) = ([3, 4], 0) := by decide +kernel
set_option maxRecDepth 100000 in
set_option maxHeartbeats 8000000 in
theorem awakeT (w : World) (hT : HalfT w) : Calls Tryz.prog 10 #[] w fun e w' => e = .returned (.bool true) ∧ Below w.heap.size w w' := by
  have HT := Lib.hid hT
  have HOf : Hid (∀ w, Calls Tryz.prog 24 #[.int .i64 2, .int .i64 2, .int .u32 1] w fun e w' => e = .returned (.tuple #[PVal 2 2 1 1, .int .i64 0]) ∧ Below w.heap.size w w') := fun w => by have := POf_any 2 2 1 w (by decide); rw [of221] at this; exact this
  have HSm : Hid (∀ xs p1 p2 n1 n2 c1 c2 w, Sl B8 w p1 n1 c1 xs → Sl B8 w p2 n2 c2 xs → Calls Tryz.prog 36 #[.slice p1 n1 c1, .slice p2 n2 c2] w fun e w' => e = .returned (.bool true) ∧ Below w.heap.size w w') := fun xs p1 p2 n1 n2 c1 c2 w h1 h2 => by
    have := Same_any p1 p2 n1 n2 c1 c2 xs xs w h1 h2
    rw [decide_eq_true rfl] at this
    exact this
  clear hT
  go_enter Tryz.func10, Tryz.ntmps10
  go_wp2_with fail
  refine Calls.mono (HOf.out w) ?_
  rintro e w1 ⟨rfl, hb1⟩
  have HB1 := Lib.hid hb1
  clear hb1
  go_wp2_with fail
  refine Calls.mono (SNew_ok 2 2 1 1 _ 2 2 [3, 4] _ pok221 (sl_block [3, 4] 2 (hnew (by simp)) rfl rfl (by simp [maxLen])) (fun i hi => by omega) rfl) ?_
  rintro e w2 ⟨gs, rfl, hgs, hsn, hb⟩
  rw [piecesT] at hsn
  obtain ⟨hb2, kp, -, hs2⟩ := two_of hb
  have HB2 := Lib.hid (bl HB1.out hb2 HB1.out.size)
  have HSn := Lib.hid hsn
  have HGS : Hid (w.heap.size ≤ gs) := by have := HB1.out.size; show w.heap.size ≤ gs; simp at hgs; omega
  clear hb hb2 hsn hgs hs2
  obtain ⟨p0, p1, p2, p3⟩ := cells_four kp
  go_wp2_with fail
  refine Calls.mono (TNew_ok 2 2 1 1 w2 pok221) ?_
  rintro e w3 ⟨gt, be, v, rfl, ht, hb⟩
  have HB3 := Lib.hid (bl HB2.out hb HB2.out.size)
  have HT3 := Lib.hid ht
  have HSn3 := Lib.hid (HSn.out.keep hb)
  clear hb ht HSn kp p0 p1 p2 p3
  go_wp2_with fail
  have ba := al (o := .cells #[.int .u8 9] 5 (0, 0)) (Below.refl w3.heap.size w3) (Nat.le_refl _)
  have HT4 := Lib.hid (HT3.out.keep ba)
  have HSn4 := Lib.hid (HSn3.out.keep ba)
  have HB4 := Lib.hid (bl HB3.out ba HB3.out.size)
  have HX4 : Hid (Sl B8 (w3.alloc (.cells #[.int .u8 9] 5 (0, 0))) (some ⟨w3.heap.size, 0, none⟩) 1 1 [9]) := sl_block [9] 1 (hnew rfl) rfl rfl (by simp [maxLen])
  clear ba HT3 HSn3
  refine Calls.mono (SExplicit_ok gs 2 2 1 1 0 [[3, 4]] _ 1 1 [9] _ HSn4.out (by decide) rfl HX4.out (HT.out.keep HB4.out)) ?_
  rintro e w5 ⟨ql, nl, cl, rfl, hl, hsn, hg⟩
  obtain ⟨_, _, hbx, -⟩ := HSn4.out.mem
  have HL := Lib.hid hl
  have HT5 := Lib.hid (hg.tkr hbx HT4.out (by decide) (by decide) (by decide) (by decide))
  have HB5 := Lib.hid (HB4.out.trans (hg.below HGS.out HB4.out.size))
  have hnl : nl = 17 := by rw [← hl.len]; exact lenT
  have HNL := Lib.hid hnl
  clear hg hbx hl hsn HT4 HSn4 HB4 HX4 hnl
  go_wp2_with fail
  refine Calls.mono (TTake_any _ gt be 2 2 1 1 0 (.map none) v (.map []) [] 0 ql nl cl pktT w5 HT5.out (HT.out.keep HB5.out) (by decide) HL.out (by rw [HNL.out]; show 17 ≤ 140737488355328; decide)) ?_
  rintro e w8 ⟨he, M8, v8, hT8, hc8, -⟩
  rw [readT.1] at he
  subst he
  rw [takeT.1, takeT.2] at hT8
  have HT8 := Lib.hid hT8
  have HB8 := Lib.hid (HB5.out.trans (hc8.below HT5.out HB2.out.size HB5.out.size))
  clear hT8 hc8 HT5 HB5 HL HNL
  go_wp2_with fail
  have hob := TObject_done _ gt be 2 2 1 1 _ M8 v8 _ _ w8 HT8.out rfl
  rw [show joinS ((2 : Nat) : Int) ((2 : Nat) : Int) ((1 : Nat) : Int) (([([1], [3, 4])] : List Rw).map (fun x : Rw => x.2)) = ([3, 4], 0) from joinT] at hob
  refine Calls.mono hob ?_
  rintro e wA ⟨qo, no, co, rfl, ho, hb⟩
  have HO := Lib.hid ho
  have HBA := Lib.hid (bl HB8.out hb HB8.out.size)
  clear hob hb ho HT8 HB8
  go_wp2_with fail
  refine Calls.mono (HSm.out [3, 4] _ _ _ _ _ _ _ (HO.out.keep (al (Below.refl _ _) (Nat.le_refl _))) (sl_block [3, 4] 2 (hnew rfl) rfl rfl (by simp [maxLen]))) ?_
  rintro e wC ⟨rfl, hb⟩
  have HBC := Lib.hid (bl HBA.out (one_of hb).1 HBA.out.size)
  clear hb
  go_wp2
  go_ret
  exact ⟨rfl, HBC.out⟩
end Go.Proofs.YtfbmdlfkipipfaaGreatDoor
namespace Go.Proofs.YtfbmdlfkipipfaaGreatDoor
open Go.RowKit Go.By
end Go.Proofs.YtfbmdlfkipipfaaGreatDoor
namespace Go.Proofs.YtfbmdlfkipipfaaGreatDoor
open Go.RowKit Go.By Gf Go.Maps
def vecF (k : Nat) (acc : List (List UInt8)) (a : SrcD) : List (List UInt8) := if srcC a.m a.xs.length k = 0 then acc ++ [vecS a.m a.xs a.s k] else acc
def blkF (k t : Nat) (acc : List (List UInt8)) (a : SrcD) : List (List UInt8) := if srcC a.m a.xs.length k = 0 then acc ++ [List.replicate (lenP a.m k t) 0] else acc
def vecsS (k : Nat) (l : List SrcD) : List (List UInt8) := l.foldl (vecF k) []
def blksS (k t : Nat) (l : List SrcD) : List (List UInt8) := l.foldl (blkF k t) []
theorem vecs_snoc {k : Nat} {l : List SrcD} {i : Nat} {a : SrcD} (h : l[i]? = some a) : vecsS k (l.take (i + 1)) = vecF k (vecsS k (l.take i)) a := by
  obtain ⟨hi, e⟩ := List.getElem?_eq_some_iff.1 h
  unfold vecsS
  rw [foldl_take_succ _ _ _ _ hi, e]
theorem blks_snoc {k t : Nat} {l : List SrcD} {i : Nat} {a : SrcD} (h : l[i]? = some a) : blksS k t (l.take (i + 1)) = blkF k t (blksS k t (l.take i)) a := by
  obtain ⟨hi, e⟩ := List.getElem?_eq_some_iff.1 h
  unfold blksS
  rw [foldl_take_succ _ _ _ _ hi, e]
/-- what is sent, its vectors, and blanks of its lengths -/
structure RelX (k t D : Nat) (FX XS VS BS : List (List UInt8)) : Prop where
  l1 : VS.length = XS.length
  l2 : BS.length = XS.length
  at_ : ∀ (n : Nat) (x v b : List UInt8), XS[n]? = some x → VS[n]? = some v → BS[n]? = some b → readC k t D x = 0 ∧ eqX k t x = rowC t FX v ∧ v.length = k ∧ b.length = x.length
theorem RelX.push {k t D : Nat} {FX XS VS BS : List (List UInt8)} {x v b : List UInt8} (h : RelX k t D FX XS VS BS) (hx : readC k t D x = 0 ∧ eqX k t x = rowC t FX v ∧ v.length = k ∧ b.length = x.length) : RelX k t D FX (XS ++ [x]) (VS ++ [v]) (BS ++ [b]) := by
  refine ⟨by simp [h.l1], by simp [h.l2], fun n x' v' b' h1 h2 h3 => ?_⟩
  have l1 := h.l1; have l2 := h.l2
  rcases Nat.lt_trichotomy n XS.length with g | g | g
  · rw [List.getElem?_append_left (by omega)] at h1 h2 h3
    exact h.at_ n x' v' b' h1 h2 h3
  · subst g
    rw [List.getElem?_append_right (by omega), Nat.sub_self] at h1
    rw [List.getElem?_append_right (by omega), l1, Nat.sub_self] at h2
    rw [List.getElem?_append_right (by omega), l2, Nat.sub_self] at h3
    simp at h1 h2 h3
    subst h1 h2 h3
    exact hx
  · rw [List.getElem?_eq_none (by simp; omega)] at h1; cases h1
theorem pkt_len {m : UInt8} {D n s k t : Nat} {xs ys : List UInt8} (hs : srcC m xs.length k = 0) (hy : ys.length = t) : (pktB m D n xs s ys).length = lenP m k t := by
  obtain ⟨hm, hx⟩ := srcC_zero hs
  unfold pktB bodyP headB srcB lenP widS
  by_cases h0 : m = 0
  · rw [if_pos h0, if_pos h0]; simp [put4_len, hy, hx h0]; omega
  · have h1 : m = 1 := by
      unfold modeC at hm
      by_cases h1 : m = 1
      · exact h1
      · rw [if_neg (by simp [h0, h1])] at hm; cases hm
    rw [if_neg h0, if_neg h0]; simp [put4_len, put8_len, hy, h1]; omega
theorem RelX.all {k t D : Nat} {FX : List (List UInt8)} (hF : ∀ x, x ∈ FX → x.length = t) (hk : FX.length = k) (k1 : 1 ≤ k) (hD : D < 4294967296) : ∀ (l : List SrcD), l.length ≤ 1000 → (∀ a, a ∈ l → a.s < 18446744073709551616) → RelX k t D FX (sendsS D k FX l) (vecsS k l) (blksS k t l) := by
  intro l hl hs
  have : ∀ i, i ≤ l.length → RelX k t D FX (sendsS D k FX (l.take i)) (vecsS k (l.take i)) (blksS k t (l.take i)) := by
    intro i
    induction i with
    | zero => exact fun _ => ⟨rfl, rfl, fun n x v b h => by simp [sendsS] at h⟩
    | succ i ih =>
      intro hi
      have h := ih (by omega)
      have ha : l[i]? = some l[i] := List.getElem?_eq_getElem (by omega)
      rw [sends_snoc ha, vecs_snoc ha, blks_snoc ha]
      unfold sendF vecF blkF
      by_cases hc : srcC l[i].m l[i].xs.length k = 0
      · rw [if_pos hc, if_pos hc, if_pos hc]
        have hn := sends_len D k FX (l.take i)
        have hn2 : (l.take i).length ≤ 1000 := by rw [List.length_take]; omega
        obtain ⟨e1, e2⟩ := sent_eq (k := k) (t := t) (D := D) (n := (sendsS D k FX (l.take i)).length) (s := l[i].s) (m := l[i].m) (xs := l[i].xs) hF hk k1 hc (hs _ (List.getElem_mem _)) hD (by omega)
        have hv := vecS_len (s := l[i].s) hc rfl
        refine h.push ⟨e1, e2, hv, ?_⟩
        rw [List.length_replicate]
        refine (pkt_len hc ?_).symm
        rw [comb_mulR hF hk k1 hv]; exact mulR_len hF _
      · rw [if_neg hc, if_neg hc, if_neg hc]; exact h
  have h := this l.length (Nat.le_refl _)
  rwa [List.take_length] at h
end Go.Proofs.YtfbmdlfkipipfaaGreatDoor
namespace Go.Proofs.YtfbmdlfkipipfaaGreatDoor
open Gf Go.By
/-- a row whose vector is a combination of those kept, and its data none -/
def clashB (K : List Rw) (x : Rw) : Bool := decide (leadS (restF K x).1 < 0) && !zeroS (restF K x).2
theorem clashB_code {K : List Rw} {x : Rw} : clashB K x = true ↔ codeF K x = 2 := by
  unfold clashB codeF
  by_cases h : leadS (restF K x).1 < 0
  · rw [if_pos h, decide_eq_true h]
    cases zeroS (restF K x).2 <;> simp
  · rw [if_neg h, decide_eq_false h]; simp
theorem kept_ind {k n : Nat} {K : List Rw} (h : KeptS k n K) : Ind (K.map vR) := by
  have := (tri_of_sorted h.rows h.sorted).ind
  rwa [tri_fst] at this
def vecsL (X : List Rw) : List (List UInt8) := X.map (fun x : Rw => x.1)
theorem vecs_rank (X : List Rw) : (iK (vecsL X)).length = (kD X).length := by
  have := kD_pr X []
  show ((X.map (fun x : Rw => x.1)).foldl (fun K r => insF K (r, [])) []).length = _
  rw [show ([] : List Rw) = ([] : List Rw).map prR from rfl, this, List.length_map]; rfl
/-- no row ahead of place j clashes -/
def calm (D : List Rw) (j : Nat) : Prop := ∀ i x, i < j → D[i]? = some x → clashB (kD (D.take i)) x = false
end Go.Proofs.YtfbmdlfkipipfaaGreatDoor
namespace Go.By
open Go.RowKit
end Go.By
namespace Go.Proofs.YtfbmdlfkipipfaaGreatDoor
open Go.RowKit Go.By
end Go.Proofs.YtfbmdlfkipipfaaGreatDoor
namespace Go.By
/-- the digits of a number, the lowest first -/
def digs (b : Nat) (n : Nat) : List Nat := if h : n = 0 ∨ b ≤ 1 then [] else n % b :: digs b (n / b)
termination_by n
decreasing_by exact Nat.div_lt_self (by omega) (by omega)
theorem digs_zero (b : Nat) : digs b 0 = [] := by unfold digs; simp
theorem digs_pos {b n : Nat} (hb : 2 ≤ b) (hn : 0 < n) : digs b n = n % b :: digs b (n / b) := by
  conv => lhs; unfold digs
  rw [dif_neg (by omega)]
/-- the number that digits are -/
def valD (b : Nat) : List Nat → Nat
  | [] => 0
  | x :: xs => x + b * valD b xs
theorem valD_append (b : Nat) : ∀ (xs ys : List Nat), valD b (xs ++ ys) = valD b xs + b ^ xs.length * valD b ys
  | [], ys => by simp [valD]
  | x :: xs, ys => by
    show x + b * valD b (xs ++ ys) = x + b * valD b xs + b ^ (xs.length + 1) * valD b ys
    rw [valD_append b xs ys, Nat.mul_add, Nat.pow_succ, Nat.add_assoc]
    congr 2
    rw [← Nat.mul_assoc, Nat.mul_comm b]
theorem valD_zeros (b : Nat) : ∀ k, valD b (List.replicate k 0) = 0
  | 0 => rfl
  | k + 1 => by rw [List.replicate_succ]; show 0 + b * valD b (List.replicate k 0) = 0; rw [valD_zeros b k]; simp
theorem valD_lt {b : Nat} (hb : 2 ≤ b) : ∀ (xs : List Nat), (∀ x, x ∈ xs → x < b) → valD b xs < b ^ xs.length
  | [], _ => by simp [valD]
  | x :: xs, h => by
    have h1 := h x (by simp)
    have h2 := valD_lt hb xs (fun y hy => h y (by simp [hy]))
    show x + b * valD b xs < b ^ (xs.length + 1)
    rw [Nat.pow_succ, Nat.mul_comm (b ^ xs.length)]
    have h3 : b * (valD b xs + 1) ≤ b * b ^ xs.length := Nat.mul_le_mul_left b h2
    rw [Nat.mul_add] at h3
    omega
/-- digits whose last isn't 0 are those of their number -/
theorem digs_valD {b : Nat} (hb : 2 ≤ b) : ∀ (xs : List Nat), (∀ x, x ∈ xs → x < b) → xs.getLast? ≠ some 0 → digs b (valD b xs) = xs
  | [], _, _ => digs_zero b
  | x :: xs, h, hl => by
    have h1 := h x (by simp)
    have ih := digs_valD hb xs (fun y hy => h y (by simp [hy]))
    have hpos : 0 < valD b (x :: xs) := by
      show 0 < x + b * valD b xs
      cases xs with
      | nil =>
        have : x ≠ 0 := by simpa using hl
        omega
      | cons y ys =>
        have hl2 : (y :: ys).getLast? ≠ some 0 := by simpa [List.getLast?_cons_cons] using hl
        have h2 := ih hl2
        have : valD b (y :: ys) ≠ 0 := fun e => by rw [e, digs_zero] at h2; cases h2
        have : 0 < b * valD b (y :: ys) := Nat.mul_pos (by omega) (by omega)
        omega
    rw [digs_pos hb hpos]
    have e1 : valD b (x :: xs) % b = x := by
      show (x + b * valD b xs) % b = x
      rw [Nat.add_mul_mod_self_left, Nat.mod_eq_of_lt h1]
    have e2 : valD b (x :: xs) / b = valD b xs := by
      show (x + b * valD b xs) / b = _
      rw [Nat.add_mul_div_left _ _ (by omega), Nat.div_eq_of_lt h1, Nat.zero_add]
    rw [e1, e2]
    cases xs with
    | nil => rw [show valD b [] = 0 from rfl, digs_zero]
    | cons y ys => rw [ih (by simpa [List.getLast?_cons_cons] using hl)]
/-- the low k digits -/
def lowD (b : Nat) : Nat → Nat → List Nat
  | 0, _ => []
  | k + 1, n => n % b :: lowD b k (n / b)
theorem lowD_zero (b : Nat) : ∀ k, lowD b k 0 = List.replicate k 0
  | 0 => rfl
  | k + 1 => by show 0 % b :: lowD b k (0 / b) = _; rw [Nat.zero_mod, Nat.zero_div, lowD_zero b k]; rfl
/-- a number below b^k, with noughts behind -/
theorem lowD_pad {b : Nat} (hb : 2 ≤ b) : ∀ k n, n < b ^ k → lowD b k n = digs b n ++ List.replicate (k - (digs b n).length) 0 ∧ (digs b n).length ≤ k
  | 0, n, h => by
    have : n = 0 := by simpa using h
    subst this
    rw [digs_zero]; exact ⟨rfl, Nat.le_refl _⟩
  | k + 1, n, h => by
    rcases Nat.eq_zero_or_pos n with h0 | h0
    · subst h0; rw [digs_zero, lowD_zero]; exact ⟨rfl, Nat.zero_le _⟩
    · have h1 : n / b < b ^ k := Nat.div_lt_of_lt_mul (by rw [Nat.pow_succ, Nat.mul_comm] at h; exact h)
      obtain ⟨e, hl⟩ := lowD_pad hb k (n / b) h1
      rw [digs_pos hb h0]
      show n % b :: lowD b k (n / b) = _ ∧ _
      rw [e]
      refine ⟨?_, by simpa using hl⟩
      simp
end Go.By
namespace Go.By
theorem valD_snoc (b : Nat) (xs : List Nat) (x : Nat) : valD b (xs ++ [x]) = valD b xs + b ^ xs.length * x := by
  rw [valD_append]; show _ + _ * (x + b * 0) = _; rw [Nat.mul_zero, Nat.add_zero]
theorem valD_take {b i : Nat} {xs : List Nat} {x : Nat} (h : xs[i]? = some x) : valD b (xs.take (i + 1)) = valD b (xs.take i) + b ^ i * x := by
  have hi := (List.getElem?_eq_some_iff.1 h).1
  rw [List.take_add_one, h]
  show valD b (xs.take i ++ [x]) = _
  rw [valD_snoc, List.length_take, Nat.min_eq_left (by omega)]
theorem valD_set {b : Nat} : ∀ (xs : List Nat) (i x y : Nat), xs[i]? = some y → valD b (xs.set i x) + b ^ i * y = valD b xs + b ^ i * x
  | [], i, x, y, h => by simp at h
  | a :: xs, 0, x, y, h => by
    have : a = y := by simpa using h
    subst this
    show x + b * valD b xs + 1 * a = a + b * valD b xs + 1 * x
    omega
  | a :: xs, i + 1, x, y, h => by
    have ih := valD_set (b := b) xs i x y (by simpa using h)
    show a + b * valD b (xs.set i x) + b ^ (i + 1) * y = a + b * valD b xs + b ^ (i + 1) * x
    have e1 : b ^ (i + 1) * y = b * (b ^ i * y) := by rw [Nat.pow_succ, Nat.mul_comm (b ^ i), Nat.mul_assoc]
    have e2 : b ^ (i + 1) * x = b * (b ^ i * x) := by rw [Nat.pow_succ, Nat.mul_comm (b ^ i), Nat.mul_assoc]
    rw [e1, e2, Nat.add_assoc, ← Nat.mul_add, ih, Nat.mul_add, Nat.add_assoc]
/-- which is greater: the longer one -/
theorem val_len {b : Nat} (hb : 2 ≤ b) {xs ys : List Nat} (hx : ∀ x, x ∈ xs → x < b) (hl : ys.getLast? ≠ some 0) (h : xs.length < ys.length) : valD b xs < valD b ys := by
  have h1 := valD_lt hb xs hx
  have hne : ys ≠ [] := fun e => by rw [e] at h; simp at h
  obtain ⟨zs, z, rfl⟩ : ∃ zs z, ys = zs ++ [z] := ⟨ys.dropLast, ys.getLast hne, (List.dropLast_concat_getLast hne).symm⟩
  rw [List.length_append, List.length_singleton] at h
  have hz : z ≠ 0 := by simpa using hl
  rw [valD_snoc]
  have h2 : b ^ xs.length ≤ b ^ zs.length := Nat.pow_le_pow_right (by omega) (by omega)
  have h3 : b ^ zs.length * 1 ≤ b ^ zs.length * z := Nat.mul_le_mul_left _ (by omega)
  omega
/-- .. of one length: the one whose highest unlike digit is greater -/
theorem val_top {b : Nat} (hb : 2 ≤ b) {xs ys hs : List Nat} {x y : Nat} (hx : ∀ a, a ∈ xs → a < b) (hl : xs.length = ys.length) (h : x < y) : valD b (xs ++ x :: hs) < valD b (ys ++ y :: hs) := by
  rw [valD_append, valD_append, hl]
  have h1 := valD_lt hb xs hx
  rw [hl] at h1
  have h2 : b ^ ys.length * valD b (x :: hs) + b ^ ys.length ≤ b ^ ys.length * valD b (y :: hs) := by
    rw [← Nat.mul_succ]
    refine Nat.mul_le_mul_left _ ?_
    show x + b * valD b hs + 1 ≤ y + b * valD b hs
    omega
  omega
end Go.By
namespace Go.By
theorem map_inj {α β : Type} {f : α → β} {p : α → Prop} (hf : ∀ a b, p a → p b → f a = f b → a = b) : ∀ {xs ys : List α}, (∀ x, x ∈ xs → p x) → (∀ y, y ∈ ys → p y) → xs.map f = ys.map f → xs = ys
  | [], [], _, _, _ => rfl
  | [], _ :: _, _, _, h => by simp at h
  | _ :: _, [], _, _, h => by simp at h
  | x :: xs, y :: ys, hx, hy, h => by
    rw [List.map_cons, List.map_cons] at h
    injection h with h1 h2
    rw [hf x y (hx x (by simp)) (hy y (by simp)) h1, map_inj hf (fun z hz => hx z (by simp [hz])) (fun z hz => hy z (by simp [hz])) h2]
end Go.By
namespace Go.By
def valW (ws : List UInt64) : Nat := valD 18446744073709551616 (ws.map UInt64.toNat)
theorem words_lt (ws : List UInt64) : ∀ x, x ∈ ws.map UInt64.toNat → x < 18446744073709551616 := fun x hx => by
  obtain ⟨b, _, rfl⟩ := List.mem_map.1 hx
  exact b.toNat_lt
theorem valW_lt (ws : List UInt64) : valW ws < 18446744073709551616 ^ ws.length := by
  have := valD_lt (b := 18446744073709551616) (by decide) _ (words_lt ws)
  rwa [List.length_map] at this
/-- words, the last not 0 -/
def NormW (ws : List UInt64) : Prop := ws.getLast? ≠ some 0
theorem NormW.digs {ws : List UInt64} (h : NormW ws) : digs 18446744073709551616 (valW ws) = ws.map UInt64.toNat :=
  digs_valD (by decide) _ (words_lt ws) (by
    rw [List.getLast?_map]
    cases e : ws.getLast? with
    | none => simp
    | some x =>
      intro hx
      have : x.toNat = 0 := by simpa using hx
      have : x = 0 := UInt64.toNat_inj.1 (by simpa using this)
      exact h (by rw [e, this]))
theorem NormW.inj {ws vs : List UInt64} (h : NormW ws) (g : NormW vs) (e : valW ws = valW vs) : ws = vs := by
  have h1 := h.digs
  rw [e, g.digs] at h1
  exact (map_inj (p := fun _ => True) (f := UInt64.toNat) (fun a b _ _ hab => UInt64.toNat_inj.1 hab) (fun _ _ => trivial) (fun _ _ => trivial) h1).symm
/-- words are so many just where the number is so great -/
theorem NormW.len {ws : List UInt64} (h : NormW ws) {k : Nat} (hv : valW ws < 18446744073709551616 ^ k) : ws.length ≤ k := by
  have h1 := congrArg List.length h.digs
  rw [List.length_map] at h1
  rw [← h1]
  exact (lowD_pad (b := 18446744073709551616) (by decide) k (valW ws) hv).2
end Go.By
namespace Go.By
/-- one step of a row of a product: digit y of the second number, p what stands there, c the carry -/
theorem mul_step {b i j a y p c V V' V0 S s' c' : Nat} (h : V + b ^ (i + j) * c = V0 + b ^ i * (a * S)) (hs : s' = (a * y + p + c) % b) (hc : c' = (a * y + p + c) / b) (hv : V' + b ^ (i + j) * p = V + b ^ (i + j) * s') : V' + b ^ (i + (j + 1)) * c' = V0 + b ^ i * (a * (S + b ^ j * y)) := by
  have h1 : s' + b * c' = a * y + p + c := by rw [hs, hc]; exact Nat.mod_add_div _ _
  have h2 : b ^ (i + (j + 1)) * c' = b ^ (i + j) * (b * c') := by rw [← Nat.add_assoc, Nat.pow_succ, Nat.mul_assoc]
  have h3 : b ^ (i + j) * s' + b ^ (i + j) * (b * c') = b ^ (i + j) * (a * y) + b ^ (i + j) * p + b ^ (i + j) * c := by rw [← Nat.mul_add, h1, Nat.mul_add, Nat.mul_add]
  have h4 : b ^ i * (a * (S + b ^ j * y)) = b ^ i * (a * S) + b ^ (i + j) * (a * y) := by
    rw [Nat.mul_add, Nat.mul_add, Nat.pow_add, Nat.mul_assoc, Nat.mul_left_comm a]
  rw [h2, h4]; omega
/-- the row's end: the carry goes where a nought stood -/
theorem mul_row {b i n a c V V' V0 S : Nat} (h : V + b ^ (i + n) * c = V0 + b ^ i * (a * S)) (hv : V' + b ^ (i + n) * 0 = V + b ^ (i + n) * c) : V' = V0 + b ^ i * (a * S) := by
  rw [Nat.mul_zero, Nat.add_zero] at hv; omega
/-- .. and the next row -/
theorem mul_next {b i a S A V : Nat} (h : V = A * S) : V + b ^ i * (a * S) = (A + b ^ i * a) * S := by
  rw [h, Nat.add_mul, Nat.mul_assoc]
/-- a digit fits -/
theorem mul_fits {a y p c : Nat} {B : Nat} (ha : a < B) (hy : y < B) (hp : p < B) (hc : c < B) : (a * y + p + c) / B < B := by
  rw [Nat.div_lt_iff_lt_mul (by omega)]
  have h1 : a * y ≤ (B - 1) * (B - 1) := Nat.mul_le_mul (by omega) (by omega)
  obtain ⟨m, rfl⟩ : ∃ m, B = m + 1 := ⟨B - 1, by omega⟩
  have h2 : (m + 1) * (m + 1) = m * m + m + m + 1 := by rw [Nat.add_mul, Nat.mul_add]; omega
  rw [h2]
  have h3 : m + 1 - 1 = m := by omega
  rw [h3] at h1
  omega
end Go.By
namespace Go.By
theorem valW_take_zero {ws : List UInt64} {k : Nat} {x : UInt64} (hx : ws[k]? = some x) (h0 : x.toNat = 0) : valW (ws.take (k + 1)) = valW (ws.take k) := by
  unfold valW
  rw [List.map_take, List.map_take, valD_take (x := 0) (by rw [List.getElem?_map, hx]; simp [h0])]; simp
theorem NormW_take {ws : List UInt64} {k : Nat} {x : UInt64} (hx : ws[k]? = some x) (h0 : x.toNat ≠ 0) : NormW (ws.take (k + 1)) := by
  show (ws.take (k + 1)).getLast? ≠ some 0
  rw [List.take_add_one, hx]
  simp only [Option.toList_some, List.getLast?_append, List.getLast?_singleton]
  intro h
  have : x = 0 := by simpa using h
  rw [this] at h0; exact h0 rfl
/-- so many words just where the number is so great -/
theorem NormW.big {ws : List UInt64} (h : NormW ws) {k : Nat} (hl : k < ws.length) : 18446744073709551616 ^ k ≤ valW ws := by
  rcases Nat.lt_or_ge (valW ws) (18446744073709551616 ^ k) with h1 | h1
  · have := h.len h1; omega
  · exact h1
end Go.By
namespace Go.By
open Go.RowKit
/-- a word as a value -/
abbrev W64 (x : UInt64) : Value := .int .u64 x.toNat
/-- how great a number may be -/
def powW (k : Nat) : Nat := 18446744073709551616 ^ k
theorem powW_mono {j k : Nat} (h : j ≤ k) : powW j ≤ powW k := Nat.pow_le_pow_right (by decide) h
theorem powW_lt (ws : List UInt64) : valW ws < powW ws.length := valW_lt ws
theorem powW_big {ws : List UInt64} (h : NormW ws) {k : Nat} (hl : k < ws.length) : powW k ≤ valW ws := h.big hl
def capN : Nat := powW 512
/-- where a slice's cells lie: a block of elements of type T -/
def Lies (T : TypeId) (w : World) (q : Option Addr) : Prop := ∀ a, q = some a → ∃ cs fr, w.heap[a.block]? = some (.cells cs T fr)
theorem Lies.keep {T : TypeId} {w w' : World} {q : Option Addr} (h : Lies T w q) (hb : Below w.heap.size w w') : Lies T w' q := fun a ha => by
  obtain ⟨cs, fr, hc⟩ := h a ha
  exact ⟨cs, fr, (hb.block _ (lt_of_block hc)).trans hc⟩
theorem Lies.none (T : TypeId) (w : World) : Lies T w none := fun _ h => by cases h
theorem Lies.at {T : TypeId} {w : World} {g o : Nat} {cs : Array Value} {fr : Nat × Nat} (h : w.heap[g]? = some (.cells cs T fr)) : Lies T w (some ⟨g, o, .none⟩) := fun a ha => by
  obtain rfl := Option.some.inj ha
  exact ⟨cs, fr, h⟩
/-- a block of another kind is written -/
theorem Lies.set {T T' : TypeId} {w : World} {q : Option Addr} (h : Lies T w q) {g i : Nat} {cs : Array Value} {fr : Nat × Nat} {v : Value} (hg : w.heap[g]? = some (.cells cs T' fr)) (hne : T' ≠ T) : Lies T (w.setCell ⟨g, i, .none⟩ v) q := fun a ha => by
  obtain ⟨ds, fr', hc⟩ := h a ha
  have : a.block ≠ g := fun e => by rw [e, hg] at hc; cases hc; exact hne rfl
  exact ⟨ds, fr', hsc hc this⟩
theorem Sl.setT {α : Type} {enc : α → Value} {T T' : TypeId} {w : World} {q : Option Addr} {n c : Nat} {xs : List α} (h : Sl enc w q n c xs) (hl : Lies T w q) {g i : Nat} {cs : Array Value} {fr : Nat × Nat} {v : Value} (hg : w.heap[g]? = some (.cells cs T' fr)) (hne : T' ≠ T) : Sl enc (w.setCell ⟨g, i, .none⟩ v) q n c xs := by
  refine ⟨h.len, h.le, h.max, h.nil, fun j hj => ?_⟩
  obtain ⟨b, o, hp, hc⟩ := h.rs j hj
  obtain ⟨ds, fr', hd⟩ := hl _ hp
  have : b ≠ g := fun e => by rw [show (⟨b, o, .none⟩ : Addr).block = b from rfl, e, hg] at hd; cases hd; exact hne rfl
  exact ⟨b, o, hp, (World.cell?_of_block (a := ⟨b, o + j, .none⟩) (Below.heap_setCell _ _ _ _ this)).trans hc⟩
/-- words in memory that read as a number -/
structure Ws (T : TypeId) (w : World) (q : Option Addr) (n c : Nat) (N : Nat) : Prop where
  ex : ∃ ws, Sl W64 w q n c ws ∧ NormW ws ∧ valW ws = N
  le : n ≤ 512
  lies : Lies T w q
theorem Ws.keep {T : TypeId} {w w' : World} {q : Option Addr} {n c N : Nat} (h : Ws T w q n c N) (hb : Below w.heap.size w w') : Ws T w' q n c N := by
  obtain ⟨ws, hs, hn, hv⟩ := h.ex
  exact ⟨⟨ws, hs.keep hb, hn, hv⟩, h.le, h.lies.keep hb⟩
theorem Ws.set {T T' : TypeId} {w : World} {q : Option Addr} {n c N : Nat} (h : Ws T w q n c N) {g i : Nat} {cs : Array Value} {fr : Nat × Nat} {v : Value} (hg : w.heap[g]? = some (.cells cs T' fr)) (hne : T' ≠ T) : Ws T (w.setCell ⟨g, i, none⟩ v) q n c N := by
  obtain ⟨ws, hs, hn, hv⟩ := h.ex
  exact ⟨⟨ws, hs.setT h.lies hg hne, hn, hv⟩, h.le, h.lies.set hg hne⟩
theorem Ws.lt {T : TypeId} {w : World} {q : Option Addr} {n c N : Nat} (h : Ws T w q n c N) : N < capN := by
  obtain ⟨ws, hs, hn, rfl⟩ := h.ex
  have := powW_lt ws
  rw [hs.len] at this
  exact Nat.lt_of_lt_of_le this (powW_mono h.le)
theorem Ws.zero (T : TypeId) (w : World) : Ws T w none 0 0 0 := ⟨⟨[], Sl.nil0 _ _, by simp [NormW], rfl⟩, by omega, Lies.none _ _⟩
/-- a number, and what went wrong -/
def RetN (T : TypeId) (w : World) (N : Nat) (e : Ending) (w' : World) : Prop :=
  ∃ q n c, e = .returned (.tuple #[.agg #[.slice q n c], .int .i64 0]) ∧ Ws T w' q n c N ∧ Below w.heap.size w w'
def Ret0 (w : World) (code : Int) (e : Ending) (w' : World) : Prop :=
  e = .returned (.tuple #[.agg #[.slice none 0 0], .int .i64 code]) ∧ Below w.heap.size w w'
def RetMn (T : TypeId) (w : World) (N : Nat) (e : Ending) (w' : World) : Prop := (N < capN ∧ RetN T w N e w') ∨ (capN ≤ N ∧ Ret0 w 16 e w')
theorem RetMn.ok {T : TypeId} {w w' : World} {N : Nat} {e : Ending} (h : RetMn T w N e w') (hN : N < capN) : RetN T w N e w' := by
  rcases h with h | h
  · exact h.2
  · omega
/-- a number alone -/
def RetN1 (T : TypeId) (w : World) (N : Nat) (e : Ending) (w' : World) : Prop :=
  ∃ q n c, e = .returned (.agg #[.slice q n c]) ∧ Ws T w' q n c N ∧ Below w.heap.size w w'
theorem Sl.front {α : Type} {enc : α → Value} {w : World} {p : Option Addr} {n c k : Nat} {xs : List α} (h : Sl enc w p n c xs) (hk : k ≤ n) : Sl enc w p k c (xs.take k) := by
  have h1 := h.len; have h2 := h.le; have h3 := h.max
  refine ⟨by rw [List.length_take]; omega, by omega, h3, fun e => ⟨by have := (h.nil e).1; omega, (h.nil e).2⟩, ?_⟩
  intro i hi
  have hi' : i < xs.length := by rw [List.length_take] at hi; omega
  obtain ⟨b', o', hp, hc⟩ := h.rs i hi'
  exact ⟨b', o', hp, by rw [hc]; simp⟩
/-- what is left of words without noughts behind -/
theorem made_end {T : TypeId} {w : World} {q : Option Addr} {n c k : Nat} {ws : List UInt64} (h : Sl W64 w q n c ws) (hT : Lies T w q) (hk : k ≤ n) (hn : NormW (ws.take k)) (hv : valW (ws.take k) = valW ws) : (k ≤ 512 → Ws T w q k c (valW ws) ∧ valW ws < capN) ∧ (512 < k → capN ≤ valW ws) := by
  have hl : (ws.take k).length = k := by rw [List.length_take, h.len]; omega
  constructor
  · intro h1
    have : Ws T w q k c (valW ws) := ⟨⟨_, h.front hk, hn, hv⟩, h1, hT⟩
    exact ⟨this, this.lt⟩
  · intro h1
    rw [← hv]
    exact powW_big hn (by omega)
theorem res_cell_tmp {P : Program} {fn : Func} {p u : Tmp} {ty : TypeId} (h : fn.results = #[.cell p ty, .tmp u]) (tmps : Array Value) (w : World) (g : Nat) (t : TypeId) (cs : Array Value) (fr : Nat × Nat) (d : TypeDesc) (v : Value)
    (hp : tmps.getD p undef = .pointer (some ⟨g, 0, none⟩)) (hg : w.heap[g]? = some (.cells cs t fr)) (hv : tmps.getD u undef = v)
    (hu : P.underlying ty = some d) (hd : (match d with | .struct _ | .array _ _ => true | _ => false) = true) (hi : (P.info? ty).map (·.size) = some cs.size) :
    (results fn tmps).run P w = .ok (.tuple #[.agg cs, v]) w := by
  have hp' : tmps[p]?.getD undef = .pointer (some ⟨g, 0, none⟩) := by simpa using hp
  have hv' : tmps[u]?.getD undef = v := by simpa using hv
  simp [results, h, hp', hv', asAddr, run_loadVar_row w g t ty cs fr d hg hu hd hi]
theorem hal_eq {w : World} {ob : Obj} {i : Nat} (h : i < w.heap.size) : (w.alloc ob).heap[i]? = w.heap[i]? := by rw [heap_alloc, if_neg (by omega)]
/-- a block of one cell, behind further blocks -/
structure One (w : World) (g : Nat) (v : Value) (T : TypeId) : Prop where
  box : w.heap[g]? = some (.cells #[v] T (0, 0))
  cell : w.cell? ⟨g, 0, none⟩ = some v
  free : w.frozen? ⟨g, 0, none⟩ = false
  acell : ∀ o, (w.alloc o).cell? ⟨g, 0, none⟩ = some v
  afree : ∀ o, (w.alloc o).frozen? ⟨g, 0, none⟩ = false
theorem One.of {w : World} {g : Nat} {v : Value} {T : TypeId} (h : w.heap[g]? = some (.cells #[v] T (0, 0))) : One w g v T :=
  ⟨h, cell_of_row _ _ 0 _ _ _ h, frozen_of_row _ _ _ _ _ h, fun _ => cell_of_row _ _ 0 _ _ _ (hal h), fun _ => frozen_of_row _ _ _ _ _ (hal h)⟩
theorem NormW_nil : NormW [] := by simp [NormW]
end Go.By
namespace Go.Proofs.YtfbmdlfkipipfaaGreatDoor
open Go.RowKit Go.By
theorem info_nat : (Tryz.prog.info? 40).map (·.size) = some 1 := by kernel_rfl
theorem info_u64 : (Tryz.prog.info? 44).map (fun i => (i.zero, i.size, i.bytes)) = some (some (.int .u64 0), 1, 8) := by kernel_rfl
set_option maxRecDepth 100000 in
set_option maxHeartbeats 1000000 in
theorem made_any (q : Option Addr) (n c : Nat) (ws : List UInt64) (w : World) (h : Sl W64 w q n c ws) (hT : Lies 44 w q) :
    Calls Tryz.prog 60 #[.slice q n c] w (RetMn 44 w (valW ws)) := by
  have hn := h.bound
  have hnc := h.le
  have hinfo := info_nat
  have HA : Hid (∀ o, Sl W64 (w.alloc o) q n c ws) := fun o => h.keep (al (Below.refl _ _) (Nat.le_refl _))
  have HT : Hid (∀ o, Lies 44 (w.alloc o) q) := fun o => hT.keep (al (Below.refl _ _) (Nat.le_refl _))
  have HT0 := Lib.hid hT; clear hT
  have HB : Hid (∀ o, Below w.heap.size w (w.alloc o)) := fun o => al (Below.refl _ _) (Nat.le_refl _)
  have HX : Hid (∀ o, (w.alloc o).heap[w.heap.size]? = some o) := fun o => hnew rfl
  have H := Lib.hid h; clear h
  go_enter Tryz.func60, Tryz.ntmps60
  go_wp2
  go_loop [4] (fun i => ∃ k : Nat, k ≤ n ∧ i = .int .i64 k ∧ Hid (valW (ws.take k) = valW ws)) (fun i => (intOf i).toNat)
  case atStart => exact ⟨n, Nat.le_refl _, rfl, by show valW (ws.take n) = valW ws; rw [← H.out.len, List.take_length]⟩
  case round =>
    obtain ⟨k, hk, rfl, hr⟩ := hrel
    by_cases hk0 : k = 0
    · subst hk0
      have HE : Hid (∀ o, Ws 44 (w.alloc o) q 0 c (valW ws)) := fun o => ((made_end (HA.out o) (HT.out o) (Nat.zero_le n) (by simpa using NormW_nil) hr.out).1 (by omega)).1
      have HL : Hid (valW ws < capN) := ((made_end H.out HT0.out (Nat.zero_le n) (by simpa using NormW_nil) hr.out).1 (by omega)).2
      cases q with
      | none =>
        obtain ⟨rfl, rfl⟩ := H.out.nil rfl
        go_wp2
        exact bodyPost_ret (res_cell_tmp rfl _ _ _ 40 #[.slice none 0 0] (0, 0) _ (.int .i64 0) rfl (HX.out _) rfl Tryz.underlying40 rfl hinfo) rfl (Or.inl ⟨HL.out, _, _, _, rfl, HE.out _, HB.out _⟩)
      | some ad =>
        go_wp2
        exact bodyPost_ret (res_cell_tmp rfl _ _ _ 40 #[.slice (some ad) 0 c] (0, 0) _ (.int .i64 0) rfl (HX.out _) rfl Tryz.underlying40 rfl hinfo) rfl (Or.inl ⟨HL.out, _, _, _, rfl, HE.out _, HB.out _⟩)
    · obtain ⟨j, rfl⟩ : ∃ j, k = j + 1 := ⟨k - 1, by omega⟩
      obtain ⟨b, o, x, rfl, hc, hx⟩ := H.out.at j (by omega)
      have hc' : ∀ ob, (w.alloc ob).cell? ⟨b, o + j, none⟩ = some (W64 x) := fun ob => (World.cell?_of_block (a := ⟨b, o + j, none⟩) (hal_eq (lt_of_cell hc))).trans hc
      clear hc hk0
      by_cases hx0 : x.toNat = 0
      · have HV : Hid (valW (ws.take j) = valW ws) := (valW_take_zero hx.out hx0).symm.trans hr.out
        rw [show W64 x = .int .u64 0 by show Value.int .u64 (x.toNat : Int) = _; rw [hx0]; rfl] at hc'
        clear hx0
        go_wp2
        go_round
        case rel => exact ⟨j, by omega, by go_num, HV⟩
        case measure => simp [intOf]
      · have HN : Hid (NormW (ws.take (j + 1))) := NormW_take hx.out hx0
        have hx1 : ((x.toNat : Int) == 0) = false := by simpa using hx0
        clear hx0
        by_cases h512 : j + 1 ≤ 512
        · have HE : Hid (∀ ob, Ws 44 (w.alloc ob) (some ⟨b, o, none⟩) (j + 1) c (valW ws)) := fun ob => ((made_end (HA.out ob) (HT.out ob) hk HN.out hr.out).1 h512).1
          have HL : Hid (valW ws < capN) := ((made_end H.out HT0.out hk HN.out hr.out).1 h512).2
          have h512' : ¬ ((512 : Int) < (j : Int) + 1) := by omega
          clear h512
          go_wp2
          exact bodyPost_ret (res_cell_tmp rfl _ _ _ 40 #[.slice (some ⟨b, o, none⟩) (j + 1) c] (0, 0) _ (.int .i64 0) rfl (HX.out _) rfl Tryz.underlying40 rfl hinfo) rfl (Or.inl ⟨HL.out, _, _, _, rfl, HE.out _, HB.out _⟩)
        · have HL : Hid (capN ≤ valW ws) := (made_end H.out HT0.out hk HN.out hr.out).2 (by omega)
          have h512' : (512 : Int) < (j : Int) + 1 := by omega
          clear h512
          go_wp2
          exact bodyPost_ret (res_cell_tmp rfl _ _ _ 40 #[.slice none 0 0] (0, 0) _ (.int .i64 16) rfl (HX.out _) rfl Tryz.underlying40 rfl hinfo) rfl (Or.inr ⟨HL.out, rfl, HB.out _⟩)
theorem valW_one (x : UInt64) : valW [x] = x.toNat := by show x.toNat + _ * 0 = _; omega
theorem small_cap (x : UInt64) : x.toNat < capN := Nat.lt_of_lt_of_le (by have := powW_lt [x]; rw [valW_one] at this; exact this) (powW_mono (show 1 ≤ 512 by decide))
set_option maxRecDepth 100000 in
set_option maxHeartbeats 1000000 in
theorem OfN_any (x : UInt64) (w : World) : Calls Tryz.prog 16 #[W64 x] w (RetN1 44 w x.toNat) := by
  have hinfo := info_nat
  have hm : (1 : Nat) ≤ maxLen := by simp [maxLen]
  go_enter Tryz.func16, Tryz.ntmps16
  go_wp2_with fail
  refine Calls.mono (made_any _ 1 1 [x] _ (sl_block [x] 1 (hnew (by simp)) rfl rfl hm) (Lies.at (hnew (by simp)))) ?_
  rintro e w1 hr
  rw [valW_one] at hr
  obtain ⟨q, n, c, rfl, hws, hb⟩ := hr.ok (small_cap x)
  have hone : One w1 w.heap.size (.slice none 0 0) 40 := One.of ((hb.block _ (by simp <;> omega)).trans (hal (hnew rfl)))
  have HO : Hid (∀ o, (w1.alloc o).heap[w.heap.size]? = some (.cells #[.slice none 0 0] 40 (0, 0))) := fun o => hal hone.box
  obtain ⟨_, a1, a2, a3, a4⟩ := hone
  have hsz := hb.size
  simp at hsz
  have HB : Hid (Below w.heap.size w w1) := bl (al (al (Below.refl _ _) (Nat.le_refl _)) (by simp)) hb (by simp <;> omega)
  have HF : Hid (∀ o v, Below w.heap.size w ((w1.alloc o).setCell ⟨w.heap.size, 0, none⟩ v) ∧ Below w1.heap.size w1 (w1.alloc o)) := fun o v => ⟨(al HB.out (by omega)).setCell (Nat.le_refl _) _, al (Below.refl _ _) (Nat.le_refl _)⟩
  have HW : Hid (∀ o v, Ws 44 ((w1.alloc o).setCell ⟨w.heap.size, 0, none⟩ v) q n c x.toNat) := fun o v => (hws.keep (al (Below.refl _ _) (Nat.le_refl _))).set (HO.out o) (by decide)
  clear hr hws hb hsz
  go_wp2
  exact bodyPost_ret (results_cell_row rfl _ _ _ 40 #[.slice q n c] (0, 0) _ rfl (hss (HO.out _)) Tryz.underlying40 rfl hinfo) rfl ⟨_, _, _, rfl, HW.out _ _, (HF.out _ _).1⟩
end Go.Proofs.YtfbmdlfkipipfaaGreatDoor
namespace Go.Proofs
open Go.Shelf
def Tryz.lays264_ren : Go.Shelf.Ren := ⟨fun | 264 => 117 | n => n, fun | 53 => 44 | 46 => 73 | n => n, fun | n => n⟩
theorem Tryz.lays264 : Go.Proofs.Lays.n264 Tryz.prog Tryz.lays264_ren := {
  mixed := by kernel_rfl
  f264 := Tryz.func117.trans (congrArg some (by kernel_rfl))
  t46 := Tryz.underlying73
  a46 := Tryz.isAgg73
  z46 := Tryz.sizeOf73
  v46 := Tryz.zeroValue73
  t53 := Tryz.underlying44
  a53 := Tryz.isAgg44
  z53 := Tryz.sizeOf44
  v53 := Tryz.zeroValue44 }
open Go.RowKit Go.Lib in
theorem Tryz.bits_Mul64 (x y : Nat) (hx : x < 18446744073709551616) (hy : y < 18446744073709551616) (w : World) :
    Calls Tryz.prog 117 #[.int .u64 x, .int .u64 y] w fun e w' => e = .returned (.tuple #[.int .u64 ((x * y / 18446744073709551616 : Nat) : Int), .int .u64 ((x * y % 18446744073709551616 : Nat) : Int)]) ∧ w' = w := Any.bits_Mul64 Tryz.lays264 x y hx hy w
end Go.Proofs
namespace Go.By
open Go.RowKit
/-- which is greater -/
def cmpN (M N : Nat) : Int := if M < N then -1 else if N < M then 1 else 0
theorem cmpN_lt {M N : Nat} (h : M < N) : cmpN M N = -1 := by unfold cmpN; rw [if_pos h]
theorem cmpN_gt {M N : Nat} (h : N < M) : cmpN M N = 1 := by unfold cmpN; rw [if_neg (by omega), if_pos h]
theorem cmpN_eq {M N : Nat} (h : M = N) : cmpN M N = 0 := by unfold cmpN; rw [if_neg (by omega), if_neg (by omega)]
theorem valW_shorter {xs ys : List UInt64} (h : NormW ys) (hl : xs.length < ys.length) : valW xs < valW ys :=
  val_len (by decide) (words_lt xs) (by
    rw [List.getLast?_map]
    cases e : ys.getLast? with
    | none => simp
    | some x =>
      intro hx
      have : x.toNat = 0 := by simpa using hx
      have : x = 0 := UInt64.toNat_inj.1 (by simpa using this)
      exact h (by rw [e, this])) (by simpa using hl)
theorem drop_cons {α : Type} {xs : List α} {j : Nat} {x : α} (h : xs[j]? = some x) : xs.drop j = x :: xs.drop (j + 1) := by
  obtain ⟨hj, e⟩ := List.getElem?_eq_some_iff.1 h
  rw [← e, List.getElem_cons_drop hj]
/-- the highest unlike word decides -/
theorem valW_top {xs ys : List UInt64} {j : Nat} {x y : UInt64} (hl : xs.length = ys.length) (hx : xs[j]? = some x) (hy : ys[j]? = some y) (hs : xs.drop (j + 1) = ys.drop (j + 1)) (h : x.toNat < y.toNat) : valW xs < valW ys := by
  have hj := (List.getElem?_eq_some_iff.1 hx).1
  have hj' := (List.getElem?_eq_some_iff.1 hy).1
  have e1 : xs = xs.take j ++ x :: xs.drop (j + 1) := by rw [← drop_cons hx, List.take_append_drop]
  have e2 : ys = ys.take j ++ y :: xs.drop (j + 1) := by rw [hs, ← drop_cons hy, List.take_append_drop]
  rw [e1, e2]
  unfold valW
  rw [List.map_append, List.map_append, List.map_cons, List.map_cons]
  refine val_top (by decide) (fun a ha => ?_) (by simp; omega) h
  exact words_lt (xs.take j) a ha
theorem W64_eq {n : Int} {x : UInt64} (h : n = (x.toNat : Int)) : Value.int .u64 n = W64 x := by rw [h]
theorem bdn {B : Nat} {a w : World} (h : Below B a w) {n : Nat} : Below B a (w.drewN n) := ⟨h.os, h.tape, h.output, h.size, h.block⟩
end Go.By
namespace Go.Proofs.YtfbmdlfkipipfaaGreatDoor
open Go.RowKit Go.By
set_option maxRecDepth 100000 in
set_option maxHeartbeats 1000000 in
theorem Cmp_any (p q : Option Addr) (n c m d M N : Nat) (w : World) (h1 : Ws 44 w p n c M) (h2 : Ws 44 w q m d N) :
    Calls Tryz.prog 22 #[.agg #[.slice p n c], .agg #[.slice q m d]] w fun e w' => e = .returned (.int .i64 (cmpN M N)) ∧ Below w.heap.size w w' := by
  obtain ⟨xs, hs1, hn1, hv1⟩ := h1.ex
  obtain ⟨ys, hs2, hn2, hv2⟩ := h2.ex
  have hl1 := hs1.len; have hl2 := hs2.len
  have b1 := h1.le; have b2 := h2.le
  have HB : Hid (∀ o o2, Below w.heap.size w ((w.alloc o).alloc o2)) := fun o o2 => al (al (Below.refl _ _) (Nat.le_refl _)) (by simp)
  rcases Nat.lt_trichotomy n m with hlt | heq | hgt
  · have HC : Hid (cmpN M N = -1) := cmpN_lt (by rw [← hv1, ← hv2]; exact valW_shorter hn2 (by omega))
    have hnm : (n : Int) < (m : Int) := by omega
    clear h1 h2 hs1 hs2 hn1 hn2 hl1 hl2 hv1 hv2 hlt
    go_enter Tryz.func22, Tryz.ntmps22
    go_wp2
    go_ret
    exact ⟨by rw [HC.out]; rfl, HB.out _ _⟩
  · subst heq
    have H1 := Lib.hid hs1; have H2 := Lib.hid hs2
    have HV : Hid (valW xs = M ∧ valW ys = N) := ⟨hv1, hv2⟩
    have HLL : Hid (xs.length = n ∧ ys.length = n) := ⟨hl1, hl2⟩
    clear h1 h2 hs1 hs2 hn1 hn2 hv1 hv2 hl1 hl2
    obtain ⟨W, hW⟩ : ∃ W, W = (w.alloc (.cells #[.slice p n c] 40)).alloc (.cells #[.slice q n d] 40) := ⟨_, rfl⟩
    have hbW : Below w.heap.size w W := by rw [hW]; exact HB.out _ _
    have S1 : Hid (Sl W64 W p n c xs) := H1.out.keep hbW
    have S2 : Hid (Sl W64 W q n d ys) := H2.out.keep hbW
    have f1 : W.cell? ⟨w.heap.size, 0, none⟩ = some (.slice p n c) := by rw [hW]; exact cell_of_row _ _ 0 _ _ _ (hal (hnew rfl))
    have f2 : W.cell? ⟨w.heap.size + 1, 0, none⟩ = some (.slice q n d) := by rw [hW]; exact cell_of_row _ _ 0 _ _ _ (hnew (by simp))
    have HBW := Lib.hid hbW; clear hbW
    have HW := Lib.hid hW; clear hW
    go_enter Tryz.func22, Tryz.ntmps22
    go_wp2
    rw [← HW.out]
    go_loopw [25] (fun i wr => ∃ k u : Nat, k ≤ n ∧ i = .int .i64 k ∧ wr = W.drewN u ∧ Hid (xs.drop (n - k) = ys.drop (n - k))) (fun i _ => n - (intOf i).toNat)
    case atStart => exact ⟨0, 0, Nat.zero_le _, rfl, rfl, by show xs.drop _ = ys.drop _; rw [List.drop_of_length_le (by have := HLL.out.1; omega), List.drop_of_length_le (by have := HLL.out.2; omega)]⟩
    case round =>
      obtain ⟨k, u, hk, rfl, rfl, hj⟩ := hrel
      by_cases hlt : k < n
      · obtain ⟨j, hjk⟩ : ∃ j, n = j + k + 1 := ⟨n - 1 - k, by omega⟩
        obtain ⟨b, o, x, rfl, hc, hx⟩ := S1.out.at j (by omega)
        obtain ⟨b', o', y, rfl, hc', hy⟩ := S2.out.at j (by omega)
        have hidx : (n : Int) - 1 - (k : Int) = (j : Int) := by omega
        have hjn : (j : Int) < (n : Int) := by omega
        have hlt' : (k : Int) < (n : Int) := by omega
        have hj' : Hid (xs.drop (j + 1) = ys.drop (j + 1)) := by have := hj.out; rwa [show n - k = j + 1 by omega] at this
        rcases Nat.lt_trichotomy x.toNat y.toNat with h | h | h
        · have HC : Hid (cmpN M N = -1) := cmpN_lt (by rw [← HV.out.1, ← HV.out.2]; exact valW_top (HLL.out.1.trans HLL.out.2.symm) hx.out hy.out hj'.out h)
          have h' : (x.toNat : Int) < (y.toNat : Int) := by omega
          clear h hj hjk hlt
          go_wp2
          go_quiet (fail)
          go_wp2
          go_ret
          exact ⟨by rw [HC.out]; rfl, bdn HBW.out⟩
        · have HN : Hid (xs.drop j = ys.drop j) := by
            have : x = y := UInt64.toNat_inj.1 h
            show xs.drop j = ys.drop j
            rw [drop_cons hx.out, drop_cons hy.out, hj'.out, this]
          have h1 : ¬ (x.toNat : Int) < (y.toNat : Int) := by omega
          have h2 : ¬ (y.toNat : Int) < (x.toNat : Int) := by omega
          have HJ := Lib.hid hjk
          clear h hj hjk hlt
          go_wp2
          go_quiet (fail)
          go_wp2
          go_roundw
          case rel => exact ⟨k + 1, _, by have := HJ.out; omega, by go_num, rfl, by have := HN.out; rwa [show j = n - (k + 1) by have := HJ.out; omega] at this⟩
          case measure => simp [intOf]; have := HJ.out; omega
        · have HC : Hid (cmpN M N = 1) := cmpN_gt (by rw [← HV.out.1, ← HV.out.2]; exact valW_top (HLL.out.2.trans HLL.out.1.symm) hy.out hx.out hj'.out.symm h)
          have h1 : ¬ (x.toNat : Int) < (y.toNat : Int) := by omega
          have h2 : (y.toNat : Int) < (x.toNat : Int) := by omega
          clear h hj hjk hlt
          go_wp2
          go_quiet (fail)
          go_wp2
          go_ret
          exact ⟨by rw [HC.out]; rfl, bdn HBW.out⟩
      · have hkn : k = n := by omega
        subst hkn
        have HC : Hid (cmpN M N = 0) := cmpN_eq (by
          have := hj.out
          rw [Nat.sub_self, List.drop_zero, List.drop_zero] at this
          rw [← HV.out.1, ← HV.out.2, this])
        clear hlt hj
        go_wp2
        go_ret
        exact ⟨by rw [HC.out]; rfl, bdn HBW.out⟩
  · have HC : Hid (cmpN M N = 1) := cmpN_gt (by rw [← hv1, ← hv2]; exact valW_shorter hn1 (by omega))
    have hnm : ¬ (n : Int) < (m : Int) := by omega
    have hnm2 : (m : Int) < (n : Int) := by omega
    clear h1 h2 hs1 hs2 hn1 hn2 hl1 hl2 hv1 hv2 hgt
    go_enter Tryz.func22, Tryz.ntmps22
    go_wp2
    go_ret
    exact ⟨by rw [HC.out]; rfl, HB.out _ _⟩
theorem add64_run (x y c : Int) (hx : 0 ≤ x) (hy : 0 ≤ y) (hc0 : 0 ≤ c) (hc : c ≤ 1) (w : World) : (callFunc 118 #[.int .u64 x, .int .u64 y, .int .u64 c]).run Tryz.prog w =
    .ok (.value (.tuple #[.int .u64 ((x + y + c) % 18446744073709551616), .int .u64 ((x + y + c) / 18446744073709551616)])) w := by
  obtain ⟨x, rfl⟩ := Int.eq_ofNat_of_zero_le hx
  obtain ⟨y, rfl⟩ := Int.eq_ofNat_of_zero_le hy
  obtain ⟨c, rfl⟩ := Int.eq_ofNat_of_zero_le hc0
  rw [run_callFunc_extern Tryz.func118 (by kernel_rfl) (by kernel_rfl) (by kernel_rfl) (e := add64Entry) (by kernel_rfl), run_add64 x y c (by omega) (by omega) (by omega) (by omega)]
  simp only [Result.andThen]
/-- one word of a sum, its parts known -/
theorem add64_ex (x y c : Nat) (hc : c ≤ 1) (hx : x < 18446744073709551616) (hy : y < 18446744073709551616) : ∃ (s : UInt64) (c' : Nat), (∀ w, (callFunc 118 #[.int .u64 x, .int .u64 y, .int .u64 c]).run Tryz.prog w = .ok (.value (.tuple #[W64 s, .int .u64 c'])) w) ∧ c' ≤ 1 ∧ Hid (s.toNat = (x + y + c) % 18446744073709551616 ∧ c' = (x + y + c) / 18446744073709551616) := by
  have e : (UInt64.ofNat ((x + y + c) % 18446744073709551616)).toNat = (x + y + c) % 18446744073709551616 := by
    simp
  refine ⟨UInt64.ofNat ((x + y + c) % 18446744073709551616), (x + y + c) / 18446744073709551616, fun w => ?_, by omega, e, rfl⟩
  rw [add64_run _ _ _ (by omega) (by omega) (by omega) (by omega)]
  have e2 : W64 (UInt64.ofNat ((x + y + c) % 18446744073709551616)) = .int .u64 (((x + y + c) % 18446744073709551616 : Nat) : Int) := by show Value.int .u64 _ = _; rw [e]
  rw [e2]
  congr 5
end Go.Proofs.YtfbmdlfkipipfaaGreatDoor
namespace Go.By
open Go.RowKit
end Go.By
namespace Go.Proofs.YtfbmdlfkipipfaaGreatDoor
open Go.RowKit Go.By
end Go.Proofs.YtfbmdlfkipipfaaGreatDoor
namespace Go.By
open Go.RowKit
theorem BuilderAt.keep {T e : TypeId} {B b : Nat} {p : Value} {bs : List Value} {w w' : World} (h : Lib.BuilderAt T e B b p bs w) (hb : Below w.heap.size w w') : Lib.BuilderAt T e B b p bs w' := by
  obtain ⟨h1, v, h2, h3, h4⟩ := h
  obtain ⟨q, c, rfl⟩ := owns_shape h3
  exact ⟨h1, _, (hb.block _ (lt_of_block h2)).trans h2, owns_keep h3 hb, h4⟩
end Go.By
namespace Go.By
open Go.RowKit
theorem valW_take {xs : List UInt64} {k : Nat} {x : UInt64} (h : xs[k]? = some x) : valW (xs.take (k + 1)) = valW (xs.take k) + 18446744073709551616 ^ k * x.toNat := by
  unfold valW
  rw [List.map_take, List.map_take]
  exact valD_take (by rw [List.getElem?_map, h]; rfl)
theorem valW_take_all {xs : List UInt64} {k : Nat} (h : xs.length ≤ k) : valW (xs.take k) = valW xs := by rw [List.take_of_length_le h]
theorem valW_zeros (k : Nat) : valW (List.replicate k 0) = 0 := by
  unfold valW
  rw [List.map_replicate]
  exact valD_zeros _ k
/-- words in new memory -/
def RetWs (T : TypeId) (w : World) (n N : Nat) (e : Ending) (w' : World) : Prop :=
  ∃ S : List UInt64, e = .returned (.slice (some ⟨w.heap.size, 0, none⟩) n n) ∧ w'.ownsRow w.heap.size T 1 (.slice (some ⟨w.heap.size, 0, none⟩) n n) n (S.map W64) ∧ valW S = N ∧ Below w.heap.size w w'
theorem lies_of_owns {w : World} {base T n c : Nat} {q : Option Addr} {ys : List Value} (h : w.ownsRow base T 1 (.slice q n c) n ys) : Lies T w q := by
  intro a ha
  rcases h.2 with ⟨h2, _⟩ | ⟨g, cap, cur, hv, hb, hg, _⟩
  · rw [ha] at h2; cases h2
  · obtain ⟨rfl, rfl⟩ : q = some ⟨g, 0, none⟩ ∧ c = cap := by simpa using hv
    obtain rfl := Option.some.inj ha
    exact ⟨_, _, hg⟩
end Go.By
namespace Go.Proofs.YtfbmdlfkipipfaaGreatDoor
open Go.RowKit Go.By
end Go.Proofs.YtfbmdlfkipipfaaGreatDoor
