/- Chapter 17: sender.Send. An append stays in its own block, or goes to a new one. Chapter 21: a relay in memory; New, Next, Say of what says nothing. Chapter 21: relay.Say of what says something. What is written is read again; the numbers of the law's examples. Chapter 21: what a turn of a sender, a taker, a relay leaves as it is; sender.Explicit. Chapter 19: taker.Status, Rank, Object. Plain laws of GridTells: rows and what they are joined; a unit's bytes. GridTells: the walk, no unit. The walk of the grid's Inverse. Plain laws of GridReckons: rows and their vectors, products, columns, the inverse. The contract of the reference's Mul. GridTells: the walk, no grid, a unit. GridTells: the walk, a grid, a unit. GridTells: the walk, whole. What the laws of grids carry along from call to call. The contract of the reference's without. The contract of the reference's Det. Plain laws of GridRanks: ranks of turned grids and products, determinants, inverses of inverses. Plain law of ElimSolves: equations that symbols solve. Plain law: packets of one object. They never clash; the rows are as many as the rank of the vectors that came; full rows have the object. A sender while others turn; two takers beside each other. Of a plan that may not be there is no gate, no taker, no relay; a plan that may be as numbers. A region that draws its order, by shapes, by what holds of the world as operations run, and by ties between slots. Two slices of headers, each grown by one in a region that draws its order. A plan of an object; ranks of combinations; rows of headers of new bytes while others turn. Chapter 19: the law's awake. A sender and a taker in memory, carried along. The contracts of the document's sum: Put, Sum (bit by bit). Plain law: a packet of which one stretch of four bytes has turned is not let in. What TakerHas, TripRuns, TripArrives carry: rows of bytes that grow; a sender that may refuse. Arguments that came in, as bytes and slices of bytes. Slices of structs of two slices of bytes, that came in. Sources that came in: a slice of structs of a byte, bytes and a number, opened. What the laws of the packets ask first: few bytes, small plans. Chapter 19: TakerHas, of an object that the plan fits. The contracts of slices.Delete and slices.Insert at parcels. The contract of slices.Insert at parcels: one more, where there is room. Lists of parcels that the call owns: each owns its bytes, no two share them. The contracts of the acts: drop, move, forge. The contract of the act move. The contract of the act double. The contract of the act cut. One cell of a parcel is written: its bytes, or where it came from. The contract of the act mask. What acts do to lists of packets; acts that came in, read from memory. Acts that came in: a slice of structs of five cells, and one by value, opened. The contract of play. The contracts of Apply and Whole. The contracts of Whole, of slices.Equal at ints, of Harms; of the law's Few; the chapter's example. The contract of the law's Few of layer 20; the chapter's example. The plain law of WayWhole: what came whole is what was sent; acts that harm nothing leave all whole; acts one by one are as all at once. Chapter 22: what a trip comes to (plain); what a sender and a taker carry along while other blocks turn. Chapters 11, 17: a plan and an object that do not fit. Chapter 22: trip.Run of a plan and an object that fit. Chapter 22: the law's awake. Chapter 22: the law's Few; trip.Run of what does not fit. Plain law of TripArrives: which ones came hangs on lengths alone; what is harmed, calmly, is not let in. Chapter 22: trip.Vectors. Where equations first clash: plain law. A row of headers that read in an older world; vectors of rows. Numbers by their digits: plain laws of layer 6. Numbers by their digits: one digit more, one digit set, sums and products step by step, which is greater. Numbers as texts of base 16, and as trimmed bytes: plain laws. Numbers told by texts of base 16, by bytes, by words: plain laws. One step of a product by hand; texts cut into words. How many bytes a number needs; trimmed bytes: plain laws. Numbers in memory; made, Of. DERIVED: THE SHELF's CONTRACTS AT THIS DUMP, IN PLAIN WORDS (tools/lay-plain.mjs out of 'TryzShelf.lean', which tools/lay-shelf.mjs wrote): THE SAME DECLARATIONS UNDER THE SAME NAMES: 'import', 'namespace', 'open', 'def', 'theorem' AND NOTHING ELSE: no command of the shelf's: FOR A HAND-IN. Each laying: the table of numbers ('.._ren') and one theorem, a field a fact of the dump's own or the kernel's comparison; each contract: ONE APPLICATION. -/
import Derived.Test.YtfbmdlfkipipfaaGreatDoorZd6
import Derived.WalkKit
import Derived.Laws.AppendOwn
import Derived.OpenShut
import Derived.Lib.SmallJoins
import Derived.Deep.DeepCutAuto
import Derived.Deep.RegionLaw
import Derived.Lib.Overlaps
import Derived.Shelf.Spec.SlicesInsert
import Derived.Lib.AppendZeros
import Derived.Deep.AppendLies
import Derived.Deep.RegionWith
import Derived.BigQuiet
import Derived.Lib.ItoaNum
import Derived.Test.YtfbmdlfkipipfaaGreatDoorProg
import Derived.Deep.QuietTactic
import Derived.WalkLawsBesides
import Derived.WalkSpells
import Derived.Lib.Hide
import Derived.Shelf.Abstract
import Derived.Laws.ResultCell
import Derived.Laws.Rows
import Derived.Shelf.Bits.Mul64
namespace Go.Proofs.YtfbmdlfkipipfaaGreatDoor
open Go.RowKit Go.By
theorem srcC_zero {m : UInt8} {j k : Nat} (h : srcC m j k = 0) : modeC m = 0 ∧ (m = 0 → j = k) := by
  unfold srcC at h
  by_cases h0 : m = 0
  · rw [if_pos h0] at h
    refine ⟨by rw [h0]; rfl, fun _ => ?_⟩
    split at h
    · assumption
    · cases h
  · rw [if_neg h0] at h
    exact ⟨h, fun e => absurd e h0⟩
theorem vecS_len {m : UInt8} {xs : List UInt8} {s j k : Nat} (h : srcC m j k = 0) (hj : xs.length = j) : (vecS m xs s k).length = k := by
  unfold vecS
  by_cases h0 : m = 0
  · rw [if_pos h0, hj]; exact (srcC_zero h).2 h0
  · rw [if_neg h0, mixRow_len]
theorem combS_fit {V : List UInt8} {xss : List (List UInt8)} {k t : Nat} (hk : 1 ≤ k) (h1 : V.length = k) (h2 : xss.length = k) (h : ∀ xs, xs ∈ xss → xs.length = t) : (combS V xss).2 = 0 ∧ (combS V xss).1.length = t := by
  have hx0 : xss[0]? = some xss[0] := List.getElem?_eq_getElem (by omega)
  have hm0 : xss[0] ∈ xss := List.getElem_mem (by omega)
  have e := noughtS_of hx0 (h _ hm0) h
  unfold combS
  rw [if_pos (h1.trans h2.symm), e, if_pos rfl]
  exact ⟨rfl, combF_len V xss t h _ (by simp)⟩
/-- what is sent: an error, or a packet; the next number -/
def SdRet (w : World) (gs L t k D : Nat) (xss : List (List UInt8)) (ys : List UInt8) (nx' : Nat) (code : Int) (e : Ending) (w' : World) : Prop :=
  ∃ q n c, e = .returned (.tuple #[.slice q n c, .int .i64 code]) ∧ Sl B8 w' q n c ys ∧ Snd w' gs L t k D nx' xss ∧ GChg w gs w'
/-- the same, and that the symbols lie where they lay -/
def SdRetQ (w : World) (gs L t k D : Nat) (xss : List (List UInt8)) (ys : List UInt8) (nx nx' : Nat) (code : Int) (e : Ending) (w' : World) : Prop :=
  SdRet w gs L t k D xss ys nx' code e w' ∧ ∀ q c, w.heap[gs]? = some (.cells #[.int .i64 (L : Nat), .int .i64 (t : Nat), .int .i64 (k : Nat), .int .u32 (D : Nat), .slice q k c, .int .u64 (nx : Nat)] 153 (0, 0)) → w'.heap[gs]? = some (.cells #[.int .i64 (L : Nat), .int .i64 (t : Nat), .int .i64 (k : Nat), .int .u32 (D : Nat), .slice q k c, .int .u64 (nx' : Nat)] 153 (0, 0))
/-- the same, and that the packet lies in new memory -/
def SdRetF (w : World) (gs L t k D : Nat) (xss : List (List UInt8)) (ys : List UInt8) (nx nx' : Nat) (code : Int) (e : Ending) (w' : World) : Prop :=
  (∃ q n c, e = .returned (.tuple #[.slice q n c, .int .i64 code]) ∧ Fresh 5 w.heap.size w' q n c ys) ∧ SdRetQ w gs L t k D xss ys nx nx' code e w'
set_option maxRecDepth 100000 in
set_option maxHeartbeats 4000000 in
theorem SSend_okF (gs L t k D nx : Nat) (xss : List (List UInt8)) (m : UInt8) (p : Option Addr) (j c s : Nat) (xs : List UInt8) (w : World) (hS : Snd w gs L t k D nx xss) (hnx : nx < 4294967296) (hm : srcC m j k = 0) (h : Sl B8 w p j c xs) (hr : Room j) (hT : HalfT w) :
    Calls Tryz.prog 31 #[.pointer (some ⟨gs, 0, none⟩), SVal m p j c s] w (SdRetF w gs L t k D xss (pktB m D nx xs s (combS (vecS m xs s k) xss).1) nx (nx + 1) 0) := by
  obtain ⟨qs, cs, hbox, hsx, hqs⟩ := hS.mem
  have HBX0 := Lib.hid hbox
  have HQS := Lib.hid hqs
  have hV : Hid (∀ w, Sl B8 w p j c xs → Calls Tryz.prog 32 #[SVal m p j c s, .int .i64 (k : Nat)] w (SRet w (vecS m xs s k) 0)) := fun w h => by have := SVector_any m p j c s k xs hS.ok.k1 hS.ok.k2 w h hr; rw [hm, if_pos rfl] at this; exact this
  obtain ⟨hc0, hcl⟩ := combS_fit hS.ok.k1 (vecS_len (s := s) hm h.len) hsx.len hS.fit
  have ht2 := hS.ok.t2
  have hK : Hid (∀ w p n c, Sl B8 w p n c (vecS m xs s k) → Sl2 w qs k cs xss → Calls Tryz.prog 75 #[.slice p n c, .slice qs k cs] w (SRet w (combS (vecS m xs s k) xss).1 0)) := fun w p n c h1 h2 => by
    refine Calls.mono (Comb_any p qs n k c cs _ _ w h1 h2 (fun xs hx => by rw [hS.fit xs hx]; show t ≤ _; omega)) ?_
    intro e w' he
    rw [hc0] at he
    exact SRet.of he
  obtain ⟨hmo, hmj⟩ := srcC_zero hm
  obtain ⟨Y, hY⟩ : ∃ Y, (combS (vecS m xs s k) xss).1 = Y := ⟨_, rfl⟩
  rw [hY] at hK hcl ⊢
  have hWr : Hid (∀ w q ty d, ty = t → Sl B8 w p j c xs → Sl B8 w q ty d Y → HalfT w → Calls Tryz.prog 76 #[PkVal m D nx m p j c s q ty d, PVal L t k D] w (SRetF 5 w (pktB m D nx xs s Y) 0)) := fun w q ty d e h1 h2 hT => by
    subst e
    exact PWrite_okF L _ k D nx m p j c s q d xs Y w hS.ok hnx hmo hmj hr h1 h2 hT
  obtain ⟨V, hVV⟩ : ∃ V, vecS m xs s k = V := ⟨_, rfl⟩
  rw [hVV] at hV hK
  obtain ⟨O, hO⟩ : ∃ O, pktB m D nx xs s Y = O := ⟨_, rfl⟩
  rw [hO] at hWr ⊢
  have hnx1 : IntKind.u64.wrap ((nx : Int) + 1) = ((nx + 1 : Nat) : Int) := by rw [IntKind.wrap_u64]; omega
  have hnx2 : IntKind.u32.wrap (nx : Int) = (nx : Int) := by rw [IntKind.wrap_u32]; omega
  have e0 : ((nx : Int) == 4294967296) = false := beq_eq_false_iff_ne.2 (by omega)
  have HS := Lib.hid hS
  have H := Lib.hid h
  have HT := Lib.hid hT
  have HSX := Lib.hid hsx
  have HCL := Lib.hid hcl
  have HBOX := Lib.hid hbox
  have a0 : ∀ o', (w.alloc o').cell? ⟨gs, 5, none⟩ = some (.int .u64 (nx : Nat)) := fun _ => calloc (cells_six hbox).2.2.2.2.2
  clear hqs hS h hT hsx hcl hbox hY hVV hO hc0 hmo hmj hm hr hnx ht2
  go_enter Tryz.func31, Tryz.ntmps31
  go_wp2_with fail
  have hgs := lt_of_block HBOX.out
  have B0 : Hid (Below w.heap.size w (w.alloc (.cells #[B8 m, .slice p j c, .int .u64 (s : Nat)] 66 (0, 0)))) := al (Below.refl _ _) (Nat.le_refl _)
  have k1 : (w.alloc (.cells #[B8 m, .slice p j c, .int .u64 (s : Nat)] 66 (0, 0))).heap[w.heap.size]? = some (.cells #[B8 m, .slice p j c, .int .u64 (s : Nat)] 66 (0, 0)) := hnew rfl
  have k2 := (B0.out.block _ hgs).trans HBOX.out
  have hs0 : w.heap.size + 1 ≤ (w.alloc (.cells #[B8 m, .slice p j c, .int .u64 (s : Nat)] 66 (0, 0))).heap.size := by simp
  generalize w.alloc (.cells #[B8 m, .slice p j c, .int .u64 (s : Nat)] 66 (0, 0)) = w1 at *
  have H1 := Lib.hid (H.out.keep B0.out)
  obtain ⟨b0, b1, b2⟩ := cells_three k1
  obtain ⟨c0, c1, c2, c3, c4, c5⟩ := cells_six k2
  refine wp_region_shapes (fun ix => ([.val (.agg #[B8 m, .slice p j c, .int .u64 (s : Nat)]), .val (.pointer (some ⟨gs, 0, none⟩)), .val (.pointer (some ⟨gs, 0, none⟩)), .val (.pointer (some ⟨gs, 0, none⟩)), .val (.pointer (some ⟨gs, 2, none⟩)), .val (.int .i64 (k : Nat)), ShSR (V) (0), ShSR (V) (0), .bytes (V), .val (.int .i64 0), .bytes (V), .val (.int .i64 0)][ix]?).getD (.any)) 79 rfl (by kernel_rfl) (by decide +kernel) (by decide +kernel) (by decide +kernel) ?_ ?_
  · refine ⟨?_, ?_, ?_, ?_, ?_, ?_, ?_, ?_, ?_, ?_, ?_, ?_, trivial⟩
    · intro a W hb0 hs hp hi; have hb := undrew hb0; clear hb0
      have tt : sl a 3 = .pointer (some ⟨w.heap.size, 0, none⟩) := hi 3 (by decide)
      have dd0 := (hb.cell (p := ⟨w.heap.size, 0, none⟩) (lt_of_cell b0)).trans b0
      have dd1 := (hb.cell (p := ⟨w.heap.size, 1, none⟩) (lt_of_cell b1)).trans b1
      have dd2 := (hb.cell (p := ⟨w.heap.size, 2, none⟩) (lt_of_cell b2)).trans b2
      refine ite_y rfl (wp_val (.agg #[B8 m, .slice p j c, .int .u64 (s : Nat)]) ?_ ?_)
      · simp only [execOp, eval_tmp, tt]; simp [go_sem, dd0, dd1, dd2]
      · exact ⟨_, rfl, Below.refl _ _, rfl⟩
    · intro a W hb0 hs hp hi; have hb := undrew hb0; clear hb0
      have t0 : sl a 0 = .pointer (some ⟨gs, 0, none⟩) := hi 0 (by decide)
      exact ite_y rfl (wp_val (sl a 0) rfl ⟨_, rfl, Below.refl _ _, t0⟩)
    · intro a W hb0 hs hp hi; have hb := undrew hb0; clear hb0
      have tt : sl a 20 = .pointer (some ⟨gs, 0, none⟩) := hp 1 (by decide)
      refine ite_y rfl (wp_val (.pointer (some ⟨gs, 0, none⟩)) ?_ ?_)
      · simp only [execOp, eval_tmp, tt]; simp [go_sem]
      · exact ⟨_, rfl, Below.refl _ _, rfl⟩
    · intro a W hb0 hs hp hi; have hb := undrew hb0; clear hb0
      have tt : sl a 21 = .pointer (some ⟨gs, 0, none⟩) := hp 2 (by decide)
      refine ite_y rfl (wp_val (.pointer (some ⟨gs, 0, none⟩)) ?_ ?_)
      · simp only [execOp, eval_tmp, tt]; simp [go_sem]
      · exact ⟨_, rfl, Below.refl _ _, rfl⟩
    · intro a W hb0 hs hp hi; have hb := undrew hb0; clear hb0
      have tt : sl a 22 = .pointer (some ⟨gs, 0, none⟩) := hp 3 (by decide)
      refine ite_y rfl (wp_val (.pointer (some ⟨gs, 2, none⟩)) ?_ ?_)
      · simp only [execOp, eval_tmp, tt]; simp [go_sem]
      · exact ⟨_, rfl, Below.refl _ _, rfl⟩
    · intro a W hb0 hs hp hi; have hb := undrew hb0; clear hb0
      have tt : sl a 23 = .pointer (some ⟨gs, 2, none⟩) := hp 4 (by decide)
      have dd := (hb.cell (p := ⟨gs, 2, none⟩) (lt_of_cell c2)).trans c2
      refine ite_y rfl (wp_val (.int .i64 (k : Nat)) ?_ ?_)
      · simp only [execOp, eval_tmp, tt]; simp [go_sem, dd]
      · exact ⟨_, rfl, Below.refl _ _, rfl⟩
    · intro a W hb0 hs hp hi; have hb := undrew hb0; clear hb0
      have t19 : sl a 19 = .agg #[B8 m, .slice p j c, .int .u64 (s : Nat)] := hp 0 (by decide)
      have t24 : sl a 24 = .int .i64 (k : Nat) := hp 5 (by decide)
      refine ite_y rfl (wp_enter 32 #[SVal m p j c s, .int .i64 (k : Nat)] ?_ (hV.out _ (H1.out.keep hb)) ?_)
      · simp only [execOp, resolve, List.map_toArray, List.map, eval_tmp, eval_func, eval_const, t19, t24]; simp [go_sem]
      · rintro e W' ⟨q5, n5, g5, rfl, o5, hw⟩; exact ⟨_, rfl, _, rfl, hw, q5, n5, g5, rfl, o5⟩
    · intro a W hb0 hs hp hi; have hb := undrew hb0; clear hb0
      exact ite_y rfl (wp_val (sl a 25) rfl ⟨_, rfl, Below.refl _ _, hp 6 (by decide)⟩)
    · intro a W hb0 hs hp hi; have hb := undrew hb0; clear hb0
      have tt : SRT (V) (0) (sl a 18) W := hp 7 (by decide)
      obtain ⟨q5, n5, g5, tt, z5⟩ := tt
      refine ite_y rfl (wp_val (.slice q5 n5 g5) ?_ ?_)
      · simp only [execOp, eval_tmp, tt]; rfl
      · exact ⟨_, rfl, Below.refl _ _, q5, n5, g5, rfl, z5⟩
    · intro a W hb0 hs hp hi; have hb := undrew hb0; clear hb0
      have tt : SRT (V) (0) (sl a 18) W := hp 7 (by decide)
      obtain ⟨q5, n5, g5, tt, z5⟩ := tt
      refine ite_y rfl (wp_val (.int .i64 0) ?_ ?_)
      · simp only [execOp, eval_tmp, tt]; rfl
      · exact ⟨_, rfl, Below.refl _ _, rfl⟩
    · intro a W hb0 hs hp hi; have hb := undrew hb0; clear hb0
      exact ite_y rfl (wp_val (sl a 26) rfl ⟨_, rfl, Below.refl _ _, hp 8 (by decide)⟩)
    · intro a W hb0 hs hp hi; have hb := undrew hb0; clear hb0
      have t27 : sl a 27 = .int .i64 0 := hp 9 (by decide)
      exact ite_y rfl (wp_val (sl a 27) rfl ⟨_, rfl, Below.refl _ _, t27⟩)
  intro a w2 hb hs hd hI ht
  have ha := act_is [19, 20, 21, 22, 23, 24, 25, 18, 26, 27, 6, 7] hs hd ht (by decide)
  have t7 : sl a 7 = .int .i64 0 := hI 11 (by decide)
  have y6 := hI 10 (by decide)
  obtain ⟨q6, n6, c6, t6, z6⟩ := y6
  simp only [List.foldl, t7, t6] at ha
  generalize sl a 19 = u19 at ha
  generalize sl a 20 = u20 at ha
  generalize sl a 21 = u21 at ha
  generalize sl a 22 = u22 at ha
  generalize sl a 23 = u23 at ha
  generalize sl a 24 = u24 at ha
  generalize sl a 25 = u25 at ha
  generalize sl a 18 = u18 at ha
  generalize sl a 26 = u26 at ha
  generalize sl a 27 = u27 at ha
  simp only [Act.put, List.setIfInBounds_toArray, List.set_cons_zero, List.set_cons_succ] at ha
  rw [ha]
  clear ha hI ht
  have HB2 := Lib.hid (bl B0.out hb B0.out.size)
  have ZV := Lib.hid z6
  have k1' := (hb.block _ (by omega)).trans k1
  have k2' := (hb.block _ (by omega)).trans k2
  have hs2 := hb.size
  clear hb z6 k1 k2 b0 b1 b2 c0 c1 c2 c3 c4 c5 H1
  obtain ⟨c0, c1, c2, c3, c4, c5⟩ := cells_six k2'
  go_wp2_with fail
  refine Calls.mono (hK.out _ _ _ _ ZV.out (HSX.out.keep HB2.out)) ?_
  rintro e w3 ⟨qy, ty, cy, rfl, hy, hb⟩
  have hty : ty = t := by rw [← hy.len]; exact HCL.out
  have HB3 := Lib.hid (bl HB2.out hb HB2.out.size)
  have HY := Lib.hid hy
  have k1 := (hb.block _ (by omega)).trans k1'
  have k2 := (hb.block _ (by omega)).trans k2'
  have hs3 := hb.size
  have HTY := Lib.hid hty
  clear hb hy k1' k2' c0 c1 c2 c3 c4 c5 hty
  obtain ⟨b0, b1, b2⟩ := cells_three k1
  obtain ⟨c0, c1, c2, c3, c4, c5⟩ := cells_six k2
  go_wp2_with fail
  refine wp_region_tail (fun ix => ([.val (.pointer (some ⟨w.heap.size, 0, none⟩)), .val (B8 m), .val (.pointer (some ⟨gs, 0, none⟩)), .val (.pointer (some ⟨gs, 0, none⟩)), .val (.pointer (some ⟨gs, 0, none⟩)), .val (.pointer (some ⟨gs, 3, none⟩)), .val (.int .u32 (D : Nat)), .val (.pointer (some ⟨gs, 0, none⟩)), .val (.pointer (some ⟨gs, 0, none⟩)), .val (.pointer (some ⟨gs, 5, none⟩)), .val (.int .u64 (nx : Nat)), .val (.int .u32 (nx : Nat)), (.val (HVal m D nx)), .val (.agg #[B8 m, .slice p j c, .int .u64 (s : Nat)]), .val (.slice qy ty cy), (.val (PkVal m D nx m p j c s qy ty cy)), (ShNew 135 w3.heap.size #[.int .u8 0, .int .u32 0, .int .u32 0, .int .u8 0, .slice none 0 0, .int .u64 0, .slice none 0 0]), .any][ix]?).getD (.any)) 79 17 rfl (by kernel_rfl) (by decide +kernel) (by decide +kernel) (by decide +kernel) (by decide +kernel) ?_ ?_
  · refine ⟨?_, ?_, ?_, ?_, ?_, ?_, ?_, ?_, ?_, ?_, ?_, ?_, ?_, ?_, ?_, ?_, ?_, trivial⟩
    · intro a W hb0 hs hp hi; have hb := undrew hb0; clear hb0
      have t3 : sl a 3 = .pointer (some ⟨w.heap.size, 0, none⟩) := hi 3 (by decide)
      refine ite_y rfl (wp_val (.pointer (some ⟨w.heap.size, 0, none⟩)) ?_ ?_)
      · simp only [execOp, eval_tmp, eval_const, t3]; simp [go_sem]
      · exact ⟨_, rfl, Below.refl _ _, rfl⟩
    · intro a W hb0 hs hp hi; have hb := undrew hb0; clear hb0
      have tt : sl a 43 = .pointer (some ⟨w.heap.size, 0, none⟩) := hp 0 (by decide)
      have dd := (hb.cell (p := ⟨w.heap.size, 0, none⟩) (lt_of_cell b0)).trans b0
      refine ite_y rfl (wp_val (B8 m) ?_ ?_)
      · simp only [execOp, eval_tmp, tt]; simp [go_sem, dd]
      · exact ⟨_, rfl, Below.refl _ _, rfl⟩
    · intro a W hb0 hs hp hi; have hb := undrew hb0; clear hb0
      have t0 : sl a 0 = .pointer (some ⟨gs, 0, none⟩) := hi 0 (by decide)
      exact ite_y rfl (wp_val (sl a 0) rfl ⟨_, rfl, Below.refl _ _, t0⟩)
    · intro a W hb0 hs hp hi; have hb := undrew hb0; clear hb0
      have tt : sl a 45 = .pointer (some ⟨gs, 0, none⟩) := hp 2 (by decide)
      refine ite_y rfl (wp_val (.pointer (some ⟨gs, 0, none⟩)) ?_ ?_)
      · simp only [execOp, eval_tmp, tt]; simp [go_sem]
      · exact ⟨_, rfl, Below.refl _ _, rfl⟩
    · intro a W hb0 hs hp hi; have hb := undrew hb0; clear hb0
      have tt : sl a 46 = .pointer (some ⟨gs, 0, none⟩) := hp 3 (by decide)
      refine ite_y rfl (wp_val (.pointer (some ⟨gs, 0, none⟩)) ?_ ?_)
      · simp only [execOp, eval_tmp, tt]; simp [go_sem]
      · exact ⟨_, rfl, Below.refl _ _, rfl⟩
    · intro a W hb0 hs hp hi; have hb := undrew hb0; clear hb0
      have tt : sl a 47 = .pointer (some ⟨gs, 0, none⟩) := hp 4 (by decide)
      refine ite_y rfl (wp_val (.pointer (some ⟨gs, 3, none⟩)) ?_ ?_)
      · simp only [execOp, eval_tmp, tt]; simp [go_sem]
      · exact ⟨_, rfl, Below.refl _ _, rfl⟩
    · intro a W hb0 hs hp hi; have hb := undrew hb0; clear hb0
      have tt : sl a 48 = .pointer (some ⟨gs, 3, none⟩) := hp 5 (by decide)
      have dd := (hb.cell (p := ⟨gs, 3, none⟩) (lt_of_cell c3)).trans c3
      refine ite_y rfl (wp_val (.int .u32 (D : Nat)) ?_ ?_)
      · simp only [execOp, eval_tmp, tt]; simp [go_sem, dd]
      · exact ⟨_, rfl, Below.refl _ _, rfl⟩
    · intro a W hb0 hs hp hi; have hb := undrew hb0; clear hb0
      have t0 : sl a 0 = .pointer (some ⟨gs, 0, none⟩) := hi 0 (by decide)
      exact ite_y rfl (wp_val (sl a 0) rfl ⟨_, rfl, Below.refl _ _, t0⟩)
    · intro a W hb0 hs hp hi; have hb := undrew hb0; clear hb0
      have tt : sl a 50 = .pointer (some ⟨gs, 0, none⟩) := hp 7 (by decide)
      refine ite_y rfl (wp_val (.pointer (some ⟨gs, 0, none⟩)) ?_ ?_)
      · simp only [execOp, eval_tmp, tt]; simp [go_sem]
      · exact ⟨_, rfl, Below.refl _ _, rfl⟩
    · intro a W hb0 hs hp hi; have hb := undrew hb0; clear hb0
      have tt : sl a 51 = .pointer (some ⟨gs, 0, none⟩) := hp 8 (by decide)
      refine ite_y rfl (wp_val (.pointer (some ⟨gs, 5, none⟩)) ?_ ?_)
      · simp only [execOp, eval_tmp, tt]; simp [go_sem]
      · exact ⟨_, rfl, Below.refl _ _, rfl⟩
    · intro a W hb0 hs hp hi; have hb := undrew hb0; clear hb0
      have tt : sl a 52 = .pointer (some ⟨gs, 5, none⟩) := hp 9 (by decide)
      have dd := (hb.cell (p := ⟨gs, 5, none⟩) (lt_of_cell c5)).trans c5
      refine ite_y rfl (wp_val (.int .u64 (nx : Nat)) ?_ ?_)
      · simp only [execOp, eval_tmp, tt]; simp [go_sem, dd]
      · exact ⟨_, rfl, Below.refl _ _, rfl⟩
    · intro a W hb0 hs hp hi; have hb := undrew hb0; clear hb0
      have tt : sl a 53 = .int .u64 (nx : Nat) := hp 10 (by decide)
      refine ite_y rfl (wp_val (.int .u32 (nx : Nat)) ?_ ?_)
      · simp only [execOp, eval_tmp, tt]; simp [go_sem, Tryz.underlying44, Tryz.underlying23, hnx2]
      · exact ⟨_, rfl, Below.refl _ _, rfl⟩
    · intro a W hb0 hs hp hi; have hb := undrew hb0; clear hb0
      have t44 : sl a 44 = B8 m := hp 1 (by decide)
      have t49 : sl a 49 = .int .u32 (D : Nat) := hp 6 (by decide)
      have t54 : sl a 54 = .int .u32 (nx : Nat) := hp 11 (by decide)
      have v44 : a.tmps[44]?.getD undef = sl a 44 := by simp [sl]
      rw [t44] at v44
      have v49 : a.tmps[49]?.getD undef = sl a 49 := by simp [sl]
      rw [t49] at v49
      have v54 : a.tmps[54]?.getD undef = sl a 54 := by simp [sl]
      rw [t54] at v54
      refine ite_y rfl (wp_val (HVal m D nx) ?_ ?_)
      · simp only [execOp, eval_tmp, t44, t49, t54]; simp [go_sem, v44, v49, v54, Tryz.underlying133]
      · exact ⟨_, rfl, Below.refl _ _, rfl⟩
    · intro a W hb0 hs hp hi; have hb := undrew hb0; clear hb0
      have tt : sl a 3 = .pointer (some ⟨w.heap.size, 0, none⟩) := hi 3 (by decide)
      have dd0 := (hb.cell (p := ⟨w.heap.size, 0, none⟩) (lt_of_cell b0)).trans b0
      have dd1 := (hb.cell (p := ⟨w.heap.size, 1, none⟩) (lt_of_cell b1)).trans b1
      have dd2 := (hb.cell (p := ⟨w.heap.size, 2, none⟩) (lt_of_cell b2)).trans b2
      refine ite_y rfl (wp_val (.agg #[B8 m, .slice p j c, .int .u64 (s : Nat)]) ?_ ?_)
      · simp only [execOp, eval_tmp, tt]; simp [go_sem, dd0, dd1, dd2]
      · exact ⟨_, rfl, Below.refl _ _, rfl⟩
    · intro a W hb0 hs hp hi; have hb := undrew hb0; clear hb0
      have t8 : sl a 8 = .slice qy ty cy := hi 8 (by decide)
      exact ite_y rfl (wp_val (sl a 8) rfl ⟨_, rfl, Below.refl _ _, t8⟩)
    · intro a W hb0 hs hp hi; have hb := undrew hb0; clear hb0
      have t55 : sl a 55 = HVal m D nx := hp 12 (by decide)
      have t56 : sl a 56 = SVal m p j c s := hp 13 (by decide)
      have t57 : sl a 57 = .slice qy ty cy := hp 14 (by decide)
      have v55 : a.tmps[55]?.getD undef = sl a 55 := by simp [sl]
      rw [t55] at v55
      have v56 : a.tmps[56]?.getD undef = sl a 56 := by simp [sl]
      rw [t56] at v56
      have v57 : a.tmps[57]?.getD undef = sl a 57 := by simp [sl]
      rw [t57] at v57
      refine ite_y rfl (wp_val (PkVal m D nx m p j c s qy ty cy) ?_ ?_)
      · simp only [execOp, eval_tmp, t55, t56, t57]; simp [go_sem, v55, v56, v57, Tryz.underlying133, Tryz.underlying66, Tryz.underlying135]
      · exact ⟨_, rfl, Below.refl _ _, rfl⟩
    · intro a W hb0 hs hp hi; have hb := undrew hb0; clear hb0
      refine ite_y rfl (wp_val' (w' := W.alloc (.cells #[.int .u8 0, .int .u32 0, .int .u32 0, .int .u8 0, .slice none 0 0, .int .u64 0, .slice none 0 0] 135)) (.pointer (some ⟨W.heap.size, 0, none⟩)) ?_ ?_)
      · simp only [execOp]; simp [go_sem]
      · exact ⟨_, rfl, al (Below.refl _ _) (Nat.le_refl _), _, rfl, hb.size, hnew rfl⟩
  intro a w4 hb hs hd hI ht
  have ha := act_is [43, 44, 45, 46, 47, 48, 49, 50, 51, 52, 53, 54, 55, 56, 57, 58, 9] hs hd ht (by decide)
  have t58 : sl a 58 = (PkVal m D nx m p j c s qy ty cy) := hI 15 (by decide)
  have y9 := hI 16 (by decide)
  obtain ⟨g9, t9, hg9, hh9⟩ := y9
  simp only [List.foldl, t58, t9] at ha
  generalize sl a 43 = u43 at ha
  generalize sl a 44 = u44 at ha
  generalize sl a 45 = u45 at ha
  generalize sl a 46 = u46 at ha
  generalize sl a 47 = u47 at ha
  generalize sl a 48 = u48 at ha
  generalize sl a 49 = u49 at ha
  generalize sl a 50 = u50 at ha
  generalize sl a 51 = u51 at ha
  generalize sl a 52 = u52 at ha
  generalize sl a 53 = u53 at ha
  generalize sl a 54 = u54 at ha
  generalize sl a 55 = u55 at ha
  generalize sl a 56 = u56 at ha
  generalize sl a 57 = u57 at ha
  simp only [Act.put, List.setIfInBounds_toArray, List.set_cons_zero, List.set_cons_succ] at ha
  rw [ha]; clear ha hI ht hs hd
  simp only [List.drop_succ_cons, List.drop_zero]
  have hg9' : gs < g9 := by have := HB3.out.size; omega
  have hs4 := hb.size
  have B4 := bl HB3.out hb HB3.out.size
  have q2 := (hb.block _ (by omega)).trans k2
  have Y4 := HY.out.keep hb
  have HZ4 := Lib.hid hg9
  clear hb c0 c1 c2 c3 c4 c5 b0 b1 b2 k1 k2
  go_wp2_with (refine wpList_store_rowS (o := ⟨none, .store 135 (.tmp 9) (.tmp 58), _, _, _, _⟩) rfl 135 (.tmp 9) (.tmp 58) rfl g9 #[B8 m, .int .u32 (D : Nat), .int .u32 (nx : Nat), B8 m, .slice p j c, .int .u64 (s : Nat), .slice qy ty cy] rfl rfl _ _ hh9 info_packet rfl (by simp [Value.oneCell']) ?_)
  intro w5 hr5
  have HB5 : Hid (Below w.heap.size w w5) := by rw [hr5.eq]; exact below_row B4 (by have := HB3.out.size; omega)
  have k2 : w5.heap[gs]? = some (.cells #[.int .i64 (L : Nat), .int .i64 (t : Nat), .int .i64 (k : Nat), .int .u32 (D : Nat), .slice qs k cs, .int .u64 (nx : Nat)] 153 (0, 0)) := by rw [hr5.eq]; exact hro q2 (by omega)
  have k9 : w5.heap[g9]? = some (.cells #[B8 m, .int .u32 (D : Nat), .int .u32 (nx : Nat), B8 m, .slice p j c, .int .u64 (s : Nat), .slice qy ty cy] 135 (0, 0)) := by rw [hr5.eq]; exact hrs hh9
  have HX5 := Lib.hid (H.out.keep HB5.out)
  have HY5 : Hid (Sl B8 w5 qy ty cy Y) := by
    rw [hr5.eq]
    exact sl_setRow Y4 fun a ha => by
      obtain ⟨b, o, e, hl⟩ := HY.out.has (by
        rcases Nat.eq_zero_or_pos ty with h0 | h0
        · exfalso
          have := HTY.out; have := HS.out.ok.t1; omega
        · exact h0)
      rw [ha] at e; cases e
      show b ≠ g9
      have := HZ4.out; omega
  have HT5 := Lib.hid (HT.out.keep HB5.out)
  clear hr5 q2 Y4 hh9 B4
  obtain ⟨c0, c1, c2, c3, c4, c5⟩ := cells_six k2
  obtain ⟨f0, f1, f2, f3, f4, f5, f6⟩ := cells_seven k9
  go_wp2_with fail
  refine wp_region_shapes (fun ix => ([.val (.agg #[B8 m, .int .u32 (D : Nat), .int .u32 (nx : Nat), B8 m, .slice p j c, .int .u64 (s : Nat), .slice qy ty cy]), .val (.pointer (some ⟨gs, 0, none⟩)), .val (.pointer (some ⟨gs, 0, none⟩)), .val (.pointer (some ⟨gs, 0, none⟩)), .val (PVal L t k D), (ShSRF 5 (w.heap.size) (O) (0)), (ShSRF 5 (w.heap.size) (O) (0)), (ShF 5 (w.heap.size) (O)), .val (.int .i64 0), (ShF 5 (w.heap.size) (O)), .val (.int .i64 0)][ix]?).getD (.any)) 79 rfl (by kernel_rfl) (by decide +kernel) (by decide +kernel) (by decide +kernel) ?_ ?_
  · refine ⟨?_, ?_, ?_, ?_, ?_, ?_, ?_, ?_, ?_, ?_, ?_, trivial⟩
    · intro a W hb0 hs hp hi; have hb := undrew hb0; clear hb0
      have tt : sl a 9 = .pointer (some ⟨g9, 0, none⟩) := hi 9 (by decide)
      have dd0 := (hb.cell (p := ⟨g9, 0, none⟩) (lt_of_cell f0)).trans f0
      have dd1 := (hb.cell (p := ⟨g9, 1, none⟩) (lt_of_cell f1)).trans f1
      have dd2 := (hb.cell (p := ⟨g9, 2, none⟩) (lt_of_cell f2)).trans f2
      have dd3 := (hb.cell (p := ⟨g9, 3, none⟩) (lt_of_cell f3)).trans f3
      have dd4 := (hb.cell (p := ⟨g9, 4, none⟩) (lt_of_cell f4)).trans f4
      have dd5 := (hb.cell (p := ⟨g9, 5, none⟩) (lt_of_cell f5)).trans f5
      have dd6 := (hb.cell (p := ⟨g9, 6, none⟩) (lt_of_cell f6)).trans f6
      refine ite_y rfl (wp_val (.agg #[B8 m, .int .u32 (D : Nat), .int .u32 (nx : Nat), B8 m, .slice p j c, .int .u64 (s : Nat), .slice qy ty cy]) ?_ ?_)
      · simp only [execOp, eval_tmp, tt]; simp [go_sem, dd0, dd1, dd2, dd3, dd4, dd5, dd6]
      · exact ⟨_, rfl, Below.refl _ _, rfl⟩
    · intro a W hb0 hs hp hi; have hb := undrew hb0; clear hb0
      have t0 : sl a 0 = .pointer (some ⟨gs, 0, none⟩) := hi 0 (by decide)
      exact ite_y rfl (wp_val (sl a 0) rfl ⟨_, rfl, Below.refl _ _, t0⟩)
    · intro a W hb0 hs hp hi; have hb := undrew hb0; clear hb0
      have tt : sl a 61 = .pointer (some ⟨gs, 0, none⟩) := hp 1 (by decide)
      refine ite_y rfl (wp_val (.pointer (some ⟨gs, 0, none⟩)) ?_ ?_)
      · simp only [execOp, eval_tmp, tt]; simp [go_sem]
      · exact ⟨_, rfl, Below.refl _ _, rfl⟩
    · intro a W hb0 hs hp hi; have hb := undrew hb0; clear hb0
      have tt : sl a 62 = .pointer (some ⟨gs, 0, none⟩) := hp 2 (by decide)
      refine ite_y rfl (wp_val (.pointer (some ⟨gs, 0, none⟩)) ?_ ?_)
      · simp only [execOp, eval_tmp, tt]; simp [go_sem]
      · exact ⟨_, rfl, Below.refl _ _, rfl⟩
    · intro a W hb0 hs hp hi; have hb := undrew hb0; clear hb0
      have tt : sl a 63 = .pointer (some ⟨gs, 0, none⟩) := hp 3 (by decide)
      have d0' := (hb.cell (p := ⟨gs, 0, none⟩) (lt_of_cell c0)).trans c0
      have d1' := (hb.cell (p := ⟨gs, 1, none⟩) (lt_of_cell c1)).trans c1
      have d2' := (hb.cell (p := ⟨gs, 2, none⟩) (lt_of_cell c2)).trans c2
      have d3' := (hb.cell (p := ⟨gs, 3, none⟩) (lt_of_cell c3)).trans c3
      refine ite_y rfl (wp_val (PVal L t k D) ?_ ?_)
      · simp only [execOp, eval_tmp, tt]; simp [go_sem, d0', d1', d2', d3']
      · exact ⟨_, rfl, Below.refl _ _, rfl⟩
    · intro a W hb0 hs hp hi; have hb := undrew hb0; clear hb0
      have t60 : sl a 60 = .agg #[B8 m, .int .u32 (D : Nat), .int .u32 (nx : Nat), B8 m, .slice p j c, .int .u64 (s : Nat), .slice qy ty cy] := hp 0 (by decide)
      have t64 : sl a 64 = PVal L t k D := hp 4 (by decide)
      refine ite_y rfl (wp_enter 76 #[PkVal m D nx m p j c s qy ty cy, PVal L t k D] ?_ (hWr.out _ _ _ _ HTY.out (HX5.out.keep hb) (HY5.out.keep hb) (HT5.out.keep hb)) ?_)
      · simp only [execOp, resolve, List.map_toArray, List.map, eval_tmp, eval_func, eval_const, t60, t64]; simp [go_sem]
      · rintro e W' ⟨q5, n5, g5, rfl, o5, hw⟩; exact ⟨_, rfl, _, rfl, hw, q5, n5, g5, rfl, o5.mono (Nat.le_trans HB5.out.size hb.size)⟩
    · intro a W hb0 hs hp hi; have hb := undrew hb0; clear hb0
      exact ite_y rfl (wp_val (sl a 65) rfl ⟨_, rfl, Below.refl _ _, hp 5 (by decide)⟩)
    · intro a W hb0 hs hp hi; have hb := undrew hb0; clear hb0
      have tt : SRTF 5 (w.heap.size) (O) (0) (sl a 59) W := hp 6 (by decide)
      obtain ⟨q5, n5, g5, tt, z5⟩ := tt
      refine ite_y rfl (wp_val (.slice q5 n5 g5) ?_ ?_)
      · simp only [execOp, eval_tmp, tt]; rfl
      · exact ⟨_, rfl, Below.refl _ _, q5, n5, g5, rfl, z5⟩
    · intro a W hb0 hs hp hi; have hb := undrew hb0; clear hb0
      have tt : SRTF 5 (w.heap.size) (O) (0) (sl a 59) W := hp 6 (by decide)
      obtain ⟨q5, n5, g5, tt, z5⟩ := tt
      refine ite_y rfl (wp_val (.int .i64 0) ?_ ?_)
      · simp only [execOp, eval_tmp, tt]; rfl
      · exact ⟨_, rfl, Below.refl _ _, rfl⟩
    · intro a W hb0 hs hp hi; have hb := undrew hb0; clear hb0
      exact ite_y rfl (wp_val (sl a 66) rfl ⟨_, rfl, Below.refl _ _, hp 7 (by decide)⟩)
    · intro a W hb0 hs hp hi; have hb := undrew hb0; clear hb0
      have t67 : sl a 67 = .int .i64 0 := hp 8 (by decide)
      exact ite_y rfl (wp_val (sl a 67) rfl ⟨_, rfl, Below.refl _ _, t67⟩)
  intro a w6 hb hs hd hI ht
  have ha := act_is [60, 61, 62, 63, 64, 65, 59, 66, 67, 10, 7] hs hd ht (by decide)
  have t7 : sl a 7 = .int .i64 0 := hI 10 (by decide)
  have y10 : (ShF 5 (w.heap.size) (O)).ok (sl a 10) w6 := hI 9 (by decide)
  obtain ⟨q10, n10, c10, t10, z10⟩ := y10
  simp only [List.foldl, t7, t10] at ha
  generalize sl a 60 = u60 at ha
  generalize sl a 61 = u61 at ha
  generalize sl a 62 = u62 at ha
  generalize sl a 63 = u63 at ha
  generalize sl a 64 = u64 at ha
  generalize sl a 65 = u65 at ha
  generalize sl a 59 = u59 at ha
  generalize sl a 66 = u66 at ha
  generalize sl a 67 = u67 at ha
  simp only [Act.put, List.setIfInBounds_toArray, List.set_cons_zero, List.set_cons_succ] at ha
  rw [ha]
  clear ha hI ht
  have k2' := (hb.block _ (lt_of_block k2)).trans k2
  have HB6 := Lib.hid (bl HB5.out hb HB5.out.size)
  have HO := Lib.hid z10
  obtain ⟨x0, x1, x2, x3, x4, x5⟩ := cells_six k2'
  have z5 := frozen_of_row _ _ 5 _ _ k2'
  clear hb z10 c0 c1 c2 c3 c4 c5 f0 f1 f2 f3 f4 f5 f6 k2 k9
  go_wp2
  go_ret2
  refine ⟨⟨q10, n10, c10, rfl, HO.out.cell k2' (by decide)⟩, ⟨q10, n10, c10, rfl, (HO.out.cell k2' (by decide)).sl, ⟨HS.out.ok, ⟨qs, cs, hss k2', sl2_noByte (HSX.out.keep HB6.out) HQS.out k2' noByte6, HQS.out⟩, HS.out.fit⟩, (GChg.of gs HB6.out).set _⟩, fun q c h => ?_⟩
  rw [HBX0.out] at h
  cases h
  exact hss k2'
end Go.Proofs.YtfbmdlfkipipfaaGreatDoor
namespace Go.By
open Go
section
variable {P : Program} (w : World)
end
end Go.By
namespace Go.Proofs.YtfbmdlfkipipfaaGreatDoor
open Go.RowKit Go.By Go.Maps
end Go.Proofs.YtfbmdlfkipipfaaGreatDoor
namespace Go.By
open Go.RowKit
/-- a slice of headers, made by the call, of slices that read in an elder world -/
def Hdr (T : TypeId) (w1 : World) (base : Nat) (w : World) (v : Value) (i : Nat) (xss : List (List UInt8)) : Prop :=
  ∃ vs, w.ownsRow base T 1 v i vs ∧ xss.length = i ∧ ∀ (j : Nat) (u : Value), vs[j]? = some u → ∃ q m c xs, u = .slice q m c ∧ xss[j]? = some xs ∧ Sl B8 w1 q m c xs
theorem Hdr.shape {T base i : Nat} {w1 w : World} {v : Value} {xss : List (List UInt8)} (h : Hdr T w1 base w v i xss) : ∃ q c, v = .slice q i c := by
  obtain ⟨vs, o, _⟩ := h; exact owns_shape o
theorem Hdr.nil (T base : Nat) (w1 w : World) : Hdr T w1 base w (.slice none 0 0) 0 [] := ⟨[], World.ownsRow_nil _ _ _ _, rfl, fun j u h => by simp at h⟩
theorem Hdr.push {T base i : Nat} {w1 w : World} {v : Value} {xss : List (List UInt8)} {vs : List Value} {q : Option Addr} {m c : Nat} {xs : List UInt8} (ho : w.ownsRow base T 1 v (i + 1) (vs ++ [.slice q m c])) (hl : xss.length = i) (hv : vs.length = i) (h : ∀ (j : Nat) (u : Value), vs[j]? = some u → ∃ q m c xs, u = .slice q m c ∧ xss[j]? = some xs ∧ Sl B8 w1 q m c xs) (hs : Sl B8 w1 q m c xs) : Hdr T w1 base w v (i + 1) (xss ++ [xs]) := by
  refine ⟨_, ho, by simp [hl], fun j u hj => ?_⟩
  rcases Nat.lt_trichotomy j i with h1 | h1 | h1
  · rw [List.getElem?_append_left (by omega)] at hj
    obtain ⟨q', m', c', xs', e, hx, hs'⟩ := h j u hj
    exact ⟨q', m', c', xs', e, by rw [List.getElem?_append_left (by omega)]; exact hx, hs'⟩
  · subst h1
    rw [List.getElem?_append_right (by omega), hv, Nat.sub_self] at hj
    simp at hj
    exact ⟨q, m, c, xs, hj.symm, by rw [List.getElem?_append_right (by omega), hl, Nat.sub_self]; rfl, hs⟩
  · rw [List.getElem?_eq_none (by simp [hv]; omega)] at hj; cases hj
theorem Hdr.sl2 {T base i : Nat} {w1 w : World} {q : Option Addr} {c : Nat} {xss : List (List UInt8)} (h : Hdr T w1 base w (.slice q i c) i xss) (hb : Below w1.heap.size w1 w) : Sl2 w q i c xss := by
  obtain ⟨vs, o, hl, hr⟩ := h
  have hc := owns_cap o
  have hvl : vs.length = i := owns_len o
  refine ⟨hl, hc.1, hc.2, fun hp => ?_, fun j xs hj => ?_⟩
  · rcases o.2 with ⟨h2, rfl⟩ | ⟨g, cap, cur, hv, _⟩
    · simp at h2; exact ⟨rfl, h2.2⟩
    · rw [hp] at hv; cases hv
  · have hji : j < i := by rw [← hl]; exact (List.getElem?_eq_some_iff.1 hj).1
    obtain ⟨q', m', c', xs', e, hx, hs⟩ := hr j vs[j] (List.getElem?_eq_getElem (by omega))
    rw [hj] at hx; cases hx
    obtain ⟨g, rfl, _, _⟩ := owns_at o (by omega)
    refine ⟨g, 0, q', c', rfl, ?_, ?_⟩
    · rw [Nat.zero_add, o.cellAt j (by omega), List.getElem?_eq_getElem (by omega), e, hs.len]
    · rw [hs.len]; exact hs.keep hb
/-- the second of two slices stays, where the first one grew -/
theorem Hdr.kept {T base i : Nat} {w1 w w' : World} {v : Value} {row : Option Nat} {xss : List (List UInt8)} (h : Hdr T w1 base w v i xss) (hg : w.grownBy w' row) (hne : ∀ b, v.ownBlock = some b → row ≠ some b) : Hdr T w1 base w' v i xss := by
  obtain ⟨vs, o, hl, hr⟩ := h
  refine ⟨vs, o.kept hg ?_, hl, hr⟩
  cases hv : v.ownBlock with
  | none => simp
  | some b => have := hne b hv; simp; intro e; exact this e.symm
end Go.By
namespace Go.Proofs.YtfbmdlfkipipfaaGreatDoor
open Go.RowKit Go.By Go.Maps
end Go.Proofs.YtfbmdlfkipipfaaGreatDoor
namespace Go.Proofs.YtfbmdlfkipipfaaGreatDoor
open Go.RowKit Go.By
theorem read_write {m : UInt8} {D n s k t : Nat} {xs ys : List UInt8} (hm : modeC m = 0) (hx : m = 0 → xs.length = k) (hy : ys.length = t) (hD : D < 4294967296) (hn : n < 4294967296) :
    readC k t D (pktB m D n xs s ys) = 0 ∧ pktM (pktB m D n xs s ys) = m ∧ pktN (pktB m D n xs s ys) = n ∧ pktX k (pktB m D n xs s ys) = rdX m (srcB m xs s) ∧ pktS k (pktB m D n xs s ys) = rdS m (srcB m xs s) ∧ pktY k t (pktB m D n xs s ys) = ys := by
  have hm01 : m = 0 ∨ m = 1 := by
    unfold modeC at hm
    split at hm
    · assumption
    · cases hm
  have hS : (srcB m xs s).length = widS m k := by
    unfold srcB widS
    rcases hm01 with h | h
    · rw [if_pos h, if_pos h]; exact hx h
    · rw [if_neg (by rw [h]; decide), if_neg (by rw [h]; decide), if_pos h, put8_len]
  obtain ⟨S, hSS⟩ : ∃ S, srcB m xs s = S := ⟨_, rfl⟩
  obtain ⟨W, hW⟩ : ∃ W, widS m k = W := ⟨_, rfl⟩
  obtain ⟨c, hc⟩ : ∃ c, crcS (bodyP m D n xs s ys) = c := ⟨_, rfl⟩
  have hcl : c < 4294967296 := by rw [← hc]; exact crcS_lt _
  have hB : pktB m D n xs s ys = [1, m] ++ (put4 D ++ (put4 n ++ (S ++ (ys ++ put4 c)))) := by
    unfold pktB
    rw [hc]
    unfold bodyP headB
    rw [hSS]; simp
  have hbody : bodyP m D n xs s ys = [1, m] ++ (put4 D ++ (put4 n ++ (S ++ ys))) := by unfold bodyP headB; rw [hSS]; simp
  rw [hSS, hW] at hS
  have g0 : (pktB m D n xs s ys).getD 0 0 = 1 := by rw [hB]; rfl
  have g1 : (pktB m D n xs s ys).getD 1 0 = m := by rw [hB]; rfl
  have hlen : (pktB m D n xs s ys).length = 10 + W + t + 4 := by rw [hB]; simp [put4_len, hS, hy]; omega
  have d2 : (pktB m D n xs s ys).drop 2 = put4 D ++ (put4 n ++ (S ++ (ys ++ put4 c))) := by rw [hB]; exact List.drop_left' rfl
  have d6 : (pktB m D n xs s ys).drop 6 = put4 n ++ (S ++ (ys ++ put4 c)) := by
    rw [show (6 : Nat) = 2 + 4 from rfl, ← List.drop_drop, d2]; exact List.drop_left' (put4_len D)
  have d10 : (pktB m D n xs s ys).drop 10 = S ++ (ys ++ put4 c) := by
    rw [show (10 : Nat) = 6 + 4 from rfl, ← List.drop_drop, d6]; exact List.drop_left' (put4_len n)
  have dW : (pktB m D n xs s ys).drop (10 + W) = ys ++ put4 c := by
    rw [← List.drop_drop, d10]; exact List.drop_left' hS
  have dt : (pktB m D n xs s ys).drop (10 + W + t) = put4 c := by
    rw [← List.drop_drop, dW]; exact List.drop_left' hy
  have tk : (pktB m D n xs s ys).take (10 + W + t) = bodyP m D n xs s ys := by
    have e : pktB m D n xs s ys = bodyP m D n xs s ys ++ put4 c := by unfold pktB; rw [hc]
    rw [e]
    exact List.take_left' (by rw [hbody]; simp [put4_len, hS, hy]; omega)
  have t2 : ((pktB m D n xs s ys).drop 2).take 4 = put4 D := by rw [d2]; exact List.take_left' (put4_len D)
  have t6 : ((pktB m D n xs s ys).drop 6).take 4 = put4 n := by rw [d6]; exact List.take_left' (put4_len n)
  have t10 : ((pktB m D n xs s ys).drop 10).take W = S := by rw [d10]; exact List.take_left' hS
  have tW : ((pktB m D n xs s ys).drop (10 + W)).take t = ys := by rw [dW]; exact List.take_left' hy
  have tc : ((pktB m D n xs s ys).drop (10 + W + t)).take 4 = put4 c := by rw [dt]; exact List.take_of_length_le (Nat.le_of_eq (put4_len c))
  refine ⟨?_, g1, ?_, ?_, ?_, ?_⟩
  · have hh : headC (pktB m D n xs s ys) = 0 := by
      unfold headC
      rw [if_neg (by rw [hlen]; omega), g0, g1, if_neg (by simp)]
      exact hm
    unfold readC
    rw [if_neg (by simp [hh]), g1]
    have hl : (pktB m D n xs s ys).length = lenP m k t := by unfold lenP; rw [hlen, hW]
    rw [if_neg (by simp [hl]), show (pktB m D n xs s ys).length - 4 = 10 + W + t by omega, tc, tk, hc, get4_put4 hcl, if_neg (by simp), t2, get4_put4 hD, if_neg (by simp)]
  · unfold pktN; rw [t6, get4_put4 hn]
  · unfold pktX; rw [g1, hW, t10, hSS]
  · unfold pktS; rw [g1, hW, t10, hSS]
  · unfold pktY; rw [g1, hW, tW]
end Go.Proofs.YtfbmdlfkipipfaaGreatDoor
namespace Go.By
open Go.RowKit Go.Maps Go.Proofs.YtfbmdlfkipipfaaGreatDoor
section
variable {w w' : World} {g : Nat} {old : Array Value} {T' : Nat} {fr : Nat × Nat}
theorem GChg.blk (h : GChg w g w') (hg : w.heap[g]? = some (.cells old T' fr)) {b T : Nat} {cs : Array Value} {fr2 : Nat × Nat} (hb : w.heap[b]? = some (.cells cs T fr2)) (hne : T' ≠ T) : w'.heap[b]? = some (.cells cs T fr2) := by
  refine (h.block b (lt_of_block hb) fun e => ?_).trans hb
  rw [e, hg] at hb; injection hb with hb; injection hb with _ hb _; exact hne hb
theorem GChg.cnt (h : GChg w g w') (hg : w.heap[g]? = some (.cells old T' fr)) {M : Value} {N : Nat} {C : DataW Unit} (hc : CntM w M N C) : CntM w' M N C := by
  refine ⟨?_, hc.small⟩
  rcases hc.at_ with h1 | ⟨b, e, ho⟩
  · exact .inl h1
  · refine .inr ⟨b, e, ?_⟩
    have hlt := ho.lt
    obtain ⟨es, clock, h1, F, hs, hD⟩ := ho
    exact ⟨es, clock, (h.block b hlt (fun e => by rw [e, hg] at h1; cases h1)).trans h1, F, hs, hD⟩
theorem GChg.owns (h : GChg w g w') (hg : w.heap[g]? = some (.cells old T' fr)) {base T e n : Nat} {v : Value} {L : List Value} (ho : w.ownsRow base T e v n L) (hne : T' ≠ T) : w'.ownsRow base T e v n L := by
  refine owns_same ho h.size fun g2 hg2 => ?_
  rcases ho.2 with ⟨e1, _⟩ | ⟨g', cap, cur, e1, _, hh, _⟩
  · rw [e1] at hg2; cases hg2
  · rw [e1] at hg2; cases hg2
    exact (h.blk hg hh hne).trans hh.symm
theorem GChg.elm (h : GChg w g w') (hg : w.heap[g]? = some (.cells old T' fr)) {base be k t n : Nat} {v : Value} {K : List Rw} (hE : Elm w base be k t v n K) (h1 : T' ≠ 201) (h2 : T' ≠ 139) (h3 : T' ≠ 5) : Elm w' base be k t v n K := by
  refine ⟨h.blk hg hE.box h1, ?_, hE.old⟩
  obtain ⟨vs, a, b, o, r⟩ := hE.rows
  refine ⟨vs, a, b, h.owns hg o h2, fun j u hj => ?_⟩
  obtain ⟨x, hk, ⟨q1, m1, c1, e1, l1, o1⟩, ⟨q2, m2, c2, e2, l2, o2⟩⟩ := r j u hj
  exact ⟨x, hk, ⟨q1, m1, c1, e1, l1, h.owns hg o1 h3⟩, ⟨q2, m2, c2, e2, l2, h.owns hg o2 h3⟩⟩
theorem GChg.tkr (h : GChg w g w') (hg : w.heap[g]? = some (.cells old T' fr)) {base gt be L t k D N : Nat} {M v : Value} {C : DataW Unit} {K : List Rw} {st : Nat} (hT : Tkr w base gt be L t k D N M v C K st) (h1 : T' ≠ 201) (h2 : T' ≠ 139) (h3 : T' ≠ 5) (h4 : T' ≠ 126) : Tkr w' base gt be L t k D N M v C K st :=
  ⟨hT.ok, h.blk hg hT.box h4, h.cnt hg hT.cnt, h.elm hg hT.elm h1 h2 h3, hT.red, hT.old⟩
end
theorem TChg.blk {w w' : World} {base gt be L t k D N : Nat} {M v : Value} {C : DataW Unit} {K : List Rw} {st : Nat} (h : TChg w w' gt be v) (hT : Tkr w base gt be L t k D N M v C K st) {b T : Nat} {cs : Array Value} {fr : Nat × Nat} (hb : w.heap[b]? = some (.cells cs T fr)) (h1 : T ≠ 126) (h2 : T ≠ 201) (h3 : 139 ≠ T) : w'.heap[b]? = some (.cells cs T fr) := by
  refine (h.block b (lt_of_block hb) (fun e => ?_) (fun e => ?_) (hT.elm.rows.ne_box hb h3)).trans hb
  · have := hT.box; rw [← e, hb] at this; injection this with this; injection this with _ this _; exact h1 this
  · have := hT.elm.box; rw [← e, hb] at this; injection this with this; injection this with _ this _; exact h2 this
theorem TChg.below {w w' : World} {B base gt be L t k D N : Nat} {M v : Value} {C : DataW Unit} {K : List Rw} {st : Nat} (h : TChg w w' gt be v) (hT : Tkr w base gt be L t k D N M v C K st) (hB : B ≤ base) (hw : B ≤ w.heap.size) : Below B w w' := by
  refine ⟨h.os, h.tape, h.output, h.size, fun i hi => h.block i (by omega) (by have := hT.old; omega) (by have := hT.elm.old; omega) (fun e => ?_)⟩
  have := (hT.elm.rows.lt _ e).1
  omega
end Go.By
namespace Go.Proofs.YtfbmdlfkipipfaaGreatDoor
open Go.RowKit Go.By Go.Maps
theorem Snd.keep {w w' : World} {gs L t k D nx : Nat} {xss : List (List UInt8)} (h : Snd w gs L t k D nx xss) (hb : Below w.heap.size w w') : Snd w' gs L t k D nx xss := by
  obtain ⟨q, c, h1, h2, h3⟩ := h.mem
  exact ⟨h.ok, ⟨q, c, (hb.block _ (lt_of_block h1)).trans h1, h2.keep hb, h3⟩, h.fit⟩
set_option maxRecDepth 100000 in
set_option maxHeartbeats 1000000 in
theorem SExplicit_okF (gs L t k D nx : Nat) (xss : List (List UInt8)) (p : Option Addr) (n c : Nat) (xs : List UInt8) (w : World) (hS : Snd w gs L t k D nx xss) (hnx : nx < 4294967296) (hn : n = k) (h : Sl B8 w p n c xs) (hT : HalfT w) :
    Calls Tryz.prog 56 #[.pointer (some ⟨gs, 0, none⟩), .slice p n c] w fun e w' => (∃ q n c, e = .returned (.tuple #[.slice q n c, .int .i64 0]) ∧ Fresh 5 w.heap.size w' q n c (pktB 0 D nx xs 0 (combS xs xss).1)) ∧ SdRet w gs L t k D xss (pktB 0 D nx xs 0 (combS xs xss).1) (nx + 1) 0 e w' := by
  have hr : Room n := by have := hS.ok.k2; show n ≤ 140737488355328; omega
  have HE := Lib.hid (RExplicit_any p n c xs w h hr)
  have HS := Lib.hid (fun w' q c' (hb : Below w.heap.size w w') (hs : Sl B8 w' q n c' xs) => SSend_okF gs L t k D nx xss 0 q n c' 0 xs w' (hS.keep hb) hnx (by unfold srcC; rw [if_pos rfl, if_pos hn]) hs hr (hT.keep hb))
  clear hS hnx hn h hT hr
  go_enter Tryz.func56, Tryz.ntmps56
  go_wp2_with fail
  refine Calls.mono HE.out ?_
  rintro e w1 ⟨q, c', rfl, hf, hb⟩
  have HB := Lib.hid hb
  have HF := Lib.hid hf
  clear hb hf
  go_wp2_with fail
  refine Calls.mono (HS.out w1 q c' HB.out HF.out.sl) ?_
  rintro e w2 ⟨⟨qo, no, co, rfl, ho⟩, ⟨_, _, _, -, -, hsn, hg⟩, -⟩
  have HO := Lib.hid ho
  have HSn := Lib.hid hsn
  have HG := Lib.hid hg
  clear ho hsn hg
  go_wp2
  go_ret2
  exact ⟨⟨qo, no, co, rfl, HO.out.mono HB.out.size⟩, qo, no, co, rfl, HO.out.sl, HSn.out, ⟨HG.out.os.trans HB.out.os, HG.out.tape.trans HB.out.tape, HG.out.output.trans HB.out.output, Nat.le_trans HB.out.size HG.out.size, fun b hb hne => (HG.out.block b (Nat.lt_of_lt_of_le hb HB.out.size) hne).trans (HB.out.block b hb)⟩⟩
theorem SExplicit_ok (gs L t k D nx : Nat) (xss : List (List UInt8)) (p : Option Addr) (n c : Nat) (xs : List UInt8) (w : World) (hS : Snd w gs L t k D nx xss) (hnx : nx < 4294967296) (hn : n = k) (h : Sl B8 w p n c xs) (hT : HalfT w) :
    Calls Tryz.prog 56 #[.pointer (some ⟨gs, 0, none⟩), .slice p n c] w (SdRet w gs L t k D xss (pktB 0 D nx xs 0 (combS xs xss).1) (nx + 1) 0) :=
  Calls.mono (SExplicit_okF gs L t k D nx xss p n c xs w hS hnx hn h hT) fun _ _ h => h.2
end Go.Proofs.YtfbmdlfkipipfaaGreatDoor
namespace Go.Proofs.YtfbmdlfkipipfaaGreatDoor
open Go.RowKit Go.By Go.Maps
set_option maxRecDepth 100000 in
set_option maxHeartbeats 1000000 in
theorem TRank_any (base gt be L t k D N : Nat) (M v : Value) (C : DataW Unit) (K : List Rw) (st : Nat) (w : World) (h : Tkr w base gt be L t k D N M v C K st) :
    Calls Tryz.prog 18 #[.pointer (some ⟨gt, 0, none⟩)] w fun e w' => e = .returned (.int .i64 (K.length : Nat)) ∧ w = w' := by
  have HE := Lib.hid (Rank_any' base be k t K.length v K w h.elm)
  obtain ⟨c0, c1, c2, c3, c4, c5, c6⟩ := cells_seven h.box
  clear h
  go_enter Tryz.func18, Tryz.ntmps18
  go_wp2_with fail
  refine Calls.mono HE.out ?_
  rintro e w1 ⟨rfl, rfl⟩
  go_wp2
  go_ret
  exact ⟨rfl, rfl⟩
set_option maxRecDepth 100000 in
set_option maxHeartbeats 2000000 in
theorem TObject_doneT (base gt be L t k D N : Nat) (M v : Value) (C : DataW Unit) (K : List Rw) (w : World) (h : Tkr w base gt be L t k D N M v C K 1) (hK : K.length = k) :
    Calls Tryz.prog 35 #[.pointer (some ⟨gt, 0, none⟩)] w (RetLT 5 w (joinS (L : Int) (t : Int) (k : Int) (K.map (fun x : Rw => x.2))).1 (joinS (L : Int) (t : Int) (k : Int) (K.map (fun x : Rw => x.2))).2) := by
  have hk2 := h.ok.k2
  have ht2 := h.ok.t2
  have hR := h.red
  have hel : Elm w base be k t v k K := by have := h.elm; rw [hK] at this; exact this
  have HE := Lib.hid (ESolve_full base be k t v K w hel (fun r hr => by have := (hR.kept.rows r hr).1.2; show _ ≤ _; omega) hk2)
  have HJ : Hid (∀ q c w, Sl2 w q k c (K.map (fun x : Rw => x.2)) → Calls Tryz.prog 91 #[PVal L t k D, .slice q k c] w (RetLT 5 w (joinS (L : Int) (t : Int) (k : Int) (K.map (fun x : Rw => x.2))).1 (joinS (L : Int) (t : Int) (k : Int) (K.map (fun x : Rw => x.2))).2)) := fun q c w hs => Join_anyT (L : Int) (t : Int) (k : Int) (D : Int) q k c _ w hs h.ok.l
  have kt := h.box
  obtain ⟨c0, c1, c2, c3, c4, c5, c6⟩ := cells_seven kt
  clear h hel hR hK
  generalize joinS (L : Int) (t : Int) (k : Int) (K.map (fun x : Rw => x.2)) = J at *
  go_enter Tryz.func35, Tryz.ntmps35
  go_wp2_with fail
  refine Calls.mono HE.out ?_
  rintro e w1 ⟨q, c, rfl, ho, hb⟩
  have kt1 := (hb.block _ (lt_of_block kt)).trans kt
  have HB := Lib.hid hb
  have HO := Lib.hid (ho.sl2)
  clear hb ho kt c0 c1 c2 c3 c4 c5 c6
  obtain ⟨c0, c1, c2, c3, c4, c5, c6⟩ := cells_seven kt1
  go_wp2_with fail
  refine Calls.mono (HJ.out _ _ _ HO.out) ?_
  rintro e w2 ⟨q2, m2, d2, rfl, hs, hn, hb⟩
  have HN := Lib.hid hn
  have HS := Lib.hid hs
  have HB2 := Lib.hid (bl HB.out hb HB.out.size)
  clear hb hs hn
  go_wp2
  go_ret2
  exact ⟨_, _, _, rfl, HS.out, fun a ha => ⟨Nat.le_trans HB.out.size (HN.out a ha).1, (HN.out a ha).2⟩, HB2.out⟩
theorem TObject_done (base gt be L t k D N : Nat) (M v : Value) (C : DataW Unit) (K : List Rw) (w : World) (h : Tkr w base gt be L t k D N M v C K 1) (hK : K.length = k) :
    Calls Tryz.prog 35 #[.pointer (some ⟨gt, 0, none⟩)] w (RetL w (joinS (L : Int) (t : Int) (k : Int) (K.map (fun x : Rw => x.2))).1 (joinS (L : Int) (t : Int) (k : Int) (K.map (fun x : Rw => x.2))).2) :=
  Calls.mono (TObject_doneT base gt be L t k D N M v C K w h hK) fun _ _ ⟨q, m, c, e, h, _, hb⟩ => ⟨q, m, c, e, h, hb⟩
end Go.Proofs.YtfbmdlfkipipfaaGreatDoor
namespace Go.Proofs.YtfbmdlfkipipfaaGreatDoor
open Go.RowKit Go.By
end Go.Proofs.YtfbmdlfkipipfaaGreatDoor
namespace Go.Proofs.YtfbmdlfkipipfaaGreatDoor
open Go.RowKit Go.By
end Go.Proofs.YtfbmdlfkipipfaaGreatDoor
namespace Go.Proofs.YtfbmdlfkipipfaaGreatDoor
open Go.RowKit Go.By
end Go.Proofs.YtfbmdlfkipipfaaGreatDoor
namespace Go.Proofs.YtfbmdlfkipipfaaGreatDoor
open Go.RowKit Go.By Gf
theorem vf_comb : ∀ (r : List UInt8) (R : List (List UInt8)) (m : Nat) (z : List UInt8), (∀ x, x ∈ R → x.length = m) → z.length = m → ∀ j, vf (combF z r R) j = vf z j ^^^ comb r (R.map vf) j
  | [], R, m, z, _, _, j => by simp [combF, comb_nil']
  | c :: cs, [], m, z, _, _, j => by simp [combF, comb_nil]
  | c :: cs, x :: l, m, z, h, hz, j => by
    have e : combF z (c :: cs) (x :: l) = combF (axpy c x z) cs l := rfl
    have hx : x.length = z.length := by rw [h x (by simp), hz]
    have hl : (axpy c x z).length = m := by
      have := combF_len [c] [x] m (fun y hy => by simp at hy; rw [hy]; exact h x (by simp)) z hz
      exact this
    rw [e, vf_comb cs l m _ (fun y hy => h y (by simp [hy])) hl j, vf_axpy hx, List.map_cons, comb_cons, UInt8.xor_assoc]
theorem range_vf (r : List UInt8) : (List.range r.length).map (vf r) = r := by
  apply List.ext_getElem?
  intro i
  by_cases hi : i < r.length
  · rw [List.getElem?_map, List.getElem?_range hi, List.getElem?_eq_getElem hi]
    simp [vf, hi]
  · rw [List.getElem?_eq_none (by simpa using hi), List.getElem?_eq_none (by simpa using hi)]
theorem vf_zeros (m j : Nat) : vf (List.replicate m 0) j = 0 := vf_zero (fun x hx => (List.mem_replicate.1 hx).2) j
theorem vf_mul {w2 : Nat} {R : List (List UInt8)} {r : List UInt8} (h : ∀ x, x ∈ R → x.length = w2) (hl : r.length = R.length) : vf (mulR w2 R r) = mulV R.length (R.map vf) (vf r) := by
  funext j
  unfold mulR mulV
  rw [vf_comb r R w2 _ h (by simp) j, vf_zeros, ← hl, range_vf, UInt8.zero_xor]
end Go.Proofs.YtfbmdlfkipipfaaGreatDoor
namespace Go.Proofs.YtfbmdlfkipipfaaGreatDoor
open Go.RowKit Go.By
end Go.Proofs.YtfbmdlfkipipfaaGreatDoor
namespace Go.Proofs.YtfbmdlfkipipfaaGreatDoor
open Go.RowKit Go.By
end Go.Proofs.YtfbmdlfkipipfaaGreatDoor
namespace Go.Proofs.YtfbmdlfkipipfaaGreatDoor
open Go.RowKit Go.By
end Go.Proofs.YtfbmdlfkipipfaaGreatDoor
namespace Go.Proofs.YtfbmdlfkipipfaaGreatDoor
open Go.RowKit Go.By
end Go.Proofs.YtfbmdlfkipipfaaGreatDoor
namespace Go.Proofs.YtfbmdlfkipipfaaGreatDoor
open Go.RowKit Go.By
end Go.Proofs.YtfbmdlfkipipfaaGreatDoor
namespace Go.Proofs.YtfbmdlfkipipfaaGreatDoor
open Go.RowKit Go.By
end Go.Proofs.YtfbmdlfkipipfaaGreatDoor
namespace Go.Proofs.YtfbmdlfkipipfaaGreatDoor
open Go.RowKit Go.By Gf
end Go.Proofs.YtfbmdlfkipipfaaGreatDoor
namespace Go.Proofs.YtfbmdlfkipipfaaGreatDoor
open Go.RowKit Go.By Gf
end Go.Proofs.YtfbmdlfkipipfaaGreatDoor
namespace Go.Proofs.YtfbmdlfkipipfaaGreatDoor
open Go.RowKit Go.By Gf
/-- the bytes behind the first k are those that the symbols give -/
def ConsV (k : Nat) (B : List V) (v : V) : Prop := ∀ j, v (k + j) = mulV k B v j
theorem mulV_congr {n : Nat} {B : List V} {u v : V} (h : ∀ i, i < n → u i = v i) : mulV n B u = mulV n B v := by
  unfold mulV
  have : (List.range n).map u = (List.range n).map v := List.map_congr_left fun i hi => h i (List.mem_range.1 hi)
  rw [this]
theorem mulV_nought (n : Nat) (B : List V) : mulV n B (fun _ => 0) = fun _ => 0 := lin_zero (mulV_scale n B)
theorem cons_zero (k : Nat) (B : List V) : ConsV k B (fun _ => 0) := fun j => by rw [mulV_nought]
theorem cons_add {k : Nat} {B : List V} {u v : V} (h : ConsV k B u) (g : ConsV k B v) : ConsV k B (fun j => u j ^^^ v j) := fun j => by
  rw [mulV_add]; show u (k + j) ^^^ v (k + j) = _; rw [h j, g j]
theorem cons_scale {k : Nat} {B : List V} {v : V} (x : UInt8) (h : ConsV k B v) : ConsV k B (fun j => gmul x (v j)) := fun j => by
  rw [mulV_scale]; show gmul x (v (k + j)) = _; rw [h j]
theorem cons_comb {k : Nat} {B : List V} : ∀ (c : List UInt8) (A : List V), (∀ a, a ∈ A → ConsV k B a) → ConsV k B (comb c A)
  | [], A, _ => by
    have : comb [] A = fun _ => 0 := by funext j; exact comb_nil' A j
    rw [this]; exact cons_zero k B
  | c :: cs, [], _ => by
    have : comb (c :: cs) [] = fun _ => 0 := by funext j; exact comb_nil _ j
    rw [this]; exact cons_zero k B
  | c :: cs, a :: A, h => by
    have : comb (c :: cs) (a :: A) = fun j => (fun j => gmul c (a j)) j ^^^ comb cs A j := by funext j; exact comb_cons c cs a A j
    rw [this]
    exact cons_add (cons_scale c (h a (by simp))) (cons_comb cs A fun b hb => h b (by simp [hb]))
theorem cons_sp {k : Nat} {B A : List V} {v : V} (h : ∀ a, a ∈ A → ConsV k B a) (hs : Sp A v) : ConsV k B v := by
  obtain ⟨c, _, rfl⟩ := hs; exact cons_comb c A h
/-- a row and what the symbols give of it -/
def rowC (n : Nat) (FX : List (List UInt8)) (w : List UInt8) : Rw := (w, mulR n FX w)
theorem rowC_fit {k n : Nat} {FX : List (List UInt8)} {w : List UInt8} (hF : ∀ x, x ∈ FX → x.length = n) (hw : w.length = k) : Fit k n (rowC n FX w) := ⟨hw, mulR_len hF w⟩
theorem vR_right {k n j : Nat} {r : Rw} (hf : Fit k n r) : vR r (k + j) = vf r.2 j := by
  unfold vR vf cat
  rw [List.getD_eq_getElem?_getD, List.getElem?_append_right (by rw [hf.1]; omega), hf.1, Nat.add_sub_cancel_left, List.getD_eq_getElem?_getD]
theorem vR_left {k n j : Nat} {r : Rw} (hf : Fit k n r) (hj : j < k) : vR r j = vf r.1 j := vf_app_left (by rw [hf.1]; exact hj)
theorem rowC_cons {k n : Nat} {FX : List (List UInt8)} {w : List UInt8} (hF : ∀ x, x ∈ FX → x.length = n) (hk : FX.length = k) (hw : w.length = k) : ConsV k (FX.map vf) (vR (rowC n FX w)) := fun j => by
  have hf := rowC_fit hF hw
  rw [vR_right hf]
  show vf (mulR n FX w) j = _
  rw [vf_mul hF (by rw [hw, hk]), hk]
  exact congrFun (mulV_congr fun i hi => (vR_left hf hi).symm) j
/-- what is left of a row that holds: it holds; without a first byte nothing is left -/
theorem rest_cons {k n : Nat} {B : List V} {K : List Rw} {x : Rw} (h : KeptS k n K) (hx : Fit k n x) (hK : ∀ r, r ∈ K → ConsV k B (vR r)) (hc : ConsV k B (vR x)) : ConsV k B (vR (restF K x)) := by
  have rK : vR (restF K x) = red (tri K) (vR x) := rest_red h.rows hx
  have s := red_span (tri K) (vR x)
  rw [tri_fst] at s
  have e : vR (restF K x) = fun j => vR x j ^^^ (vR x j ^^^ red (tri K) (vR x) j) := by
    funext j; rw [rK, ← xor_assoc, xor_self, zero_xor]
  rw [e]
  exact cons_add hc (cons_sp (fun a ha => by obtain ⟨r, hr, rfl⟩ := List.mem_map.1 ha; exact hK r hr) s)
theorem rest_nought {k n : Nat} {B : List V} {K : List Rw} {x : Rw} (h : KeptS k n K) (hx : Fit k n x) (hK : ∀ r, r ∈ K → ConsV k B (vR r)) (hc : ConsV k B (vR x)) (hl : leadS (restF K x).1 < 0) : (∀ j, vR (restF K x) j = 0) ∧ Sp (K.map vR) (vR x) := by
  have hf := hx.rest (fun r hr => (h.rows r hr).1)
  have h0 := vf_zero (leadS_neg hl)
  have hz : ∀ j, vR (restF K x) j = 0 := fun j => by
    by_cases hj : j < k
    · rw [vR_left hf hj]; exact h0 j
    · have h1 := rest_cons h hx hK hc (j - k)
      rw [show k + (j - k) = j by omega] at h1
      rw [h1, mulV_congr (v := fun _ => 0) (fun i hi => by rw [vR_left hf hi]; exact h0 i), mulV_nought]
  refine ⟨hz, ?_⟩
  have rK : vR (restF K x) = red (tri K) (vR x) := rest_red h.rows hx
  have s := red_span (tri K) (vR x)
  rw [tri_fst] at s
  have e : vR x = fun j => vR x j ^^^ red (tri K) (vR x) j := by
    funext j; rw [← rK, hz j, xor_zero]
  rw [e]; exact s
/-- the rows kept span those that came -/
structure Spn (k n : Nat) (B : List V) (X K0 : List Rw) : Prop where
  kept : KeptS k n K0
  fit : ∀ x, x ∈ X → Fit k n x
  cons : ∀ x, x ∈ X → ConsV k B (vR x)
  le : ∀ r, r ∈ K0 → Sp (X.map vR) (vR r)
  ge : ∀ x, x ∈ X → Sp (K0.map vR) (vR x)
theorem Spn.nil (k n : Nat) (B : List V) : Spn k n B [] [] := ⟨KeptS.nil k n, fun x h => by simp at h, fun x h => by simp at h, fun x h => by simp at h, fun x h => by simp at h⟩
theorem Spn.consK {k n : Nat} {B : List V} {X K0 : List Rw} (h : Spn k n B X K0) : ∀ r, r ∈ K0 → ConsV k B (vR r) := fun r hr =>
  cons_sp (fun a ha => by obtain ⟨x, hx, rfl⟩ := List.mem_map.1 ha; exact h.cons x hx) (h.le r hr)
theorem Spn.snoc {k n : Nat} {B : List V} {X K0 : List Rw} {x : Rw} (h : Spn k n B X K0) (hx : Fit k n x) (hc : ConsV k B (vR x)) : Spn k n B (X ++ [x]) (insF K0 x) := by
  have memX : ∀ a, a ∈ X.map vR → a ∈ (X ++ [x]).map vR := fun a ha => by rw [List.map_append]; exact List.mem_append.2 (.inl ha)
  have lastX : vR x ∈ (X ++ [x]).map vR := by simp
  refine ⟨h.kept.step hx, fun y hy => ?_, fun y hy => ?_, fun r hr => ?_, fun y hy => ?_⟩
  · rcases List.mem_append.1 hy with hy | hy
    · exact h.fit y hy
    · rw [List.mem_singleton] at hy; rw [hy]; exact hx
  · rcases List.mem_append.1 hy with hy | hy
    · exact h.cons y hy
    · rw [List.mem_singleton] at hy; rw [hy]; exact hc
  · by_cases hl : leadS (restF K0 x).1 < 0
    · have e : insF K0 x = K0 := by unfold insF; rw [norm_leadS, if_pos hl]
      rw [e] at hr
      exact Sp.sub memX (h.le r hr)
    · refine Sp.trans (fun a ha => ?_) ((insF_span h.kept hx hl).1 r hr)
      rcases List.mem_cons.1 ha with rfl | ha
      · exact Sp.mem lastX
      · obtain ⟨q, hq, rfl⟩ := List.mem_map.1 ha
        exact Sp.sub memX (h.le q hq)
  · by_cases hl : leadS (restF K0 x).1 < 0
    · have e : insF K0 x = K0 := by unfold insF; rw [norm_leadS, if_pos hl]
      rw [e]
      rcases List.mem_append.1 hy with hy | hy
      · exact h.ge y hy
      · rw [List.mem_singleton] at hy; rw [hy]; exact (rest_nought h.kept hx h.consK hc hl).2
    · obtain ⟨i1, i2, i3⟩ := insF_span h.kept hx hl
      rcases List.mem_append.1 hy with hy | hy
      · refine Sp.trans (fun a ha => ?_) (h.ge y hy)
        obtain ⟨q, hq, rfl⟩ := List.mem_map.1 ha
        exact i2 q hq
      · rw [List.mem_singleton] at hy; rw [hy]; exact i3
theorem Spn.all {k n : Nat} {B : List V} : ∀ (Y : List Rw) {X K0 : List Rw}, Spn k n B X K0 → (∀ x, x ∈ Y → Fit k n x ∧ ConsV k B (vR x)) → Spn k n B (X ++ Y) (Y.foldl insF K0)
  | [], X, K0, h, _ => by rw [List.append_nil]; exact h
  | y :: Y, X, K0, h, hy => by
    have := Spn.all Y (h.snoc (hy y (by simp)).1 (hy y (by simp)).2) (fun x hx => hy x (by simp [hx]))
    rw [List.append_assoc] at this
    exact this
theorem spn_kD {k n : Nat} {B : List V} {Y : List Rw} (h : ∀ x, x ∈ Y → Fit k n x ∧ ConsV k B (vR x)) : Spn k n B Y (kD Y) := by
  have := Spn.all Y (Spn.nil k n B) h
  rwa [List.nil_append] at this
/-- a system of all that came, also of what added nothing -/
theorem Sys.putX {k n : Nat} {D K : List Rw} {x : Rw} (h : Sys k n (kD D) K) (hx : Fit k n x) : Sys k n (kD (D ++ [x])) (Go.Proofs.YtfbmdlfkipipfaaGreatDoor.putK K x) := by
  rw [kD_snoc]
  unfold Go.Proofs.YtfbmdlfkipipfaaGreatDoor.putK
  by_cases hn : leadS (restF K x).1 < 0
  · have e : insF (kD D) x = kD D := by unfold insF; rw [norm_leadS, h.rest hx, if_pos hn]
    rw [if_pos hn, e]; exact h
  · rw [if_neg hn]; exact h.put hx hn
/-- equations that hold never clash -/
theorem sys_code {k n : Nat} {B : List V} {X K : List Rw} {x : Rw} (h : Sys k n (kD X) K) (hX : ∀ y, y ∈ X → Fit k n y ∧ ConsV k B (vR y)) (hx : Fit k n x) (hc : ConsV k B (vR x)) (hl : leadS (restF K x).1 < 0) : zeroS (restF K x).2 = true := by
  have s := spn_kD hX
  have e := h.rest hx
  rw [← e] at hl ⊢
  have hz := (rest_nought h.kept hx s.consK hc hl).1
  have hf := hx.rest (fun r hr => (h.kept.rows r hr).1)
  unfold zeroS
  rw [List.all_eq_true]
  intro b hb
  obtain ⟨j, hj, rfl⟩ := List.getElem_of_mem hb
  have h1 := hz (k + j)
  rw [vR_right hf] at h1
  unfold vf at h1
  rw [List.getD_eq_getElem?_getD, List.getElem?_eq_getElem hj] at h1
  simpa using h1
/-- rows without data -/
def prR (r : Rw) : Rw := (r.1, [])
theorem rest_pr : ∀ (K : List Rw) (x : Rw), restF (K.map prR) (prR x) = prR (restF K x)
  | [], _ => rfl
  | a :: K, x => by
    have h := rest_pr K (lessF x (atS x.1 (leadS a.1)) a)
    unfold restF at h ⊢
    rw [List.map_cons, List.foldl_cons, List.foldl_cons, ← h]
    rfl
theorem norm_pr (r : Rw) : normS (prR r) = prR (normS r) := by
  unfold normS prR
  simp only
  split <;> simp
theorem ins_pr (K : List Rw) (x : Rw) : insF (K.map prR) (prR x) = (insF K x).map prR := by
  unfold insF
  rw [rest_pr, norm_pr]
  show (if leadS (normS (restF K x)).1 < 0 then _ else _) = _
  by_cases hl : leadS (normS (restF K x)).1 < 0
  · rw [if_pos hl, if_pos hl]
  · rw [if_neg hl, if_neg hl, List.map_append, List.map_cons, List.takeWhile_map, List.dropWhile_map]
    rfl
theorem kD_pr : ∀ (X : List Rw) (K : List Rw), (X.map (fun x : Rw => x.1)).foldl (fun K r => insF K (r, [])) (K.map prR) = (X.foldl insF K).map prR
  | [], _ => rfl
  | x :: X, K => by
    rw [List.map_cons, List.foldl_cons, List.foldl_cons, ← kD_pr X (insF K x), ← ins_pr]
    rfl
theorem sys_rank {k n : Nat} {X K : List Rw} (h : Sys k n (kD X) K) : K.length = (iK (X.map (fun x : Rw => x.1))).length := by
  have h1 := kD_pr X []
  unfold iK
  rw [show ([] : List Rw) = ([] : List Rw).map prR from rfl, h1, List.length_map, h.same]
  unfold redL kD
  rw [List.length_map, List.length_range]
/-- a full system's data are the symbols -/
theorem sys_full {k n : Nat} {FX : List (List UInt8)} {X K : List Rw} (h : Sys k n (kD X) K) (hX : ∀ y, y ∈ X → Fit k n y ∧ ConsV k (FX.map vf) (vR y)) (hF : ∀ x, x ∈ FX → x.length = n) (hk : FX.length = k) (hl : K.length = k) {i : Nat} {r : Rw} {f : List UInt8} (hr : K[i]? = some r) (hf : FX[i]? = some f) : r.2 = f := by
  have hu := full_units h.red hl hr
  obtain ⟨hfit, -⟩ := h.red.kept.rows r (List.mem_of_getElem? hr)
  have s := spn_kD hX
  obtain ⟨-, r2, -, -⟩ := redL_red h.kept
  rw [← h.same] at r2
  have hc : ConsV k (FX.map vf) (vR r) := cons_sp (fun a ha => by obtain ⟨q, hq, rfl⟩ := List.mem_map.1 ha; exact s.consK q hq) (r2 r (List.mem_of_getElem? hr))
  have hik : i < k := by have := (List.getElem?_eq_some_iff.1 hr).1; omega
  refine vf_inj (by rw [hfit.2, hF f (List.mem_of_getElem? hf)]) fun j hj => ?_
  have h1 := hc j
  rw [vR_right hfit] at h1
  rw [h1, mulV_congr (v := unit i) (fun a ha => ?_), mulV_unit (b := vf f) (by rw [List.length_map, hk]) (by rw [List.getElem?_map, hf]; rfl)]
  rw [vR_left hfit ha, hu]
  unfold vf unit
  rw [List.getD_eq_getElem?_getD, List.getElem?_set]
  by_cases e : i = a
  · subst e; rw [if_pos rfl, if_pos (by simpa using hik), if_pos rfl]; rfl
  · rw [if_neg e, if_neg e, List.getElem?_replicate, if_pos ha]; rfl
end Go.Proofs.YtfbmdlfkipipfaaGreatDoor
namespace Go.By
theorem get8_put8 {s : Nat} (h : s < 18446744073709551616) : get8 (put8 s) = s := by
  simp only [get8, put8, List.range, List.range.loop, List.map, List.foldl, put8At, UInt8.toNat_ofNat']
  simp only [Nat.reduceMul, Nat.reduceSub, Nat.reducePow, Nat.zero_mul, Nat.zero_add]
  omega
end Go.By
namespace Go.Proofs.YtfbmdlfkipipfaaGreatDoor
open Go.RowKit Go.By Gf
theorem putF_len (K : List Rw) (x : Rw) : (putF K x).length = K.length + 1 := by
  have h := congrArg List.length (List.takeWhile_append_dropWhile (p := fun r => decide (leadS r.1 ≤ leadS (normS (restF K x)).1)) (l := K.map (clrF (normS (restF K x)))))
  rw [List.length_append, List.length_map] at h
  unfold putF putAt
  rw [List.length_append, List.length_cons]
  omega
/-- what came of one object, and the rows -/
structure OneObj (k t : Nat) (FX : List (List UInt8)) (X K : List Rw) : Prop where
  sys : Sys k t (kD X) K
  fit : ∀ y, y ∈ X → Fit k t y ∧ ConsV k (FX.map vf) (vR y)
theorem OneObj.nil (k t : Nat) (FX : List (List UInt8)) : OneObj k t FX [] [] := ⟨Sys.nil k t, fun y h => by simp at h⟩
theorem OneObj.put {k t : Nat} {FX : List (List UInt8)} {X K : List Rw} {x : Rw} (h : OneObj k t FX X K) (hx : Fit k t x) (hc : ConsV k (FX.map vf) (vR x)) : OneObj k t FX (X ++ [x]) (putK K x) :=
  ⟨h.sys.putX hx, fun y hy => by
    rcases List.mem_append.1 hy with h1 | h1
    · exact h.fit y h1
    · rw [List.mem_singleton.1 h1]; exact ⟨hx, hc⟩⟩
theorem OneObj.red {k t : Nat} {FX : List (List UInt8)} {X K : List Rw} (h : OneObj k t FX X K) : Red k t K := h.sys.red
theorem OneObj.code {k t : Nat} {FX : List (List UInt8)} {X K : List Rw} {x : Rw} (h : OneObj k t FX X K) (hx : Fit k t x) (hc : ConsV k (FX.map vf) (vR x)) : codeF K x ≠ 2 := by
  unfold codeF
  by_cases hl : leadS (restF K x).1 < 0
  · rw [if_pos hl, if_pos (sys_code h.sys h.fit hx hc hl)]; decide
  · rw [if_neg hl]; decide
theorem OneObj.full {k t : Nat} {FX : List (List UInt8)} {X K : List Rw} {x : Rw} (h : OneObj k t FX X K) (hx : Fit k t x) (hl : K.length = k) : putK K x = K := by
  unfold putK
  by_cases hn : leadS (restF K x).1 < 0
  · rw [if_pos hn]
  · exfalso
    have := Red.le (putF_red h.red hx hn).1
    rw [putF_len] at this
    omega
theorem OneObj.rank {k t : Nat} {FX : List (List UInt8)} {X K : List Rw} (h : OneObj k t FX X K) : K.length = (iK (X.map (fun x : Rw => x.1))).length := sys_rank h.sys
theorem OneObj.data {k t : Nat} {FX : List (List UInt8)} {X K : List Rw} (h : OneObj k t FX X K) (hF : ∀ x, x ∈ FX → x.length = t) (hk : FX.length = k) (hl : K.length = k) : K.map (fun x : Rw => x.2) = FX := by
  refine List.ext_getElem? fun i => ?_
  rw [List.getElem?_map]
  by_cases hi : i < k
  · have e1 : K[i]? = some K[i] := List.getElem?_eq_getElem (by omega)
    have e2 : FX[i]? = some FX[i] := List.getElem?_eq_getElem (by omega)
    rw [e1, e2, ← sys_full h.sys h.fit hF hk hl e1 e2]; rfl
  · rw [List.getElem?_eq_none (by omega), List.getElem?_eq_none (by omega)]; rfl
/-- the status of a taker to which packets of one object came -/
def stF (K : List Rw) (k : Nat) : Nat := if K.length = k then 1 else 0
theorem OneObj.take {k t D : Nat} {FX : List (List UInt8)} {X K : List Rw} {xs : List UInt8} (h : OneObj k t FX X K) (hx : Fit k t (eqX k t xs)) (hc : ConsV k (FX.map vf) (vR (eqX k t xs))) (hr : readC k t D xs = 0) :
    takeK k t D K (stF K k) xs = putK K (eqX k t xs) ∧ takeS k t D K (stF K k) xs = stF (putK K (eqX k t xs)) k := by
  unfold takeK takeS
  by_cases hl : K.length = k
  · have e : stF K k = 1 := if_pos hl
    rw [e, if_neg (by simp), if_neg (by simp), h.full hx hl, e]; exact ⟨rfl, rfl⟩
  · have e : stF K k = 0 := if_neg hl
    rw [e, if_pos ⟨hr, rfl⟩, if_pos ⟨hr, rfl⟩]
    refine ⟨rfl, ?_⟩
    unfold nextS stF
    rw [if_neg (h.code hx hc)]
theorem comb_mulR {k t : Nat} {FX : List (List UInt8)} {v : List UInt8} (hF : ∀ x, x ∈ FX → x.length = t) (hk : FX.length = k) (k1 : 1 ≤ k) (hv : v.length = k) : combS v FX = (mulR t FX v, 0) := by
  rw [comb_ok hF (hv.trans hk.symm), if_neg (fun e => by rw [e] at hk; simp at hk; omega)]
theorem vecS_back {m : UInt8} {xs : List UInt8} {s k : Nat} (hs : s < 18446744073709551616) : vecS m (rdX m (srcB m xs s)) (rdS m (srcB m xs s)) k = vecS m xs s k := by
  unfold vecS rdX rdS srcB
  by_cases h0 : m = 0
  · rw [if_pos h0, if_pos h0, if_pos h0, if_pos h0]
  · rw [if_neg h0, if_neg h0, if_neg h0, if_neg h0, get8_put8 hs]
/-- what a sender of the symbols sends by a source -/
theorem sent_eq {k t D n s : Nat} {m : UInt8} {xs : List UInt8} {FX : List (List UInt8)} (hF : ∀ x, x ∈ FX → x.length = t) (hk : FX.length = k) (k1 : 1 ≤ k) (hm : srcC m xs.length k = 0) (hs : s < 18446744073709551616) (hD : D < 4294967296) (hn : n < 4294967296) :
    readC k t D (pktB m D n xs s (combS (vecS m xs s k) FX).1) = 0 ∧ eqX k t (pktB m D n xs s (combS (vecS m xs s k) FX).1) = rowC t FX (vecS m xs s k) := by
  obtain ⟨hm0, hx⟩ := srcC_zero hm
  have hv := vecS_len (s := s) hm rfl
  have hc := comb_mulR hF hk k1 hv
  have hy : (combS (vecS m xs s k) FX).1.length = t := by rw [hc]; exact mulR_len hF _
  obtain ⟨h1, h2, h3, h4, h5, h6⟩ := read_write (m := m) (D := D) (n := n) (s := s) (k := k) (t := t) (xs := xs) (ys := (combS (vecS m xs s k) FX).1) hm0 hx hy hD hn
  refine ⟨h1, ?_⟩
  unfold eqX
  rw [h2, h4, h5, h6, vecS_back hs, hc]; rfl
theorem rowC_ok {k t : Nat} {FX : List (List UInt8)} {v : List UInt8} (hF : ∀ x, x ∈ FX → x.length = t) (hk : FX.length = k) (hv : v.length = k) : Fit k t (rowC t FX v) ∧ ConsV k (FX.map vf) (vR (rowC t FX v)) := ⟨rowC_fit hF hv, rowC_cons hF hk hv⟩
theorem pieces_len {o : List UInt8} {k t : Nat} : (∀ x, x ∈ (List.range k).map (pieceS o t) → x.length = t) ∧ ((List.range k).map (pieceS o t)).length = k :=
  ⟨fun x hx => by obtain ⟨i, _, rfl⟩ := List.mem_map.1 hx; exact pieceS_len o t i, by simp⟩
theorem OneObj.rows {k t : Nat} {FX : List (List UInt8)} {X K : List Rw} (h : OneObj k t FX X K) : ∀ r, r ∈ K → Fit k t r ∧ ConsV k (FX.map vf) (vR r) := fun r hr => by
  have s := spn_kD h.fit
  obtain ⟨-, r2, -, -⟩ := redL_red h.sys.kept
  rw [← h.sys.same] at r2
  exact ⟨(h.red.kept.rows r hr).1, cons_sp (fun a ha => by obtain ⟨q, hq, rfl⟩ := List.mem_map.1 ha; exact s.consK q hq) (r2 r hr)⟩
end Go.Proofs.YtfbmdlfkipipfaaGreatDoor
namespace Go.By
open Go.RowKit Go.Maps Go.Proofs.YtfbmdlfkipipfaaGreatDoor
section
variable {w w' : World} {base gt be L t k D N : Nat} {M v : Value} {C : DataW Unit} {K : List Rw} {st : Nat}
theorem TChg.owns (h : TChg w w' gt be v) (hT : Tkr w base gt be L t k D N M v C K st) {b2 T e n : Nat} {v2 : Value} {ys : List Value} (ho : w.ownsRow b2 T e v2 n ys) (h1 : T ≠ 126) (h2 : T ≠ 201) (h3 : ∀ g, v2.ownBlock = some g → v.ownBlock ≠ some g) : w'.ownsRow b2 T e v2 n ys := by
  refine owns_same ho h.size fun g2 hg2 => ?_
  rcases ho.2 with ⟨e1, _⟩ | ⟨g', cap, cur, e1, _, hh, _⟩
  · rw [e1] at hg2; cases hg2
  · have h4 := h3 g2 hg2
    rw [e1] at hg2; cases hg2
    refine h.block _ (lt_of_block hh) (fun e => ?_) (fun e => ?_) h4
    · have := hT.box; rw [← e, hh] at this; injection this with this; injection this with _ this _; exact h1 this
    · have := hT.elm.box; rw [← e, hh] at this; injection this with this; injection this with _ this _; exact h2 this
theorem tkr_owns_ne {b2 T e n : Nat} {v2 : Value} {ys : List Value} (hT : Tkr w base gt be L t k D N M v C K st) (ho : w.ownsRow b2 T e v2 n ys) (h : 139 ≠ T) : ∀ g, v2.ownBlock = some g → v.ownBlock ≠ some g := by
  intro g hg
  rcases ho.2 with ⟨e1, _⟩ | ⟨g', cap, cur, e1, _, hh, _⟩
  · rw [e1] at hg; cases hg
  · rw [e1] at hg; cases hg
    exact hT.elm.rows.ne_box hh h
theorem TChg.bw (h : TChg w w' gt be v) (hT : Tkr w base gt be L t k D N M v C K st) {b : Nat} {u : Value} {xs : List UInt8} (hu : Bw 5 w b u xs) : Bw 5 w' b u xs := by
  obtain ⟨q, m, c, e, l, o⟩ := hu
  exact ⟨q, m, c, e, l, h.owns hT o (by decide) (by decide) (tkr_owns_ne hT o (by decide))⟩
theorem TChg.rwl (h : TChg w w' gt be v) (hT : Tkr w base gt be L t k D N M v C K st) {b2 n2 : Nat} {v2 : Value} {K2 : List Rw} (h2 : RwL 139 5 w b2 v2 n2 K2) (hne : ∀ g, v2.ownBlock = some g → v.ownBlock ≠ some g) : RwL 139 5 w' b2 v2 n2 K2 := by
  obtain ⟨vs, a, b, o, r⟩ := h2
  exact ⟨vs, a, b, h.owns hT o (by decide) (by decide) hne, fun j u hj => by obtain ⟨x, hk, g1, g2⟩ := r j u hj; exact ⟨x, hk, h.bw hT g1, h.bw hT g2⟩⟩
theorem TChg.cnt (h : TChg w w' gt be v) (hT : Tkr w base gt be L t k D N M v C K st) {M2 : Value} {N2 : Nat} {C2 : DataW Unit} (hc : CntM w M2 N2 C2) : CntM w' M2 N2 C2 := by
  refine ⟨?_, hc.small⟩
  rcases hc.at_ with h1 | ⟨b, e, ho⟩
  · exact .inl h1
  · refine .inr ⟨b, e, ?_⟩
    have hlt := ho.lt
    obtain ⟨es, clock, h1, F, hs, hD⟩ := ho
    refine ⟨es, clock, (h.block b hlt (fun e => ?_) (fun e => ?_) (fun e => ?_)).trans h1, F, hs, hD⟩
    · have := hT.box; rw [← e, h1] at this; cases this
    · have := hT.elm.box; rw [← e, h1] at this; cases this
    · obtain ⟨vs, _, _, o, _⟩ := hT.elm.rows
      rcases o.2 with ⟨e1, _⟩ | ⟨g', cap, cur, e1, _, hh, _⟩
      · rw [e1] at e; cases e
      · rw [e1] at e; cases e
        rw [h1] at hh; cases hh
end
theorem sl_gchg {w w' : World} {q : Option Addr} {n c g T : Nat} {ys : List UInt8} {cs : Array Value} {fr : Nat × Nat} (h : Sl B8 w q n c ys) (hg : w.heap[g]? = some (.cells cs T fr)) (hno : ∀ (j : Nat) (x : UInt8), cs[j]? ≠ some (B8 x)) (hc : GChg w g w') : Sl B8 w' q n c ys :=
  ⟨h.len, h.le, h.max, h.nil, fun j hj => by
    obtain ⟨b, o, e, hcl⟩ := h.rs j hj
    refine ⟨b, o, e, ?_⟩
    have hne : b ≠ g := fun e1 => by
      rw [e1, cell_of_row _ _ (o + j) _ _ _ hg] at hcl
      exact hno _ _ hcl
    exact (World.cell?_of_block (a := ⟨b, o + j, none⟩) (hc.block b (lt_of_cell hcl) hne)).trans hcl⟩
theorem sl2_gchg {w w' : World} {q : Option Addr} {n c g T : Nat} {yss : List (List UInt8)} {cs : Array Value} {fr : Nat × Nat} (h : Sl2 w q n c yss) (hq : ∀ a, q = some a → a.block ≠ g) (hg : w.heap[g]? = some (.cells cs T fr)) (hno : ∀ (j : Nat) (x : UInt8), cs[j]? ≠ some (B8 x)) (hc : GChg w g w') : Sl2 w' q n c yss :=
  ⟨h.len, h.le, h.max, h.nil, fun j ys hj => by
    obtain ⟨b, o, q', c', e, hcl, hs⟩ := h.rs j ys hj
    exact ⟨b, o, q', c', e, (World.cell?_of_block (a := ⟨b, o + j, none⟩) (hc.block b (lt_of_cell hcl) (hq _ e))).trans hcl, sl_gchg hs hg hno hc⟩⟩
theorem GChg.trans {w a b : World} {g : Nat} (h : GChg w g a) (h2 : GChg a g b) : GChg w g b :=
  ⟨h2.os.trans h.os, h2.tape.trans h.tape, h2.output.trans h.output, Nat.le_trans h.size h2.size, fun i hi hg => (h2.block i (Nat.lt_of_lt_of_le hi h.size) hg).trans (h.block i hi hg)⟩
theorem GChg.then {w a b : World} {g B : Nat} (h : GChg w g a) (h2 : Below B a b) (hB : w.heap.size ≤ B) : GChg w g b :=
  ⟨h2.os.trans h.os, h2.tape.trans h.tape, h2.output.trans h.output, Nat.le_trans h.size h2.size, fun i hi hg => (h2.block i (Nat.lt_of_lt_of_le hi hB)).trans (h.block i hi hg)⟩
end Go.By
namespace Go.Proofs.YtfbmdlfkipipfaaGreatDoor
open Go.RowKit Go.By Go.Maps
/-- a sender, seen from the world in which it was made -/
structure SndO (w0 w : World) (gs L t k D nx : Nat) (xss : List (List UInt8)) : Prop where
  ok : POK L t k D
  mem : ∃ q c n0, w0.heap[gs]? = some (.cells #[.int .i64 (L : Nat), .int .i64 (t : Nat), .int .i64 (k : Nat), .int .u32 (D : Nat), .slice q k c, .int .u64 (n0 : Nat)] 153 (0, 0)) ∧ w.heap[gs]? = some (.cells #[.int .i64 (L : Nat), .int .i64 (t : Nat), .int .i64 (k : Nat), .int .u32 (D : Nat), .slice q k c, .int .u64 (nx : Nat)] 153 (0, 0)) ∧ Sl2 w0 q k c xss ∧ ∀ a, q = some a → a.block ≠ gs
  fit : ∀ xs, xs ∈ xss → xs.length = t
  chg : GChg w0 gs w
theorem SndO.start {w : World} {gs L t k D nx : Nat} {xss : List (List UInt8)} (h : Snd w gs L t k D nx xss) : SndO w w gs L t k D nx xss := by
  obtain ⟨q, c, h1, h2, h3⟩ := h.mem
  exact ⟨h.ok, ⟨q, c, nx, h1, h1, h2, h3⟩, h.fit, ⟨rfl, rfl, rfl, Nat.le_refl _, fun _ _ _ => rfl⟩⟩
theorem SndO.snd {w0 w : World} {gs L t k D nx : Nat} {xss : List (List UInt8)} (h : SndO w0 w gs L t k D nx xss) : Snd w gs L t k D nx xss := by
  obtain ⟨q, c, n0, h1, h2, h3, h4⟩ := h.mem
  exact ⟨h.ok, ⟨q, c, h2, sl2_gchg h3 h4 h1 noByte6 h.chg, h4⟩, h.fit⟩
theorem SndO.lt {w0 w : World} {gs L t k D nx : Nat} {xss : List (List UInt8)} (h : SndO w0 w gs L t k D nx xss) : gs < w0.heap.size := by
  obtain ⟨q, c, n0, h1, h2, h3, h4⟩ := h.mem
  exact lt_of_block h1
theorem SndO.keep {w0 w w' : World} {gs L t k D nx B : Nat} {xss : List (List UInt8)} (h : SndO w0 w gs L t k D nx xss) (hb : Below B w w') (hB : w0.heap.size ≤ B) : SndO w0 w' gs L t k D nx xss := by
  have hl := h.lt
  obtain ⟨q, c, n0, h1, h2, h3, h4⟩ := h.mem
  exact ⟨h.ok, ⟨q, c, n0, h1, (hb.block _ (Nat.lt_of_lt_of_le hl hB)).trans h2, h3, h4⟩, h.fit, h.chg.then hb hB⟩
theorem SndO.sent {w0 w w' : World} {gs L t k D nx nx' : Nat} {xss : List (List UInt8)} {ys : List UInt8} {code : Int} {e : Ending} (h : SndO w0 w gs L t k D nx xss) (hs : SdRetQ w gs L t k D xss ys nx nx' code e w') : SndO w0 w' gs L t k D nx' xss := by
  obtain ⟨q, c, n0, h1, h2, h3, h4⟩ := h.mem
  obtain ⟨⟨_, _, _, _, _, _, hg⟩, hq⟩ := hs
  exact ⟨h.ok, ⟨q, c, n0, h1, hq q c h2, h3, h4⟩, h.fit, h.chg.trans hg⟩
end Go.Proofs.YtfbmdlfkipipfaaGreatDoor
namespace Go.Proofs.YtfbmdlfkipipfaaGreatDoor
open Go.RowKit Go.By Go.Maps
end Go.Proofs.YtfbmdlfkipipfaaGreatDoor
namespace Go.By
open Go.RowKit
section
variable {P : Program} {ops : Array Oper} {Q : Exit → Act → World → Prop}
end
end Go.By
namespace Go.By
open Go.RowKit
theorem Hdr.keep {T base i : Nat} {w1 w w' : World} {v : Value} {xss : List (List UInt8)} (h : Hdr T w1 base w v i xss) (hb : Below w.heap.size w w') : Hdr T w1 base w' v i xss := by
  obtain ⟨vs, o, hl, hr⟩ := h
  exact ⟨vs, owns_keepv o hb, hl, hr⟩
section
variable {T : Nat} {wz W w w' : World} {va vb : Value} {n i4 i9 i : Nat} {A B : List (List UInt8)} {dn : Nat → Bool}
end
end Go.By
namespace Go.Proofs.YtfbmdlfkipipfaaGreatDoor
open Go.RowKit Go.By Gf Go.Maps
end Go.Proofs.YtfbmdlfkipipfaaGreatDoor
namespace Go.By
open Go.RowKit Go.Maps Go.Proofs.YtfbmdlfkipipfaaGreatDoor
theorem fresh_same {T : TypeId} {B : Nat} {w w' : World} {q : Option Addr} {n c : Nat} {xs : List UInt8} (h : Fresh T B w q n c xs) (hp : ∀ (b : Nat) (cs : Array Value) (fr : Nat × Nat), w.heap[b]? = some (.cells cs T fr) → w'.heap[b]? = w.heap[b]?) : Fresh T B w' q n c xs := by
  have hd : ∀ a, q = some a → w'.heap[a.block]? = w.heap[a.block]? := fun a ha => by
    obtain ⟨cs, fr, e⟩ := h.ty a ha; exact hp _ cs fr e
  refine ⟨⟨h.sl.len, h.sl.le, h.sl.max, h.sl.nil, fun i hi => ?_⟩, h.new, fun a ha => ?_⟩
  · obtain ⟨b, o, e, hc⟩ := h.sl.rs i hi
    exact ⟨b, o, e, (World.cell?_of_block (a := ⟨b, o + i, none⟩) (show w'.heap[b]? = w.heap[b]? from hd ⟨b, o, none⟩ e)).trans hc⟩
  · obtain ⟨cs, fr, e⟩ := h.ty a ha
    exact ⟨cs, fr, (hd a ha).trans e⟩
theorem GChg.same {w w' : World} {g T' : Nat} {old : Array Value} {fr : Nat × Nat} (h : GChg w g w') (hg : w.heap[g]? = some (.cells old T' fr)) {T : TypeId} (hne : T' ≠ T) : ∀ (b : Nat) (cs : Array Value) (fr : Nat × Nat), w.heap[b]? = some (.cells cs T fr) → w'.heap[b]? = w.heap[b]? := fun b cs fr hb =>
  (h.blk hg hb hne).trans hb.symm
theorem TChg.same {w w' : World} {base gt be L t k D N : Nat} {M v : Value} {C : DataW Unit} {K : List Rw} {st : Nat} (h : TChg w w' gt be v) (hT : Tkr w base gt be L t k D N M v C K st) {T : TypeId} (h1 : T ≠ 126) (h2 : T ≠ 201) (h3 : 139 ≠ T) : ∀ (b : Nat) (cs : Array Value) (fr : Nat × Nat), w.heap[b]? = some (.cells cs T fr) → w'.heap[b]? = w.heap[b]? := fun b cs fr hb =>
  (h.blk hT hb h1 h2 h3).trans hb.symm
/-- headers of bytes in new memory -/
def HdrF (T2 T1 : TypeId) (B : Nat) (w : World) (v : Value) (n : Nat) (xss : List (List UInt8)) : Prop :=
  ∃ vs, w.ownsRow B T2 1 v n vs ∧ xss.length = n ∧ ∀ (j : Nat) (u : Value), vs[j]? = some u → ∃ q m c xs, u = .slice q m c ∧ xss[j]? = some xs ∧ Fresh T1 B w q m c xs
theorem HdrF.nil (T2 T1 B : Nat) (w : World) : HdrF T2 T1 B w (.slice none 0 0) 0 [] := ⟨[], World.ownsRow_nil _ _ _ _, rfl, fun j u h => by simp at h⟩
theorem HdrF.shape {T2 T1 B n : Nat} {w : World} {v : Value} {xss : List (List UInt8)} (h : HdrF T2 T1 B w v n xss) : ∃ q c, v = .slice q n c := by
  obtain ⟨vs, o, _⟩ := h; exact owns_shape o
theorem HdrF.len {T2 T1 B n : Nat} {w : World} {v : Value} {xss : List (List UInt8)} (h : HdrF T2 T1 B w v n xss) : xss.length = n := by
  obtain ⟨vs, o, l, _⟩ := h; exact l
theorem HdrF.keep {T2 T1 B n : Nat} {w w' : World} {v : Value} {xss : List (List UInt8)} (h : HdrF T2 T1 B w v n xss) (hb : Below w.heap.size w w') : HdrF T2 T1 B w' v n xss := by
  obtain ⟨vs, o, l, r⟩ := h
  refine ⟨vs, owns_keepv o hb, l, fun j u hj => ?_⟩
  obtain ⟨q, m, c, xs, e, hx, hf⟩ := r j u hj
  exact ⟨q, m, c, xs, e, hx, hf.keep hb⟩
theorem HdrF.same {T2 T1 B n : Nat} {w w' : World} {v : Value} {xss : List (List UInt8)} (h : HdrF T2 T1 B w v n xss) (hs : w.heap.size ≤ w'.heap.size) (h2 : ∀ (b : Nat) (cs : Array Value) (fr : Nat × Nat), w.heap[b]? = some (.cells cs T2 fr) → w'.heap[b]? = w.heap[b]?) (h1 : ∀ (b : Nat) (cs : Array Value) (fr : Nat × Nat), w.heap[b]? = some (.cells cs T1 fr) → w'.heap[b]? = w.heap[b]?) : HdrF T2 T1 B w' v n xss := by
  obtain ⟨vs, o, l, r⟩ := h
  refine ⟨vs, owns_same o hs fun g hg => ?_, l, fun j u hj => ?_⟩
  · rcases o.2 with ⟨e1, _⟩ | ⟨g', cap, cur, e1, _, hh, _⟩
    · rw [e1] at hg; cases hg
    · rw [e1] at hg; cases hg
      exact h2 _ _ _ hh
  · obtain ⟨q, m, c, xs, e, hx, hf⟩ := r j u hj
    exact ⟨q, m, c, xs, e, hx, fresh_same hf h1⟩
theorem HdrF.sl2 {T2 T1 B n : Nat} {w : World} {q : Option Addr} {c : Nat} {xss : List (List UInt8)} (h : HdrF T2 T1 B w (.slice q n c) n xss) : Sl2 w q n c xss := by
  obtain ⟨vs, o, l, r⟩ := h
  have hd : Hdr T2 w B w (.slice q n c) n xss := ⟨vs, o, l, fun j u hj => by
    obtain ⟨q, m, c, xs, e, hx, hf⟩ := r j u hj
    exact ⟨q, m, c, xs, e, hx, hf.sl⟩⟩
  exact hd.sl2 (Below.refl _ _)
/-- one more -/
theorem HdrF.push {T2 T1 B n : Nat} {w w' : World} {v v' : Value} {xss : List (List UInt8)} {vs : List Value} {q : Option Addr} {m c : Nat} {xs : List UInt8} (ho : w'.ownsRow B T2 1 v' (n + 1) (vs ++ [.slice q m c])) (hvl : vs.length = n) (hl : xss.length = n)
    (hr : ∀ (j : Nat) (u : Value), vs[j]? = some u → ∃ q m c xs, u = .slice q m c ∧ xss[j]? = some xs ∧ Fresh T1 B w q m c xs) (hx : Fresh T1 B w q m c xs) (hp : ∀ (b : Nat) (cs : Array Value) (fr : Nat × Nat), w.heap[b]? = some (.cells cs T1 fr) → w'.heap[b]? = w.heap[b]?) : HdrF T2 T1 B w' v' (n + 1) (xss ++ [xs]) := by
  refine ⟨_, ho, by simp [hl], fun j u hj => ?_⟩
  by_cases h : j < vs.length
  · rw [List.getElem?_append_left h] at hj
    obtain ⟨q, m, c, ys, e, hy, hf⟩ := r_of hr hj
    exact ⟨q, m, c, ys, e, by rw [List.getElem?_append_left (by omega)]; exact hy, fresh_same hf hp⟩
  · rw [List.getElem?_append_right (by omega)] at hj
    by_cases h0 : j - vs.length = 0
    · rw [h0] at hj
      simp at hj
      refine ⟨q, m, c, xs, hj.symm, ?_, fresh_same hx hp⟩
      rw [List.getElem?_append_right (by omega), show j - xss.length = 0 by omega]; rfl
    · rw [List.getElem?_eq_none (by simp; omega)] at hj; cases hj
where
  r_of {T1 B : Nat} {w : World} {vs : List Value} {xss : List (List UInt8)} {j : Nat} {u : Value} (hr : ∀ (j : Nat) (u : Value), vs[j]? = some u → ∃ q m c xs, u = .slice q m c ∧ xss[j]? = some xs ∧ Fresh T1 B w q m c xs) (hj : vs[j]? = some u) := hr j u hj
end Go.By
namespace Go.Proofs.YtfbmdlfkipipfaaGreatDoor
open Go.RowKit Go.By Go.Maps
end Go.Proofs.YtfbmdlfkipipfaaGreatDoor
namespace Go.By
open Go.RowKit Go.Maps Go.Proofs.YtfbmdlfkipipfaaGreatDoor
/-- what stays of other types -/
def OthS (T : TypeId) : Prop := T ≠ 126 ∧ T ≠ 201 ∧ 139 ≠ T ∧ 153 ≠ T
structure KeepS (w w' : World) : Prop where
  size : w.heap.size ≤ w'.heap.size
  same : ∀ T, OthS T → ∀ (b : Nat) (cs : Array Value) (fr : Nat × Nat), w.heap[b]? = some (.cells cs T fr) → w'.heap[b]? = w.heap[b]?
theorem KeepS.of {w w' : World} (h : Below w.heap.size w w') : KeepS w w' := ⟨h.size, fun _ _ b _ _ hb => h.block b (lt_of_block hb)⟩
theorem KeepS.trans {w a b : World} (h : KeepS w a) (h2 : KeepS a b) : KeepS w b :=
  ⟨Nat.le_trans h.size h2.size, fun T hT i cs fr hi => (h2.same T hT i cs fr ((h.same T hT i cs fr hi).trans hi)).trans (h.same T hT i cs fr hi)⟩
theorem KeepS.blk {w w' : World} (h : KeepS w w') {T b : Nat} {cs : Array Value} {fr : Nat × Nat} (hT : OthS T) (hb : w.heap[b]? = some (.cells cs T fr)) : w'.heap[b]? = some (.cells cs T fr) := (h.same T hT b cs fr hb).trans hb
theorem KeepS.fresh {w w' : World} (h : KeepS w w') {T B n c : Nat} {q : Option Addr} {xs : List UInt8} (hT : OthS T) (hf : Fresh T B w q n c xs) : Fresh T B w' q n c xs := fresh_same hf (h.same T hT)
theorem KeepS.hdr {w w' : World} (h : KeepS w w') {T2 T1 B n : Nat} {v : Value} {xss : List (List UInt8)} (h2 : OthS T2) (h1 : OthS T1) (hf : HdrF T2 T1 B w v n xss) : HdrF T2 T1 B w' v n xss := hf.same h.size (h.same T2 h2) (h.same T1 h1)
theorem KeepS.owns {w w' : World} (h : KeepS w w') {b2 T e n : Nat} {v : Value} {ys : List Value} (hT : OthS T) (ho : w.ownsRow b2 T e v n ys) : w'.ownsRow b2 T e v n ys :=
  owns_same ho h.size fun g hg => by
    rcases ho.2 with ⟨e1, _⟩ | ⟨g', cap, cur, e1, _, hh, _⟩
    · rw [e1] at hg; cases hg
    · rw [e1] at hg; cases hg
      exact h.same T hT _ _ _ hh
theorem TChg.keepS {w w' : World} {base gt be L t k D N : Nat} {M v : Value} {C : DataW Unit} {K : List Rw} {st : Nat} (h : TChg w w' gt be v) (hT : Tkr w base gt be L t k D N M v C K st) : KeepS w w' :=
  ⟨h.size, fun T hO => h.same hT hO.1 hO.2.1 hO.2.2.1⟩
theorem GChg.keepSS {w w' : World} {g : Nat} {cs : Array Value} {fr : Nat × Nat} (h : GChg w g w') (hg : w.heap[g]? = some (.cells cs 153 fr)) : KeepS w w' :=
  ⟨h.size, fun T hO => h.same hg hO.2.2.2⟩
end Go.By
namespace Go.Proofs.YtfbmdlfkipipfaaGreatDoor
open Go.RowKit Go.By Gf Go.Maps
/-- a sender and a taker, in memory; wI: the world ahead, w0: the world in which the sender was made -/
structure ST (wI w0 w : World) (gs gt be base L t k D : Nat) (FX : List (List UInt8)) (nx N : Nat) (v : Value) (K : List Rw) (st : Nat) : Prop where
  bel : Below wI.heap.size wI w
  i0 : wI.heap.size ≤ w0.heap.size
  le : w0.heap.size ≤ w.heap.size
  b1 : w0.heap.size ≤ base
  gs0 : wI.heap.size ≤ gs
  snd : SndO w0 w gs L t k D nx FX
  tk : ∃ M C, Tkr w base gt be L t k D N M v C K st
section
variable {wI w0 w w' : World} {gs gt be base L t k D nx N st : Nat} {FX : List (List UInt8)} {v : Value} {K : List Rw}
theorem ST.keep (h : ST wI w0 w gs gt be base L t k D FX nx N v K st) (hb : Below w.heap.size w w') : ST wI w0 w' gs gt be base L t k D FX nx N v K st := by
  obtain ⟨M, C, h1⟩ := h.tk
  exact ⟨bl h.bel hb h.bel.size, h.i0, Nat.le_trans h.le hb.size, h.b1, h.gs0, h.snd.keep hb h.le, ⟨M, C, h1.keep hb⟩⟩
theorem ST.sbox (h : ST wI w0 w gs gt be base L t k D FX nx N v K st) : ∃ cs fr, w.heap[gs]? = some (.cells cs 153 fr) := by
  obtain ⟨q, c, n0, h1, h2, h3, h4⟩ := h.snd.mem
  exact ⟨_, _, h2⟩
/-- an owned row of another type grew -/
theorem ST.grown (h : ST wI w0 w gs gt be base L t k D FX nx N v K st) {T e n : Nat} {u : Value} {ys : List Value} (ho : w.ownsRow w0.heap.size T e u n ys) (hg : w.grownBy w' u.ownBlock) (h1 : T ≠ 201) (h2 : T ≠ 139) (h3 : T ≠ 5) (h4 : T ≠ 126) :
    ST wI w0 w' gs gt be base L t k D FX nx N v K st ∧ (∀ T', T ≠ T' → ∀ (b : Nat) (cs : Array Value) (fr : Nat × Nat), w.heap[b]? = some (.cells cs T' fr) → w'.heap[b]? = w.heap[b]?) := by
  rcases ho.2 with ⟨e1, _⟩ | ⟨g, cap, cur, e1, hgb, hh, _⟩
  · have hb : Below w.heap.size w w' := ⟨hg.os, hg.tape, hg.output, hg.size, fun b hb => hg.block b hb (fun e => by rw [e1] at e; cases e)⟩
    exact ⟨h.keep hb, fun T' _ b cs fr hc => hb.block b (lt_of_block hc)⟩
  · have hc : GChg w g w' := ⟨hg.os, hg.tape, hg.output, hg.size, fun b hb hne => hg.block b hb (fun e => by rw [e1] at e; cases e; exact hne rfl)⟩
    obtain ⟨M, C, t1⟩ := h.tk
    exact ⟨⟨h.bel.trans (hc.below (Nat.le_trans h.i0 hgb) h.bel.size), h.i0, Nat.le_trans h.le hc.size, h.b1, h.gs0, h.snd.keep (hc.below hgb h.le) (Nat.le_refl _), ⟨M, C, hc.tkr hh t1 h1 h2 h3 h4⟩⟩, fun T' hne => hc.same hh hne⟩
/-- the sender sent -/
theorem ST.sent (h : ST wI w0 w gs gt be base L t k D FX nx N v K st) {ys : List UInt8} {nx' : Nat} {code : Int} {e : Ending} (hs : SdRetQ w gs L t k D FX ys nx nx' code e w') : ST wI w0 w' gs gt be base L t k D FX nx' N v K st ∧ KeepS w w' := by
  obtain ⟨cs, fr, hbx⟩ := h.sbox
  obtain ⟨M, C, t1⟩ := h.tk
  have hS := h.snd.sent hs
  obtain ⟨⟨_, _, _, _, _, _, hg⟩, -⟩ := hs
  exact ⟨⟨h.bel.trans (hg.below h.gs0 h.bel.size), h.i0, Nat.le_trans h.le hg.size, h.b1, h.gs0, hS, ⟨M, C, hg.tkr hbx t1 (by decide) (by decide) (by decide) (by decide)⟩⟩, hg.keepSS hbx⟩
/-- the taker took -/
theorem ST_take (h : ST wI w0 w gs gt be base L t k D FX nx N v K st) (hT : HalfT wI) (hN : N < 1000000) {p : Option Addr} {n c : Nat} {xs : List UInt8} (hs : Sl B8 w p n c xs) (hn : Room n) :
    Calls Tryz.prog 19 #[.pointer (some ⟨gt, 0, none⟩), .slice p n c] w fun e w' => e = .returned (.int .i64 (readC k t D xs)) ∧ ∃ v', ST wI w0 w' gs gt be base L t k D FX nx (N + 1) v' (takeK k t D K st xs) (takeS k t D K st xs) ∧ KeepS w w' := by
  obtain ⟨M, C, h1⟩ := h.tk
  refine Calls.mono (TTake_any base gt be L t k D N M v C K st p n c xs w h1 (hT.keep h.bel) hN hs hn) ?_
  rintro e w1 ⟨rfl, M', v', hT', hc', ho⟩
  have hB := hc'.below h1 h.b1 h.le
  exact ⟨rfl, v', ⟨h.bel.trans (hc'.below h1 (Nat.le_trans h.i0 h.b1) h.bel.size), h.i0, Nat.le_trans h.le hc'.size, h.b1, h.gs0, h.snd.keep hB (Nat.le_refl _), ⟨M', _, hT'⟩⟩, hc'.keepS h1⟩
theorem ST_rank (h : ST wI w0 w gs gt be base L t k D FX nx N v K st) : Calls Tryz.prog 18 #[.pointer (some ⟨gt, 0, none⟩)] w fun e w' => e = .returned (.int .i64 (K.length : Nat)) ∧ w = w' := by
  obtain ⟨M, C, h1⟩ := h.tk
  exact TRank_any base gt be L t k D N M v C K st w h1
end
/-- made anew -/
theorem ST.start {wI w0 w1 : World} {gs gt be L t k D nx : Nat} {FX : List (List UInt8)} {v M : Value} {C : DataW Unit} (hB : Below wI.heap.size wI w0) (hgs : wI.heap.size ≤ gs) (hs : Snd w0 gs L t k D nx FX) (ht : Tkr w1 w0.heap.size gt be L t k D 0 M v C [] 0) (hb : Below w0.heap.size w0 w1) : ST wI w0 w1 gs gt be w0.heap.size L t k D FX nx 0 v [] 0 :=
  ⟨bl hB hb hB.size, hB.size, hb.size, Nat.le_refl _, hgs, (SndO.start hs).keep hb (Nat.le_refl _), ⟨M, C, ht⟩⟩
end Go.Proofs.YtfbmdlfkipipfaaGreatDoor
namespace Go.By
end Go.By
namespace Go.Proofs.YtfbmdlfkipipfaaGreatDoor
open Go.RowKit Go.By
end Go.Proofs.YtfbmdlfkipipfaaGreatDoor
namespace Go.By
end Go.By
namespace Go.Proofs.YtfbmdlfkipipfaaGreatDoor
open Go.RowKit Go.By
end Go.Proofs.YtfbmdlfkipipfaaGreatDoor
namespace Go.By
open Go.RowKit Go.Maps Go.Proofs.YtfbmdlfkipipfaaGreatDoor
theorem HdrF.lt {T2 T1 B n : Nat} {w : World} {v : Value} {xss : List (List UInt8)} (h : HdrF T2 T1 B w v n xss) : ∀ g, v.ownBlock = some g → g < w.heap.size := by
  obtain ⟨vs, o, _⟩ := h
  exact fun g hg => (o.lt g hg).2
theorem HdrF.at {T2 T1 B n : Nat} {w : World} {q : Option Addr} {c : Nat} {xss : List (List UInt8)} (h : HdrF T2 T1 B w (.slice q n c) n xss) {j : Nat} (hj : j < n) : ∃ b o p m d xs, q = some ⟨b, o, none⟩ ∧ w.cell? ⟨b, o + j, none⟩ = some (.slice p m d) ∧ Hid (xss[j]? = some xs) ∧ Fresh T1 B w p m d xs := by
  obtain ⟨b, o, p, m, d, xs, e, hc, _, hx⟩ := h.sl2.at j hj
  obtain ⟨vs, ow, l, r⟩ := h
  have hl : vs.length = n := owns_len ow
  obtain ⟨p', m', d', xs', e1, hx', hf⟩ := r j vs[j] (List.getElem?_eq_getElem (by omega))
  have hx := hx.out
  rw [hx'] at hx; cases hx
  refine ⟨b, o, p, m, d, xs, e, hc, hx', ?_⟩
  have hc2 : w.cell? ⟨b, o + j, none⟩ = some (.slice p' m' d') := by
    rcases ow.2 with ⟨h2, _⟩ | ⟨g, cap, cur, hv, _⟩
    · cases h2; cases e
    · cases hv; cases e
      have h3 := ow.cellAt j (by omega)
      rw [Nat.zero_add, h3, List.getElem?_eq_getElem (by omega), e1]
  rw [hc2] at hc; cases hc
  exact hf
end Go.By
namespace Go.Proofs.YtfbmdlfkipipfaaGreatDoor
open Go.RowKit Go.By Gf Go.Maps
section
variable {wI w0 w w' : World} {gs gt be base L t k D nx N st : Nat} {FX : List (List UInt8)} {v : Value} {K : List Rw}
end
/-- a take of a packet of the object, or of nothing -/
theorem OneObj.takeV {k t D : Nat} {FX : List (List UInt8)} {X K : List Rw} {x y : List UInt8} (h : OneObj k t FX X K) (hF : ∀ x, x ∈ FX → x.length = t) (hk : FX.length = k) (hr : readC k t D x = 0) (he : eqX k t x = rowC t FX y) (hy : y.length = k) :
    OneObj k t FX (X ++ [rowC t FX y]) (takeK k t D K (stF K k) x) ∧ takeS k t D K (stF K k) x = stF (takeK k t D K (stF K k) x) k := by
  obtain ⟨e3, e4⟩ := rowC_ok (k := k) hF hk hy
  have e3' := e3; have e4' := e4
  rw [← he] at e3' e4'
  obtain ⟨t1, t2⟩ := h.take e3' e4' hr
  rw [t1, t2, he]
  exact ⟨h.put e3 e4, rfl⟩
end Go.Proofs.YtfbmdlfkipipfaaGreatDoor
namespace Go.By
open Go.RowKit
theorem byte_of_wf {a : Int} (h : (Lit.int .u8 a).wf = true) : ∃ x : UInt8, Value.int .u8 a = B8 x ∧ a = (x.toNat : Int) := by
  have hb := bounds_u8 h
  have e : a = ((UInt8.ofNat a.toNat).toNat : Int) := by simp; omega
  exact ⟨UInt8.ofNat a.toNat, B8_congr e, e⟩
end Go.By
namespace Go.Proofs.YtfbmdlfkipipfaaGreatDoor
open Go.RowKit Go.By Go.ChangeShapes Go.WideShapes Go.Deep
section
variable {H : Type} {enc : TypeId × Value → H} {P : Program} {w : World} {base : Nat} {held : Bool}
end
end Go.Proofs.YtfbmdlfkipipfaaGreatDoor
namespace Go.By
open Go.RowKit
/-- a source -/
structure SrcD where
  m : UInt8
  xs : List UInt8
  s : Nat
end Go.By
namespace Go.Proofs.YtfbmdlfkipipfaaGreatDoor
open Go.RowKit Go.By Go.ChangeShapes Go.WideShapes Go.Deep
section
variable {H : Type} {enc : TypeId × Value → H} {P : Program} {w : World} {base : Nat} {held : Bool}
end
end Go.Proofs.YtfbmdlfkipipfaaGreatDoor
namespace Go.Proofs.YtfbmdlfkipipfaaGreatDoor
open Go.RowKit Go.By
end Go.Proofs.YtfbmdlfkipipfaaGreatDoor
namespace Go.Proofs.YtfbmdlfkipipfaaGreatDoor
open Go.RowKit Go.By Gf Go.Maps
theorem read_roomT {L t k D : Nat} {xs : List UInt8} (hP : POK L t k D) (h : readC k t D xs = 0) : xs.length ≤ 140737488355328 := by
  unfold readC at h
  split at h
  · rename_i hh; exact absurd h hh
  · split at h
    · cases h
    · rename_i hl
      have hl : xs.length = lenP (xs.getD 1 0) k t := by
        rcases Nat.lt_trichotomy xs.length (lenP (xs.getD 1 0) k t) with g | g | g
        · exact absurd (Nat.ne_of_lt g) hl
        · exact g
        · exact absurd (Nat.ne_of_gt g) hl
      rw [hl]
      unfold lenP widS
      have := hP.k2; have := hP.t2
      split
      · omega
      · split <;> omega
end Go.Proofs.YtfbmdlfkipipfaaGreatDoor
namespace Go.Proofs.YtfbmdlfkipipfaaGreatDoor
open Go.RowKit Go.By
end Go.Proofs.YtfbmdlfkipipfaaGreatDoor
namespace Go.Proofs.YtfbmdlfkipipfaaGreatDoor
open Go.RowKit Go.By
end Go.Proofs.YtfbmdlfkipipfaaGreatDoor
namespace Go.By
open Go.RowKit
/-- a parcel in memory: its slice, where it came from, its bytes -/
abbrev Par := Value × Int × List UInt8
section
variable {TP T1 : Nat} {w w' : World} {base n : Nat} {v : Value} {ts : List Par}
end
end Go.By
namespace Go.Proofs.YtfbmdlfkipipfaaGreatDoor
open Go.RowKit Go.By
end Go.Proofs.YtfbmdlfkipipfaaGreatDoor
namespace Go.Proofs.YtfbmdlfkipipfaaGreatDoor
open Go.RowKit Go.By
def dropAt {α : Type} (ps : List α) (i : Nat) : List α := ps.take i ++ ps.drop (i + 1)
def putAtP {α : Type} (ps : List α) (k : Nat) (p : α) : List α := ps.take k ++ p :: ps.drop k
end Go.Proofs.YtfbmdlfkipipfaaGreatDoor
namespace Go.Proofs.YtfbmdlfkipipfaaGreatDoor
open Go.RowKit Go.By
end Go.Proofs.YtfbmdlfkipipfaaGreatDoor
namespace Go.Proofs.YtfbmdlfkipipfaaGreatDoor
open Go.RowKit Go.By
/-- what a cut does to a parcel -/
def cutP (p : List UInt8 × Int) (j : Nat) : List UInt8 × Int := if j < p.1.length then (p.1.take j, -1) else p
end Go.Proofs.YtfbmdlfkipipfaaGreatDoor
namespace Go.Proofs.YtfbmdlfkipipfaaGreatDoor
open Go.RowKit Go.By
/-- the byte k of a parcel, with bit o turned -/
def flip (xs : List UInt8) (at' : Nat) : List UInt8 := xs.set (at' / 8) ((xs.getD (at' / 8) 0) ^^^ UInt8.ofNat (2 ^ (at' % 8)))
/-- behind so many bits: the bytes, and whether any was turned -/
def maskF (b j : Nat) (xs : List UInt8) : Nat → List UInt8 × Bool
  | 0 => (xs, false)
  | k + 1 => if b.testBit k = true ∧ (j + k) / 8 < xs.length then (flip (maskF b j xs k).1 (j + k), true) else maskF b j xs k
end Go.Proofs.YtfbmdlfkipipfaaGreatDoor
namespace Go.Proofs.YtfbmdlfkipipfaaGreatDoor
open Go.RowKit Go.By
/-- what a mask does to a parcel -/
def maskP (p : List UInt8 × Int) (b j : Nat) : List UInt8 × Int := ((maskF b j p.1 32).1, if (maskF b j p.1 32).2 then -1 else p.2)
end Go.Proofs.YtfbmdlfkipipfaaGreatDoor
namespace Go.Proofs.YtfbmdlfkipipfaaGreatDoor
open Go.RowKit Go.By
structure ActD where
  d : Int
  i : Int
  j : Int
  b : Nat
  bs : List UInt8
abbrev Pack := List UInt8 × Int
def stepS (ps : List Pack) (a : ActD) : List Pack :=
  if a.d < 0 ∨ 6 ≤ a.d ∨ a.j < 0 then ps
  else if a.d = 5 then ps ++ [(a.bs, -1)]
  else match ps[a.i.toNat]? with
    | none => ps
    | some p => if a.i < 0 then ps
      else if a.d = 0 then dropAt ps a.i.toNat
      else if a.d = 1 then ps ++ [p]
      else if a.d = 2 then putAtP (dropAt ps a.i.toNat) (min a.j.toNat (ps.length - 1)) p
      else if a.d = 3 then ps.set a.i.toNat (cutP p a.j.toNat)
      else ps.set a.i.toNat (maskP p a.b a.j.toNat)
end Go.Proofs.YtfbmdlfkipipfaaGreatDoor
namespace Go.Proofs.YtfbmdlfkipipfaaGreatDoor
open Go.RowKit Go.By Go.ChangeShapes Go.WideShapes Go.Deep
section
variable {H : Type} {enc : TypeId × Value → H} {P : Program} {w : World} {base : Nat} {held : Bool}
instance : Inhabited ActD := ⟨⟨0, 0, 0, 0, []⟩⟩
end
end Go.Proofs.YtfbmdlfkipipfaaGreatDoor
namespace Go.Proofs.YtfbmdlfkipipfaaGreatDoor
open Go.RowKit Go.By
end Go.Proofs.YtfbmdlfkipipfaaGreatDoor
namespace Go.Proofs.YtfbmdlfkipipfaaGreatDoor
open Go.RowKit Go.By
end Go.Proofs.YtfbmdlfkipipfaaGreatDoor
namespace Go.Proofs.YtfbmdlfkipipfaaGreatDoor
open Go.RowKit Go.By
end Go.Proofs.YtfbmdlfkipipfaaGreatDoor
namespace Go.Proofs.YtfbmdlfkipipfaaGreatDoor
open Go.RowKit Go.By
end Go.Proofs.YtfbmdlfkipipfaaGreatDoor
namespace Go.Proofs.YtfbmdlfkipipfaaGreatDoor
open Go.RowKit Go.By
end Go.Proofs.YtfbmdlfkipipfaaGreatDoor
namespace Go.Proofs.YtfbmdlfkipipfaaGreatDoor
open Go.RowKit Go.By Gf Go.Maps
/-- a taker's turn: its rows and its status -/
def tkF (k t D : Nat) (s : List Rw × Nat) (x : List UInt8) : List Rw × Nat := (takeK k t D s.1 s.2 x, takeS k t D s.1 s.2 x)
def tkR (k t D : Nat) (came : List (List UInt8)) : List Rw × Nat := came.foldl (tkF k t D) ([], 0)
theorem tkR_snoc {k t D : Nat} {came : List (List UInt8)} {i : Nat} {x : List UInt8} (h : came[i]? = some x) : tkR k t D (came.take (i + 1)) = tkF k t D (tkR k t D (came.take i)) x := by
  obtain ⟨hi, e⟩ := List.getElem?_eq_some_iff.1 h
  unfold tkR
  rw [foldl_take_succ _ _ _ _ hi, e]
/-- what is sent by sources, one after another -/
def sendF (D k : Nat) (FX : List (List UInt8)) (acc : List (List UInt8)) (a : SrcD) : List (List UInt8) := if srcC a.m a.xs.length k = 0 then acc ++ [pktB a.m D acc.length a.xs a.s (combS (vecS a.m a.xs a.s k) FX).1] else acc
def sendsS (D k : Nat) (FX : List (List UInt8)) (l : List SrcD) : List (List UInt8) := l.foldl (sendF D k FX) []
theorem sends_snoc {D k : Nat} {FX : List (List UInt8)} {l : List SrcD} {i : Nat} {a : SrcD} (h : l[i]? = some a) : sendsS D k FX (l.take (i + 1)) = sendF D k FX (sendsS D k FX (l.take i)) a := by
  obtain ⟨hi, e⟩ := List.getElem?_eq_some_iff.1 h
  unfold sendsS
  rw [foldl_take_succ _ _ _ _ hi, e]
theorem sendF_len {D k : Nat} {FX acc : List (List UInt8)} {a : SrcD} : acc.length ≤ (sendF D k FX acc a).length ∧ (sendF D k FX acc a).length ≤ acc.length + 1 := by
  unfold sendF
  split <;> simp
theorem sends_len (D k : Nat) (FX : List (List UInt8)) (l : List SrcD) : (sendsS D k FX l).length ≤ l.length := by
  unfold sendsS
  have : ∀ (l : List SrcD) (acc : List (List UInt8)), (l.foldl (sendF D k FX) acc).length ≤ acc.length + l.length := by
    intro l
    induction l with
    | nil => exact fun acc => Nat.le_refl _
    | cons a l ih => exact fun acc => Nat.le_trans (ih _) (by have := (sendF_len (D := D) (k := k) (FX := FX) (acc := acc) (a := a)).2; simp; omega)
  simpa using this l []
section
variable {wI w0 w w' : World} {gs gt be base L t k D nx N st : Nat} {FX : List (List UInt8)} {v : Value} {K : List Rw}
end
theorem GChg.one {w : World} {g i : Nat} (v : Value) : GChg w g (w.setCell ⟨g, i, none⟩ v) := (GChg.of g (Below.refl _ _)).set v
end Go.Proofs.YtfbmdlfkipipfaaGreatDoor
namespace Go.Proofs.YtfbmdlfkipipfaaGreatDoor
open Go.RowKit Go.By
end Go.Proofs.YtfbmdlfkipipfaaGreatDoor
namespace Go.By
open Go.RowKit
theorem KeepR.owns {w w' : World} {b2 T e n : Nat} {v : Value} {ys : List Value} (h : ∀ (b : Nat) (cs : Array Value) (fr : Nat × Nat), w.heap[b]? = some (.cells cs T fr) → w'.heap[b]? = w.heap[b]?) (hs : w.heap.size ≤ w'.heap.size) (ho : w.ownsRow b2 T e v n ys) : w'.ownsRow b2 T e v n ys :=
  owns_same ho hs fun g hg => by
    rcases ho.2 with ⟨e1, _⟩ | ⟨g', cap, cur, e1, _, hh, _⟩
    · rw [e1] at hg; cases hg
    · rw [e1] at hg; cases hg
      exact h _ _ _ hh
end Go.By
namespace Go.Proofs.YtfbmdlfkipipfaaGreatDoor
open Go.RowKit Go.By Gf Go.Maps
end Go.Proofs.YtfbmdlfkipipfaaGreatDoor
namespace Go.By
open Go.RowKit Go.Proofs.YtfbmdlfkipipfaaGreatDoor
end Go.By
namespace Go.Proofs.YtfbmdlfkipipfaaGreatDoor
open Go.RowKit Go.By Gf Go.Maps
end Go.Proofs.YtfbmdlfkipipfaaGreatDoor
namespace Go.Proofs.YtfbmdlfkipipfaaGreatDoor
open Go.RowKit Go.By Gf Go.Maps
end Go.Proofs.YtfbmdlfkipipfaaGreatDoor
namespace Go.Proofs.YtfbmdlfkipipfaaGreatDoor
open Go.RowKit Go.By
end Go.Proofs.YtfbmdlfkipipfaaGreatDoor
namespace Go.Proofs.YtfbmdlfkipipfaaGreatDoor
open Go.RowKit Go.By Gf Go.Maps
def vecF (k : Nat) (acc : List (List UInt8)) (a : SrcD) : List (List UInt8) := if srcC a.m a.xs.length k = 0 then acc ++ [vecS a.m a.xs a.s k] else acc
def blkF (k t : Nat) (acc : List (List UInt8)) (a : SrcD) : List (List UInt8) := if srcC a.m a.xs.length k = 0 then acc ++ [List.replicate (lenP a.m k t) 0] else acc
def vecsS (k : Nat) (l : List SrcD) : List (List UInt8) := l.foldl (vecF k) []
def blksS (k t : Nat) (l : List SrcD) : List (List UInt8) := l.foldl (blkF k t) []
theorem vecs_snoc {k : Nat} {l : List SrcD} {i : Nat} {a : SrcD} (h : l[i]? = some a) : vecsS k (l.take (i + 1)) = vecF k (vecsS k (l.take i)) a := by
  obtain ⟨hi, e⟩ := List.getElem?_eq_some_iff.1 h
  unfold vecsS
  rw [foldl_take_succ _ _ _ _ hi, e]
theorem blks_snoc {k t : Nat} {l : List SrcD} {i : Nat} {a : SrcD} (h : l[i]? = some a) : blksS k t (l.take (i + 1)) = blkF k t (blksS k t (l.take i)) a := by
  obtain ⟨hi, e⟩ := List.getElem?_eq_some_iff.1 h
  unfold blksS
  rw [foldl_take_succ _ _ _ _ hi, e]
/-- what is sent, its vectors, and blanks of its lengths -/
structure RelX (k t D : Nat) (FX XS VS BS : List (List UInt8)) : Prop where
  l1 : VS.length = XS.length
  l2 : BS.length = XS.length
  at_ : ∀ (n : Nat) (x v b : List UInt8), XS[n]? = some x → VS[n]? = some v → BS[n]? = some b → readC k t D x = 0 ∧ eqX k t x = rowC t FX v ∧ v.length = k ∧ b.length = x.length
theorem RelX.push {k t D : Nat} {FX XS VS BS : List (List UInt8)} {x v b : List UInt8} (h : RelX k t D FX XS VS BS) (hx : readC k t D x = 0 ∧ eqX k t x = rowC t FX v ∧ v.length = k ∧ b.length = x.length) : RelX k t D FX (XS ++ [x]) (VS ++ [v]) (BS ++ [b]) := by
  refine ⟨by simp [h.l1], by simp [h.l2], fun n x' v' b' h1 h2 h3 => ?_⟩
  have l1 := h.l1; have l2 := h.l2
  rcases Nat.lt_trichotomy n XS.length with g | g | g
  · rw [List.getElem?_append_left (by omega)] at h1 h2 h3
    exact h.at_ n x' v' b' h1 h2 h3
  · subst g
    rw [List.getElem?_append_right (by omega), Nat.sub_self] at h1
    rw [List.getElem?_append_right (by omega), l1, Nat.sub_self] at h2
    rw [List.getElem?_append_right (by omega), l2, Nat.sub_self] at h3
    simp at h1 h2 h3
    subst h1 h2 h3
    exact hx
  · rw [List.getElem?_eq_none (by simp; omega)] at h1; cases h1
theorem pkt_len {m : UInt8} {D n s k t : Nat} {xs ys : List UInt8} (hs : srcC m xs.length k = 0) (hy : ys.length = t) : (pktB m D n xs s ys).length = lenP m k t := by
  obtain ⟨hm, hx⟩ := srcC_zero hs
  unfold pktB bodyP headB srcB lenP widS
  by_cases h0 : m = 0
  · rw [if_pos h0, if_pos h0]; simp [put4_len, hy, hx h0]; omega
  · have h1 : m = 1 := by
      unfold modeC at hm
      by_cases h1 : m = 1
      · exact h1
      · rw [if_neg (by simp [h0, h1])] at hm; cases hm
    rw [if_neg h0, if_neg h0]; simp [put4_len, put8_len, hy, h1]; omega
theorem RelX.all {k t D : Nat} {FX : List (List UInt8)} (hF : ∀ x, x ∈ FX → x.length = t) (hk : FX.length = k) (k1 : 1 ≤ k) (hD : D < 4294967296) : ∀ (l : List SrcD), l.length ≤ 1000 → (∀ a, a ∈ l → a.s < 18446744073709551616) → RelX k t D FX (sendsS D k FX l) (vecsS k l) (blksS k t l) := by
  intro l hl hs
  have : ∀ i, i ≤ l.length → RelX k t D FX (sendsS D k FX (l.take i)) (vecsS k (l.take i)) (blksS k t (l.take i)) := by
    intro i
    induction i with
    | zero => exact fun _ => ⟨rfl, rfl, fun n x v b h => by simp [sendsS] at h⟩
    | succ i ih =>
      intro hi
      have h := ih (by omega)
      have ha : l[i]? = some l[i] := List.getElem?_eq_getElem (by omega)
      rw [sends_snoc ha, vecs_snoc ha, blks_snoc ha]
      unfold sendF vecF blkF
      by_cases hc : srcC l[i].m l[i].xs.length k = 0
      · rw [if_pos hc, if_pos hc, if_pos hc]
        have hn := sends_len D k FX (l.take i)
        have hn2 : (l.take i).length ≤ 1000 := by rw [List.length_take]; omega
        obtain ⟨e1, e2⟩ := sent_eq (k := k) (t := t) (D := D) (n := (sendsS D k FX (l.take i)).length) (s := l[i].s) (m := l[i].m) (xs := l[i].xs) hF hk k1 hc (hs _ (List.getElem_mem _)) hD (by omega)
        have hv := vecS_len (s := l[i].s) hc rfl
        refine h.push ⟨e1, e2, hv, ?_⟩
        rw [List.length_replicate]
        refine (pkt_len hc ?_).symm
        rw [comb_mulR hF hk k1 hv]; exact mulR_len hF _
      · rw [if_neg hc, if_neg hc, if_neg hc]; exact h
  have h := this l.length (Nat.le_refl _)
  rwa [List.take_length] at h
end Go.Proofs.YtfbmdlfkipipfaaGreatDoor
namespace Go.Proofs.YtfbmdlfkipipfaaGreatDoor
open Gf Go.By
/-- a row whose vector is a combination of those kept, and its data none -/
def clashB (K : List Rw) (x : Rw) : Bool := decide (leadS (restF K x).1 < 0) && !zeroS (restF K x).2
/-- the rows kept span those that came, data and all -/
structure Spg (k n : Nat) (X K0 : List Rw) : Prop where
  kept : KeptS k n K0
  fit : ∀ x, x ∈ X → Fit k n x
  le : ∀ r, r ∈ K0 → Sp (X.map vR) (vR r)
  ge : ∀ x, x ∈ X → Sp (K0.map vR) (vR x)
theorem Spg.nil (k n : Nat) : Spg k n [] [] := ⟨KeptS.nil k n, fun x h => by simp at h, fun x h => by simp at h, fun x h => by simp at h⟩
theorem zeroS_all {xs : List UInt8} : zeroS xs = true ↔ ∀ x, x ∈ xs → x = 0 := by unfold zeroS; simp
/-- nothing is left just where the row is a combination of those kept -/
theorem rest_span {k n : Nat} {K : List Rw} {x : Rw} (h : KeptS k n K) (hx : Fit k n x) : (∀ j, vR (restF K x) j = 0) ↔ Sp (K.map vR) (vR x) := by
  have rK : vR (restF K x) = red (tri K) (vR x) := rest_red h.rows hx
  rw [rK]
  have := red_zero (x := vR x) (tri_of_sorted h.rows h.sorted)
  rw [tri_fst] at this
  exact this
theorem rest_nil {k n : Nat} {K : List Rw} {x : Rw} (h : KeptS k n K) (hx : Fit k n x) (hl : leadS (restF K x).1 < 0) : (∀ j, vR (restF K x) j = 0) ↔ zeroS (restF K x).2 = true := by
  have hf := hx.rest (fun r hr => (h.rows r hr).1)
  have h0 := vf_zero (leadS_neg hl)
  constructor
  · intro hz
    refine zeroS_all.2 fun y hy => ?_
    obtain ⟨j, hj, rfl⟩ := List.mem_iff_getElem.1 hy
    have := hz (k + j)
    rw [vR_right hf] at this
    unfold vf at this
    rw [List.getD_eq_getElem?_getD, List.getElem?_eq_getElem hj] at this
    exact this
  · intro hz j
    by_cases hj : j < k
    · rw [vR_left hf hj]; exact h0 j
    · have := vf_zero (zeroS_all.1 hz) (j - k)
      rw [← vR_right hf, show k + (j - k) = j by omega] at this
      exact this
theorem Spg.snoc {k n : Nat} {X K0 : List Rw} {x : Rw} (h : Spg k n X K0) (hx : Fit k n x) (hc : clashB K0 x = false) : Spg k n (X ++ [x]) (insF K0 x) := by
  have memX : ∀ a, a ∈ X.map vR → a ∈ (X ++ [x]).map vR := fun a ha => by rw [List.map_append]; exact List.mem_append.2 (.inl ha)
  have lastX : vR x ∈ (X ++ [x]).map vR := by simp
  refine ⟨h.kept.step hx, fun y hy => ?_, fun r hr => ?_, fun y hy => ?_⟩
  · rcases List.mem_append.1 hy with hy | hy
    · exact h.fit y hy
    · rw [List.mem_singleton] at hy; rw [hy]; exact hx
  · by_cases hl : leadS (restF K0 x).1 < 0
    · have e : insF K0 x = K0 := by unfold insF; rw [norm_leadS, if_pos hl]
      rw [e] at hr
      exact Sp.sub memX (h.le r hr)
    · refine Sp.trans (fun a ha => ?_) ((insF_span h.kept hx hl).1 r hr)
      rcases List.mem_cons.1 ha with rfl | ha
      · exact Sp.mem lastX
      · obtain ⟨q, hq, rfl⟩ := List.mem_map.1 ha
        exact Sp.sub memX (h.le q hq)
  · by_cases hl : leadS (restF K0 x).1 < 0
    · have e : insF K0 x = K0 := by unfold insF; rw [norm_leadS, if_pos hl]
      rw [e]
      rcases List.mem_append.1 hy with hy | hy
      · exact h.ge y hy
      · rw [List.mem_singleton] at hy; rw [hy]
        have hz : zeroS (restF K0 x).2 = true := by
          unfold clashB at hc
          rw [decide_eq_true hl] at hc
          simpa using hc
        exact (rest_span h.kept hx).1 ((rest_nil h.kept hx hl).2 hz)
    · obtain ⟨i1, i2, i3⟩ := insF_span h.kept hx hl
      rcases List.mem_append.1 hy with hy | hy
      · refine Sp.trans (fun a ha => ?_) (h.ge y hy)
        obtain ⟨q, hq, rfl⟩ := List.mem_map.1 ha
        exact i2 q hq
      · rw [List.mem_singleton] at hy; rw [hy]; exact i3
theorem kept_ind {k n : Nat} {K : List Rw} (h : KeptS k n K) : Ind (K.map vR) := by
  have := (tri_of_sorted h.rows h.sorted).ind
  rwa [tri_fst] at this
/-- vectors and data in one -/
def widesL (X : List Rw) : List (List UInt8) := X.map cat
theorem wides_vf (X : List Rw) : (widesL X).map vf = X.map vR := by unfold widesL; rw [List.map_map]; rfl
theorem wides_rk {k n : Nat} {X : List Rw} (h : ∀ x, x ∈ X → Fit k n x) : Rk (X.map vR) (iK (widesL X)).length := by
  have := ins_rank (n := k + n) (widesL X) (fun r hr => by obtain ⟨x, hx, rfl⟩ := List.mem_map.1 hr; exact (h x hx).cat)
  rw [wides_vf] at this
  exact this
theorem Spg.rank {k n : Nat} {X K0 : List Rw} (h : Spg k n X K0) : (iK (widesL X)).length = K0.length := by
  refine (wides_rk h.fit).unique ⟨K0.map vR, kept_ind h.kept, by simp, fun b hb => ?_, fun a ha => ?_⟩
  · obtain ⟨r, hr, rfl⟩ := List.mem_map.1 hb; exact h.le r hr
  · obtain ⟨x, hx, rfl⟩ := List.mem_map.1 ha; exact h.ge x hx
/-- no row ahead of place j clashes -/
def calm (D : List Rw) (j : Nat) : Prop := ∀ i x, i < j → D[i]? = some x → clashB (kD (D.take i)) x = false
theorem calm_spg {k n : Nat} {D : List Rw} (hD : ∀ x, x ∈ D → Fit k n x) : ∀ j, calm D j → Spg k n (D.take j) (kD (D.take j))
  | 0, _ => by rw [List.take_zero]; exact Spg.nil k n
  | j + 1, h => by
    have ih := calm_spg hD j (fun i x hi hx => h i x (by omega) hx)
    by_cases hj : j < D.length
    · have e := List.getElem?_eq_getElem hj
      rw [List.take_add_one, e]
      show Spg k n (D.take j ++ [D[j]]) (kD (D.take j ++ [D[j]]))
      rw [kD_snoc]
      exact ih.snoc (hD _ (List.getElem_mem hj)) (h j _ (by omega) e)
    · rw [List.take_of_length_le (by omega)] at ih ⊢
      exact ih
end Go.Proofs.YtfbmdlfkipipfaaGreatDoor
namespace Go.By
open Go.RowKit
end Go.By
namespace Go.Proofs.YtfbmdlfkipipfaaGreatDoor
open Go.RowKit Go.By
end Go.Proofs.YtfbmdlfkipipfaaGreatDoor
namespace Go.By
/-- the digits of a number, the lowest first -/
def digs (b : Nat) (n : Nat) : List Nat := if h : n = 0 ∨ b ≤ 1 then [] else n % b :: digs b (n / b)
termination_by n
decreasing_by exact Nat.div_lt_self (by omega) (by omega)
theorem digs_zero (b : Nat) : digs b 0 = [] := by unfold digs; simp
theorem digs_pos {b n : Nat} (hb : 2 ≤ b) (hn : 0 < n) : digs b n = n % b :: digs b (n / b) := by
  conv => lhs; unfold digs
  rw [dif_neg (by omega)]
/-- the number that digits are -/
def valD (b : Nat) : List Nat → Nat
  | [] => 0
  | x :: xs => x + b * valD b xs
theorem valD_append (b : Nat) : ∀ (xs ys : List Nat), valD b (xs ++ ys) = valD b xs + b ^ xs.length * valD b ys
  | [], ys => by simp [valD]
  | x :: xs, ys => by
    show x + b * valD b (xs ++ ys) = x + b * valD b xs + b ^ (xs.length + 1) * valD b ys
    rw [valD_append b xs ys, Nat.mul_add, Nat.pow_succ, Nat.add_assoc]
    congr 2
    rw [← Nat.mul_assoc, Nat.mul_comm b]
theorem valD_zeros (b : Nat) : ∀ k, valD b (List.replicate k 0) = 0
  | 0 => rfl
  | k + 1 => by rw [List.replicate_succ]; show 0 + b * valD b (List.replicate k 0) = 0; rw [valD_zeros b k]; simp
theorem valD_lt {b : Nat} (hb : 2 ≤ b) : ∀ (xs : List Nat), (∀ x, x ∈ xs → x < b) → valD b xs < b ^ xs.length
  | [], _ => by simp [valD]
  | x :: xs, h => by
    have h1 := h x (by simp)
    have h2 := valD_lt hb xs (fun y hy => h y (by simp [hy]))
    show x + b * valD b xs < b ^ (xs.length + 1)
    rw [Nat.pow_succ, Nat.mul_comm (b ^ xs.length)]
    have h3 : b * (valD b xs + 1) ≤ b * b ^ xs.length := Nat.mul_le_mul_left b h2
    rw [Nat.mul_add] at h3
    omega
/-- digits whose last isn't 0 are those of their number -/
theorem digs_valD {b : Nat} (hb : 2 ≤ b) : ∀ (xs : List Nat), (∀ x, x ∈ xs → x < b) → xs.getLast? ≠ some 0 → digs b (valD b xs) = xs
  | [], _, _ => digs_zero b
  | x :: xs, h, hl => by
    have h1 := h x (by simp)
    have ih := digs_valD hb xs (fun y hy => h y (by simp [hy]))
    have hpos : 0 < valD b (x :: xs) := by
      show 0 < x + b * valD b xs
      cases xs with
      | nil =>
        have : x ≠ 0 := by simpa using hl
        omega
      | cons y ys =>
        have hl2 : (y :: ys).getLast? ≠ some 0 := by simpa [List.getLast?_cons_cons] using hl
        have h2 := ih hl2
        have : valD b (y :: ys) ≠ 0 := fun e => by rw [e, digs_zero] at h2; cases h2
        have : 0 < b * valD b (y :: ys) := Nat.mul_pos (by omega) (by omega)
        omega
    rw [digs_pos hb hpos]
    have e1 : valD b (x :: xs) % b = x := by
      show (x + b * valD b xs) % b = x
      rw [Nat.add_mul_mod_self_left, Nat.mod_eq_of_lt h1]
    have e2 : valD b (x :: xs) / b = valD b xs := by
      show (x + b * valD b xs) / b = _
      rw [Nat.add_mul_div_left _ _ (by omega), Nat.div_eq_of_lt h1, Nat.zero_add]
    rw [e1, e2]
    cases xs with
    | nil => rw [show valD b [] = 0 from rfl, digs_zero]
    | cons y ys => rw [ih (by simpa [List.getLast?_cons_cons] using hl)]
/-- the low k digits -/
def lowD (b : Nat) : Nat → Nat → List Nat
  | 0, _ => []
  | k + 1, n => n % b :: lowD b k (n / b)
theorem lowD_zero (b : Nat) : ∀ k, lowD b k 0 = List.replicate k 0
  | 0 => rfl
  | k + 1 => by show 0 % b :: lowD b k (0 / b) = _; rw [Nat.zero_mod, Nat.zero_div, lowD_zero b k]; rfl
/-- a number below b^k, with noughts behind -/
theorem lowD_pad {b : Nat} (hb : 2 ≤ b) : ∀ k n, n < b ^ k → lowD b k n = digs b n ++ List.replicate (k - (digs b n).length) 0 ∧ (digs b n).length ≤ k
  | 0, n, h => by
    have : n = 0 := by simpa using h
    subst this
    rw [digs_zero]; exact ⟨rfl, Nat.le_refl _⟩
  | k + 1, n, h => by
    rcases Nat.eq_zero_or_pos n with h0 | h0
    · subst h0; rw [digs_zero, lowD_zero]; exact ⟨rfl, Nat.zero_le _⟩
    · have h1 : n / b < b ^ k := Nat.div_lt_of_lt_mul (by rw [Nat.pow_succ, Nat.mul_comm] at h; exact h)
      obtain ⟨e, hl⟩ := lowD_pad hb k (n / b) h1
      rw [digs_pos hb h0]
      show n % b :: lowD b k (n / b) = _ ∧ _
      rw [e]
      refine ⟨?_, by simpa using hl⟩
      simp
end Go.By
namespace Go.By
theorem valD_snoc (b : Nat) (xs : List Nat) (x : Nat) : valD b (xs ++ [x]) = valD b xs + b ^ xs.length * x := by
  rw [valD_append]; show _ + _ * (x + b * 0) = _; rw [Nat.mul_zero, Nat.add_zero]
theorem valD_take {b i : Nat} {xs : List Nat} {x : Nat} (h : xs[i]? = some x) : valD b (xs.take (i + 1)) = valD b (xs.take i) + b ^ i * x := by
  have hi := (List.getElem?_eq_some_iff.1 h).1
  rw [List.take_add_one, h]
  show valD b (xs.take i ++ [x]) = _
  rw [valD_snoc, List.length_take, Nat.min_eq_left (by omega)]
theorem valD_set {b : Nat} : ∀ (xs : List Nat) (i x y : Nat), xs[i]? = some y → valD b (xs.set i x) + b ^ i * y = valD b xs + b ^ i * x
  | [], i, x, y, h => by simp at h
  | a :: xs, 0, x, y, h => by
    have : a = y := by simpa using h
    subst this
    show x + b * valD b xs + 1 * a = a + b * valD b xs + 1 * x
    omega
  | a :: xs, i + 1, x, y, h => by
    have ih := valD_set (b := b) xs i x y (by simpa using h)
    show a + b * valD b (xs.set i x) + b ^ (i + 1) * y = a + b * valD b xs + b ^ (i + 1) * x
    have e1 : b ^ (i + 1) * y = b * (b ^ i * y) := by rw [Nat.pow_succ, Nat.mul_comm (b ^ i), Nat.mul_assoc]
    have e2 : b ^ (i + 1) * x = b * (b ^ i * x) := by rw [Nat.pow_succ, Nat.mul_comm (b ^ i), Nat.mul_assoc]
    rw [e1, e2, Nat.add_assoc, ← Nat.mul_add, ih, Nat.mul_add, Nat.add_assoc]
/-- one step of a difference: with a borrow, or none -/
theorem sub_step {b i x y c S A B c' s' : Nat} (hi : S + B = A + b ^ i * c) (hs : s' + y + c = x + b * c') : (S + b ^ i * s') + (B + b ^ i * y) = (A + b ^ i * x) + b ^ (i + 1) * c' := by
  have h2 : b ^ (i + 1) * c' = b ^ i * (b * c') := by rw [Nat.pow_succ, Nat.mul_assoc]
  have h3 : b ^ i * s' + b ^ i * y + b ^ i * c = b ^ i * x + b ^ i * (b * c') := by rw [← Nat.mul_add, ← Nat.mul_add, hs, Nat.mul_add]
  rw [h2]; omega
/-- which is greater: the longer one -/
theorem val_len {b : Nat} (hb : 2 ≤ b) {xs ys : List Nat} (hx : ∀ x, x ∈ xs → x < b) (hl : ys.getLast? ≠ some 0) (h : xs.length < ys.length) : valD b xs < valD b ys := by
  have h1 := valD_lt hb xs hx
  have hne : ys ≠ [] := fun e => by rw [e] at h; simp at h
  obtain ⟨zs, z, rfl⟩ : ∃ zs z, ys = zs ++ [z] := ⟨ys.dropLast, ys.getLast hne, (List.dropLast_concat_getLast hne).symm⟩
  rw [List.length_append, List.length_singleton] at h
  have hz : z ≠ 0 := by simpa using hl
  rw [valD_snoc]
  have h2 : b ^ xs.length ≤ b ^ zs.length := Nat.pow_le_pow_right (by omega) (by omega)
  have h3 : b ^ zs.length * 1 ≤ b ^ zs.length * z := Nat.mul_le_mul_left _ (by omega)
  omega
/-- .. of one length: the one whose highest unlike digit is greater -/
theorem val_top {b : Nat} (hb : 2 ≤ b) {xs ys hs : List Nat} {x y : Nat} (hx : ∀ a, a ∈ xs → a < b) (hl : xs.length = ys.length) (h : x < y) : valD b (xs ++ x :: hs) < valD b (ys ++ y :: hs) := by
  rw [valD_append, valD_append, hl]
  have h1 := valD_lt hb xs hx
  rw [hl] at h1
  have h2 : b ^ ys.length * valD b (x :: hs) + b ^ ys.length ≤ b ^ ys.length * valD b (y :: hs) := by
    rw [← Nat.mul_succ]
    refine Nat.mul_le_mul_left _ ?_
    show x + b * valD b hs + 1 ≤ y + b * valD b hs
    omega
  omega
end Go.By
namespace Go.By
theorem map_inj {α β : Type} {f : α → β} {p : α → Prop} (hf : ∀ a b, p a → p b → f a = f b → a = b) : ∀ {xs ys : List α}, (∀ x, x ∈ xs → p x) → (∀ y, y ∈ ys → p y) → xs.map f = ys.map f → xs = ys
  | [], [], _, _, _ => rfl
  | [], _ :: _, _, _, h => by simp at h
  | _ :: _, [], _, _, h => by simp at h
  | x :: xs, y :: ys, hx, hy, h => by
    rw [List.map_cons, List.map_cons] at h
    injection h with h1 h2
    rw [hf x y (hx x (by simp)) (hy y (by simp)) h1, map_inj hf (fun z hz => hx z (by simp [hz])) (fun z hz => hy z (by simp [hz])) h2]
end Go.By
namespace Go.By
def valW (ws : List UInt64) : Nat := valD 18446744073709551616 (ws.map UInt64.toNat)
theorem words_lt (ws : List UInt64) : ∀ x, x ∈ ws.map UInt64.toNat → x < 18446744073709551616 := fun x hx => by
  obtain ⟨b, _, rfl⟩ := List.mem_map.1 hx
  exact b.toNat_lt
theorem valW_lt (ws : List UInt64) : valW ws < 18446744073709551616 ^ ws.length := by
  have := valD_lt (b := 18446744073709551616) (by decide) _ (words_lt ws)
  rwa [List.length_map] at this
/-- words, the last not 0 -/
def NormW (ws : List UInt64) : Prop := ws.getLast? ≠ some 0
theorem NormW.digs {ws : List UInt64} (h : NormW ws) : digs 18446744073709551616 (valW ws) = ws.map UInt64.toNat :=
  digs_valD (by decide) _ (words_lt ws) (by
    rw [List.getLast?_map]
    cases e : ws.getLast? with
    | none => simp
    | some x =>
      intro hx
      have : x.toNat = 0 := by simpa using hx
      have : x = 0 := UInt64.toNat_inj.1 (by simpa using this)
      exact h (by rw [e, this]))
theorem NormW.inj {ws vs : List UInt64} (h : NormW ws) (g : NormW vs) (e : valW ws = valW vs) : ws = vs := by
  have h1 := h.digs
  rw [e, g.digs] at h1
  exact (map_inj (p := fun _ => True) (f := UInt64.toNat) (fun a b _ _ hab => UInt64.toNat_inj.1 hab) (fun _ _ => trivial) (fun _ _ => trivial) h1).symm
/-- words are so many just where the number is so great -/
theorem NormW.len {ws : List UInt64} (h : NormW ws) {k : Nat} (hv : valW ws < 18446744073709551616 ^ k) : ws.length ≤ k := by
  have h1 := congrArg List.length h.digs
  rw [List.length_map] at h1
  rw [← h1]
  exact (lowD_pad (b := 18446744073709551616) (by decide) k (valW ws) hv).2
end Go.By
namespace Go.By
/-- one step of a row of a product: digit y of the second number, p what stands there, c the carry -/
theorem mul_step {b i j a y p c V V' V0 S s' c' : Nat} (h : V + b ^ (i + j) * c = V0 + b ^ i * (a * S)) (hs : s' = (a * y + p + c) % b) (hc : c' = (a * y + p + c) / b) (hv : V' + b ^ (i + j) * p = V + b ^ (i + j) * s') : V' + b ^ (i + (j + 1)) * c' = V0 + b ^ i * (a * (S + b ^ j * y)) := by
  have h1 : s' + b * c' = a * y + p + c := by rw [hs, hc]; exact Nat.mod_add_div _ _
  have h2 : b ^ (i + (j + 1)) * c' = b ^ (i + j) * (b * c') := by rw [← Nat.add_assoc, Nat.pow_succ, Nat.mul_assoc]
  have h3 : b ^ (i + j) * s' + b ^ (i + j) * (b * c') = b ^ (i + j) * (a * y) + b ^ (i + j) * p + b ^ (i + j) * c := by rw [← Nat.mul_add, h1, Nat.mul_add, Nat.mul_add]
  have h4 : b ^ i * (a * (S + b ^ j * y)) = b ^ i * (a * S) + b ^ (i + j) * (a * y) := by
    rw [Nat.mul_add, Nat.mul_add, Nat.pow_add, Nat.mul_assoc, Nat.mul_left_comm a]
  rw [h2, h4]; omega
/-- the row's end: the carry goes where a nought stood -/
theorem mul_row {b i n a c V V' V0 S : Nat} (h : V + b ^ (i + n) * c = V0 + b ^ i * (a * S)) (hv : V' + b ^ (i + n) * 0 = V + b ^ (i + n) * c) : V' = V0 + b ^ i * (a * S) := by
  rw [Nat.mul_zero, Nat.add_zero] at hv; omega
/-- .. and the next row -/
theorem mul_next {b i a S A V : Nat} (h : V = A * S) : V + b ^ i * (a * S) = (A + b ^ i * a) * S := by
  rw [h, Nat.add_mul, Nat.mul_assoc]
/-- a digit fits -/
theorem mul_fits {a y p c : Nat} {B : Nat} (ha : a < B) (hy : y < B) (hp : p < B) (hc : c < B) : (a * y + p + c) / B < B := by
  rw [Nat.div_lt_iff_lt_mul (by omega)]
  have h1 : a * y ≤ (B - 1) * (B - 1) := Nat.mul_le_mul (by omega) (by omega)
  obtain ⟨m, rfl⟩ : ∃ m, B = m + 1 := ⟨B - 1, by omega⟩
  have h2 : (m + 1) * (m + 1) = m * m + m + m + 1 := by rw [Nat.add_mul, Nat.mul_add]; omega
  rw [h2]
  have h3 : m + 1 - 1 = m := by omega
  rw [h3] at h1
  omega
end Go.By
namespace Go.By
theorem valW_take_zero {ws : List UInt64} {k : Nat} {x : UInt64} (hx : ws[k]? = some x) (h0 : x.toNat = 0) : valW (ws.take (k + 1)) = valW (ws.take k) := by
  unfold valW
  rw [List.map_take, List.map_take, valD_take (x := 0) (by rw [List.getElem?_map, hx]; simp [h0])]; simp
theorem NormW_take {ws : List UInt64} {k : Nat} {x : UInt64} (hx : ws[k]? = some x) (h0 : x.toNat ≠ 0) : NormW (ws.take (k + 1)) := by
  show (ws.take (k + 1)).getLast? ≠ some 0
  rw [List.take_add_one, hx]
  simp only [Option.toList_some, List.getLast?_append, List.getLast?_singleton]
  intro h
  have : x = 0 := by simpa using h
  rw [this] at h0; exact h0 rfl
/-- so many words just where the number is so great -/
theorem NormW.big {ws : List UInt64} (h : NormW ws) {k : Nat} (hl : k < ws.length) : 18446744073709551616 ^ k ≤ valW ws := by
  rcases Nat.lt_or_ge (valW ws) (18446744073709551616 ^ k) with h1 | h1
  · have := h.len h1; omega
  · exact h1
end Go.By
namespace Go.By
open Go.RowKit
/-- a word as a value -/
abbrev W64 (x : UInt64) : Value := .int .u64 x.toNat
/-- how great a number may be -/
def powW (k : Nat) : Nat := 18446744073709551616 ^ k
theorem powW_mono {j k : Nat} (h : j ≤ k) : powW j ≤ powW k := Nat.pow_le_pow_right (by decide) h
theorem powW_lt (ws : List UInt64) : valW ws < powW ws.length := valW_lt ws
theorem powW_big {ws : List UInt64} (h : NormW ws) {k : Nat} (hl : k < ws.length) : powW k ≤ valW ws := h.big hl
def capN : Nat := powW 512
/-- where a slice's cells lie: a block of elements of type T -/
def Lies (T : TypeId) (w : World) (q : Option Addr) : Prop := ∀ a, q = some a → ∃ cs fr, w.heap[a.block]? = some (.cells cs T fr)
theorem Lies.keep {T : TypeId} {w w' : World} {q : Option Addr} (h : Lies T w q) (hb : Below w.heap.size w w') : Lies T w' q := fun a ha => by
  obtain ⟨cs, fr, hc⟩ := h a ha
  exact ⟨cs, fr, (hb.block _ (lt_of_block hc)).trans hc⟩
theorem Lies.none (T : TypeId) (w : World) : Lies T w none := fun _ h => by cases h
theorem Lies.at {T : TypeId} {w : World} {g o : Nat} {cs : Array Value} {fr : Nat × Nat} (h : w.heap[g]? = some (.cells cs T fr)) : Lies T w (some ⟨g, o, .none⟩) := fun a ha => by
  obtain rfl := Option.some.inj ha
  exact ⟨cs, fr, h⟩
/-- a block of another kind is written -/
theorem Lies.set {T T' : TypeId} {w : World} {q : Option Addr} (h : Lies T w q) {g i : Nat} {cs : Array Value} {fr : Nat × Nat} {v : Value} (hg : w.heap[g]? = some (.cells cs T' fr)) (hne : T' ≠ T) : Lies T (w.setCell ⟨g, i, .none⟩ v) q := fun a ha => by
  obtain ⟨ds, fr', hc⟩ := h a ha
  have : a.block ≠ g := fun e => by rw [e, hg] at hc; cases hc; exact hne rfl
  exact ⟨ds, fr', hsc hc this⟩
theorem Sl.setT {α : Type} {enc : α → Value} {T T' : TypeId} {w : World} {q : Option Addr} {n c : Nat} {xs : List α} (h : Sl enc w q n c xs) (hl : Lies T w q) {g i : Nat} {cs : Array Value} {fr : Nat × Nat} {v : Value} (hg : w.heap[g]? = some (.cells cs T' fr)) (hne : T' ≠ T) : Sl enc (w.setCell ⟨g, i, .none⟩ v) q n c xs := by
  refine ⟨h.len, h.le, h.max, h.nil, fun j hj => ?_⟩
  obtain ⟨b, o, hp, hc⟩ := h.rs j hj
  obtain ⟨ds, fr', hd⟩ := hl _ hp
  have : b ≠ g := fun e => by rw [show (⟨b, o, .none⟩ : Addr).block = b from rfl, e, hg] at hd; cases hd; exact hne rfl
  exact ⟨b, o, hp, (World.cell?_of_block (a := ⟨b, o + j, .none⟩) (Below.heap_setCell _ _ _ _ this)).trans hc⟩
/-- words in memory that read as a number -/
structure Ws (T : TypeId) (w : World) (q : Option Addr) (n c : Nat) (N : Nat) : Prop where
  ex : ∃ ws, Sl W64 w q n c ws ∧ NormW ws ∧ valW ws = N
  le : n ≤ 512
  lies : Lies T w q
theorem Ws.keep {T : TypeId} {w w' : World} {q : Option Addr} {n c N : Nat} (h : Ws T w q n c N) (hb : Below w.heap.size w w') : Ws T w' q n c N := by
  obtain ⟨ws, hs, hn, hv⟩ := h.ex
  exact ⟨⟨ws, hs.keep hb, hn, hv⟩, h.le, h.lies.keep hb⟩
theorem Ws.set {T T' : TypeId} {w : World} {q : Option Addr} {n c N : Nat} (h : Ws T w q n c N) {g i : Nat} {cs : Array Value} {fr : Nat × Nat} {v : Value} (hg : w.heap[g]? = some (.cells cs T' fr)) (hne : T' ≠ T) : Ws T (w.setCell ⟨g, i, none⟩ v) q n c N := by
  obtain ⟨ws, hs, hn, hv⟩ := h.ex
  exact ⟨⟨ws, hs.setT h.lies hg hne, hn, hv⟩, h.le, h.lies.set hg hne⟩
theorem Ws.lt {T : TypeId} {w : World} {q : Option Addr} {n c N : Nat} (h : Ws T w q n c N) : N < capN := by
  obtain ⟨ws, hs, hn, rfl⟩ := h.ex
  have := powW_lt ws
  rw [hs.len] at this
  exact Nat.lt_of_lt_of_le this (powW_mono h.le)
theorem Ws.zero (T : TypeId) (w : World) : Ws T w none 0 0 0 := ⟨⟨[], Sl.nil0 _ _, by simp [NormW], rfl⟩, by omega, Lies.none _ _⟩
/-- a number, and what went wrong -/
def RetN (T : TypeId) (w : World) (N : Nat) (e : Ending) (w' : World) : Prop :=
  ∃ q n c, e = .returned (.tuple #[.agg #[.slice q n c], .int .i64 0]) ∧ Ws T w' q n c N ∧ Below w.heap.size w w'
def Ret0 (w : World) (code : Int) (e : Ending) (w' : World) : Prop :=
  e = .returned (.tuple #[.agg #[.slice none 0 0], .int .i64 code]) ∧ Below w.heap.size w w'
def RetMn (T : TypeId) (w : World) (N : Nat) (e : Ending) (w' : World) : Prop := (N < capN ∧ RetN T w N e w') ∨ (capN ≤ N ∧ Ret0 w 16 e w')
theorem RetMn.ok {T : TypeId} {w w' : World} {N : Nat} {e : Ending} (h : RetMn T w N e w') (hN : N < capN) : RetN T w N e w' := by
  rcases h with h | h
  · exact h.2
  · omega
/-- a number alone -/
def RetN1 (T : TypeId) (w : World) (N : Nat) (e : Ending) (w' : World) : Prop :=
  ∃ q n c, e = .returned (.agg #[.slice q n c]) ∧ Ws T w' q n c N ∧ Below w.heap.size w w'
theorem Sl.front {α : Type} {enc : α → Value} {w : World} {p : Option Addr} {n c k : Nat} {xs : List α} (h : Sl enc w p n c xs) (hk : k ≤ n) : Sl enc w p k c (xs.take k) := by
  have h1 := h.len; have h2 := h.le; have h3 := h.max
  refine ⟨by rw [List.length_take]; omega, by omega, h3, fun e => ⟨by have := (h.nil e).1; omega, (h.nil e).2⟩, ?_⟩
  intro i hi
  have hi' : i < xs.length := by rw [List.length_take] at hi; omega
  obtain ⟨b', o', hp, hc⟩ := h.rs i hi'
  exact ⟨b', o', hp, by rw [hc]; simp⟩
/-- what is left of words without noughts behind -/
theorem made_end {T : TypeId} {w : World} {q : Option Addr} {n c k : Nat} {ws : List UInt64} (h : Sl W64 w q n c ws) (hT : Lies T w q) (hk : k ≤ n) (hn : NormW (ws.take k)) (hv : valW (ws.take k) = valW ws) : (k ≤ 512 → Ws T w q k c (valW ws) ∧ valW ws < capN) ∧ (512 < k → capN ≤ valW ws) := by
  have hl : (ws.take k).length = k := by rw [List.length_take, h.len]; omega
  constructor
  · intro h1
    have : Ws T w q k c (valW ws) := ⟨⟨_, h.front hk, hn, hv⟩, h1, hT⟩
    exact ⟨this, this.lt⟩
  · intro h1
    rw [← hv]
    exact powW_big hn (by omega)
theorem res_cell_tmp {P : Program} {fn : Func} {p u : Tmp} {ty : TypeId} (h : fn.results = #[.cell p ty, .tmp u]) (tmps : Array Value) (w : World) (g : Nat) (t : TypeId) (cs : Array Value) (fr : Nat × Nat) (d : TypeDesc) (v : Value)
    (hp : tmps.getD p undef = .pointer (some ⟨g, 0, none⟩)) (hg : w.heap[g]? = some (.cells cs t fr)) (hv : tmps.getD u undef = v)
    (hu : P.underlying ty = some d) (hd : (match d with | .struct _ | .array _ _ => true | _ => false) = true) (hi : (P.info? ty).map (·.size) = some cs.size) :
    (results fn tmps).run P w = .ok (.tuple #[.agg cs, v]) w := by
  have hp' : tmps[p]?.getD undef = .pointer (some ⟨g, 0, none⟩) := by simpa using hp
  have hv' : tmps[u]?.getD undef = v := by simpa using hv
  simp [results, h, hp', hv', asAddr, run_loadVar_row w g t ty cs fr d hg hu hd hi]
theorem hal_eq {w : World} {ob : Obj} {i : Nat} (h : i < w.heap.size) : (w.alloc ob).heap[i]? = w.heap[i]? := by rw [heap_alloc, if_neg (by omega)]
/-- a block of one cell, behind further blocks -/
structure One (w : World) (g : Nat) (v : Value) (T : TypeId) : Prop where
  box : w.heap[g]? = some (.cells #[v] T (0, 0))
  cell : w.cell? ⟨g, 0, none⟩ = some v
  free : w.frozen? ⟨g, 0, none⟩ = false
  acell : ∀ o, (w.alloc o).cell? ⟨g, 0, none⟩ = some v
  afree : ∀ o, (w.alloc o).frozen? ⟨g, 0, none⟩ = false
theorem One.of {w : World} {g : Nat} {v : Value} {T : TypeId} (h : w.heap[g]? = some (.cells #[v] T (0, 0))) : One w g v T :=
  ⟨h, cell_of_row _ _ 0 _ _ _ h, frozen_of_row _ _ _ _ _ h, fun _ => cell_of_row _ _ 0 _ _ _ (hal h), fun _ => frozen_of_row _ _ _ _ _ (hal h)⟩
theorem NormW_nil : NormW [] := by simp [NormW]
end Go.By
namespace Go.Proofs.YtfbmdlfkipipfaaGreatDoor
open Go.RowKit Go.By
theorem info_nat : (Tryz.prog.info? 40).map (·.size) = some 1 := by kernel_rfl
theorem info_u64 : (Tryz.prog.info? 44).map (fun i => (i.zero, i.size, i.bytes)) = some (some (.int .u64 0), 1, 8) := by kernel_rfl
set_option maxRecDepth 100000 in
set_option maxHeartbeats 1000000 in
theorem made_any (q : Option Addr) (n c : Nat) (ws : List UInt64) (w : World) (h : Sl W64 w q n c ws) (hT : Lies 44 w q) :
    Calls Tryz.prog 60 #[.slice q n c] w (RetMn 44 w (valW ws)) := by
  have hn := h.bound
  have hnc := h.le
  have hinfo := info_nat
  have HA : Hid (∀ o, Sl W64 (w.alloc o) q n c ws) := fun o => h.keep (al (Below.refl _ _) (Nat.le_refl _))
  have HT : Hid (∀ o, Lies 44 (w.alloc o) q) := fun o => hT.keep (al (Below.refl _ _) (Nat.le_refl _))
  have HT0 := Lib.hid hT; clear hT
  have HB : Hid (∀ o, Below w.heap.size w (w.alloc o)) := fun o => al (Below.refl _ _) (Nat.le_refl _)
  have HX : Hid (∀ o, (w.alloc o).heap[w.heap.size]? = some o) := fun o => hnew rfl
  have H := Lib.hid h; clear h
  go_enter Tryz.func60, Tryz.ntmps60
  go_wp2
  go_loop [4] (fun i => ∃ k : Nat, k ≤ n ∧ i = .int .i64 k ∧ Hid (valW (ws.take k) = valW ws)) (fun i => (intOf i).toNat)
  case atStart => exact ⟨n, Nat.le_refl _, rfl, by show valW (ws.take n) = valW ws; rw [← H.out.len, List.take_length]⟩
  case round =>
    obtain ⟨k, hk, rfl, hr⟩ := hrel
    by_cases hk0 : k = 0
    · subst hk0
      have HE : Hid (∀ o, Ws 44 (w.alloc o) q 0 c (valW ws)) := fun o => ((made_end (HA.out o) (HT.out o) (Nat.zero_le n) (by simpa using NormW_nil) hr.out).1 (by omega)).1
      have HL : Hid (valW ws < capN) := ((made_end H.out HT0.out (Nat.zero_le n) (by simpa using NormW_nil) hr.out).1 (by omega)).2
      cases q with
      | none =>
        obtain ⟨rfl, rfl⟩ := H.out.nil rfl
        go_wp2
        exact bodyPost_ret (res_cell_tmp rfl _ _ _ 40 #[.slice none 0 0] (0, 0) _ (.int .i64 0) rfl (HX.out _) rfl Tryz.underlying40 rfl hinfo) rfl (Or.inl ⟨HL.out, _, _, _, rfl, HE.out _, HB.out _⟩)
      | some ad =>
        go_wp2
        exact bodyPost_ret (res_cell_tmp rfl _ _ _ 40 #[.slice (some ad) 0 c] (0, 0) _ (.int .i64 0) rfl (HX.out _) rfl Tryz.underlying40 rfl hinfo) rfl (Or.inl ⟨HL.out, _, _, _, rfl, HE.out _, HB.out _⟩)
    · obtain ⟨j, rfl⟩ : ∃ j, k = j + 1 := ⟨k - 1, by omega⟩
      obtain ⟨b, o, x, rfl, hc, hx⟩ := H.out.at j (by omega)
      have hc' : ∀ ob, (w.alloc ob).cell? ⟨b, o + j, none⟩ = some (W64 x) := fun ob => (World.cell?_of_block (a := ⟨b, o + j, none⟩) (hal_eq (lt_of_cell hc))).trans hc
      clear hc hk0
      by_cases hx0 : x.toNat = 0
      · have HV : Hid (valW (ws.take j) = valW ws) := (valW_take_zero hx.out hx0).symm.trans hr.out
        rw [show W64 x = .int .u64 0 by show Value.int .u64 (x.toNat : Int) = _; rw [hx0]; rfl] at hc'
        clear hx0
        go_wp2
        go_round
        case rel => exact ⟨j, by omega, by go_num, HV⟩
        case measure => simp [intOf]
      · have HN : Hid (NormW (ws.take (j + 1))) := NormW_take hx.out hx0
        have hx1 : ((x.toNat : Int) == 0) = false := by simpa using hx0
        clear hx0
        by_cases h512 : j + 1 ≤ 512
        · have HE : Hid (∀ ob, Ws 44 (w.alloc ob) (some ⟨b, o, none⟩) (j + 1) c (valW ws)) := fun ob => ((made_end (HA.out ob) (HT.out ob) hk HN.out hr.out).1 h512).1
          have HL : Hid (valW ws < capN) := ((made_end H.out HT0.out hk HN.out hr.out).1 h512).2
          have h512' : ¬ ((512 : Int) < (j : Int) + 1) := by omega
          clear h512
          go_wp2
          exact bodyPost_ret (res_cell_tmp rfl _ _ _ 40 #[.slice (some ⟨b, o, none⟩) (j + 1) c] (0, 0) _ (.int .i64 0) rfl (HX.out _) rfl Tryz.underlying40 rfl hinfo) rfl (Or.inl ⟨HL.out, _, _, _, rfl, HE.out _, HB.out _⟩)
        · have HL : Hid (capN ≤ valW ws) := (made_end H.out HT0.out hk HN.out hr.out).2 (by omega)
          have h512' : (512 : Int) < (j : Int) + 1 := by omega
          clear h512
          go_wp2
          exact bodyPost_ret (res_cell_tmp rfl _ _ _ 40 #[.slice none 0 0] (0, 0) _ (.int .i64 16) rfl (HX.out _) rfl Tryz.underlying40 rfl hinfo) rfl (Or.inr ⟨HL.out, rfl, HB.out _⟩)
theorem valW_one (x : UInt64) : valW [x] = x.toNat := by show x.toNat + _ * 0 = _; omega
theorem small_cap (x : UInt64) : x.toNat < capN := Nat.lt_of_lt_of_le (by have := powW_lt [x]; rw [valW_one] at this; exact this) (powW_mono (show 1 ≤ 512 by decide))
set_option maxRecDepth 100000 in
set_option maxHeartbeats 1000000 in
theorem OfN_any (x : UInt64) (w : World) : Calls Tryz.prog 16 #[W64 x] w (RetN1 44 w x.toNat) := by
  have hinfo := info_nat
  have hm : (1 : Nat) ≤ maxLen := by simp [maxLen]
  go_enter Tryz.func16, Tryz.ntmps16
  go_wp2_with fail
  refine Calls.mono (made_any _ 1 1 [x] _ (sl_block [x] 1 (hnew (by simp)) rfl rfl hm) (Lies.at (hnew (by simp)))) ?_
  rintro e w1 hr
  rw [valW_one] at hr
  obtain ⟨q, n, c, rfl, hws, hb⟩ := hr.ok (small_cap x)
  have hone : One w1 w.heap.size (.slice none 0 0) 40 := One.of ((hb.block _ (by simp <;> omega)).trans (hal (hnew rfl)))
  have HO : Hid (∀ o, (w1.alloc o).heap[w.heap.size]? = some (.cells #[.slice none 0 0] 40 (0, 0))) := fun o => hal hone.box
  obtain ⟨_, a1, a2, a3, a4⟩ := hone
  have hsz := hb.size
  simp at hsz
  have HB : Hid (Below w.heap.size w w1) := bl (al (al (Below.refl _ _) (Nat.le_refl _)) (by simp)) hb (by simp <;> omega)
  have HF : Hid (∀ o v, Below w.heap.size w ((w1.alloc o).setCell ⟨w.heap.size, 0, none⟩ v) ∧ Below w1.heap.size w1 (w1.alloc o)) := fun o v => ⟨(al HB.out (by omega)).setCell (Nat.le_refl _) _, al (Below.refl _ _) (Nat.le_refl _)⟩
  have HW : Hid (∀ o v, Ws 44 ((w1.alloc o).setCell ⟨w.heap.size, 0, none⟩ v) q n c x.toNat) := fun o v => (hws.keep (al (Below.refl _ _) (Nat.le_refl _))).set (HO.out o) (by decide)
  clear hr hws hb hsz
  go_wp2
  exact bodyPost_ret (results_cell_row rfl _ _ _ 40 #[.slice q n c] (0, 0) _ rfl (hss (HO.out _)) Tryz.underlying40 rfl hinfo) rfl ⟨_, _, _, rfl, HW.out _ _, (HF.out _ _).1⟩
end Go.Proofs.YtfbmdlfkipipfaaGreatDoor
namespace Go.Proofs
open Go.Shelf
def Tryz.lays264_ren : Go.Shelf.Ren := ⟨fun | 264 => 117 | n => n, fun | 53 => 44 | 46 => 73 | n => n, fun | n => n⟩
theorem Tryz.lays264 : Go.Proofs.Lays.n264 Tryz.prog Tryz.lays264_ren := {
  mixed := by kernel_rfl
  f264 := Tryz.func117.trans (congrArg some (by kernel_rfl))
  t46 := Tryz.underlying73
  a46 := Tryz.isAgg73
  z46 := Tryz.sizeOf73
  v46 := Tryz.zeroValue73
  t53 := Tryz.underlying44
  a53 := Tryz.isAgg44
  z53 := Tryz.sizeOf44
  v53 := Tryz.zeroValue44 }
open Go.RowKit Go.Lib in
theorem Tryz.bits_Mul64 (x y : Nat) (hx : x < 18446744073709551616) (hy : y < 18446744073709551616) (w : World) :
    Calls Tryz.prog 117 #[.int .u64 x, .int .u64 y] w fun e w' => e = .returned (.tuple #[.int .u64 ((x * y / 18446744073709551616 : Nat) : Int), .int .u64 ((x * y % 18446744073709551616 : Nat) : Int)]) ∧ w' = w := Any.bits_Mul64 Tryz.lays264 x y hx hy w
end Go.Proofs
