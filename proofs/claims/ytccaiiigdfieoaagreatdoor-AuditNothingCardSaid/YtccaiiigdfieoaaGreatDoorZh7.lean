/- Chapter 19: taker.Take of a packet that is put. The contracts of the whole of the symbols,Join and Clean. The contracts of Join and Clean. The contracts of the reference's All and of the law's few; the chapter's example. The contract of the law's few; the chapter's example. Chapter 11: fits,piece,Cut,Spread. Chapter 17: a sender in memory; sender.New,Send,Explicit. Chapter 17: sender.Send. An append stays in its own block,or goes to a new one. Chapter 21: a relay in memory; New,Next,Say of what says nothing. Chapter 21: relay.Say of what says something. What is written is read again; the numbers of the law's examples. Chapter 21: what a turn of a sender,a taker,a relay leaves as it is; sender.Explicit. Chapter 19: taker.Status,Rank,Object. Plain laws of GridTells: rows and what they are joined; a unit's bytes. GridTells: the walk,no unit. The walk of the grid's Inverse. Plain laws of GridReckons: rows and their vectors,products,columns,the inverse. The contract of the reference's Mul. GridTells: the walk,no grid,a unit. GridTells: the walk,a grid,a unit. GridTells: the walk,whole. What the laws of grids carry along from call to call. The contract of the reference's without. The contract of the reference's Det. Plain laws of GridRanks: ranks of turned grids and products,determinants,inverses of inverses. Plain law of ElimSolves: equations that symbols solve. Plain law: packets of one object. They never clash; the rows are as many as the rank of the vectors that came; full rows have the object. A sender while others turn; two takers beside each other. Of a plan that may not be there is no gate,no taker,no relay; a plan that may be as numbers. A region that draws its order,by shapes,by what holds of the world as operations run,and by ties between slots. Two slices of headers,each grown by one in a region that draws its order. A plan of an object; ranks of combinations; rows of headers of new bytes while others turn. Chapter 19: the law's awake. A sender and a taker in memory,carried along. The contracts of the document's sum: Put,Sum (bit by bit). Plain law: a packet of which one stretch of four bytes has turned is not let in. What TakerHas,TripRuns,TripArrives carry: rows of bytes that grow; a sender that may refuse. Arguments that came in,as bytes and slices of bytes. Slices of structs of two slices of bytes,that came in. Sources that came in: a slice of structs of a byte,bytes and a number,opened. What the laws of the packets ask first: few bytes,small plans. Chapter 19: TakerHas,of an object that the plan fits. The contracts of slices.Delete and slices.Insert at parcels. The contract of slices.Insert at parcels: one more,where there is room. Lists of parcels that the call owns: each owns its bytes,no two share them. The contracts of the acts: drop,move,forge. The contract of the act move. The contract of the act double. The contract of the act cut. One cell of a parcel is written: its bytes,or where it came from. The contract of the act mask. What acts do to lists of packets; acts that came in,read from memory. Acts that came in: a slice of structs of five cells,and one by value,opened. The contract of play. The contracts of Apply and Whole. The contracts of Whole,of slices.Equal at ints,of Harms; of the law's Few; the chapter's example. The contract of the law's Few of layer 20; the chapter's example. The plain law of WayWhole: what came whole is what was sent; acts that harm nothing leave all whole; acts one by one are as all at once. Chapter 22: what a trip comes to (plain); what a sender and a taker carry along while other blocks turn. Chapter 24,plain: what a taker's rows are as packets,and as a text. Where equations first clash: plain law. A row of headers that read in an older world; vectors of rows. Where equations first clash. The reference's Vectors. The reference's Wide. The reference's Judge. Chapter 19,plain: the equations that the document keeps,and a taker's rows; how they lie in memory. Plain: a taker's rows,told as packets and heard again,are the same rows,and the status. Chapter 28,plain: a taker's rows break no rule. Chapter 28: slices.EqualFunc at rows: of the same rows. bytes.Equal: of the same bytes. Chapter 18: how often a gate was asked: Seen. Chapter 19: TakerNone. Chapter 19: a taker's clone. DERIVED: THE SHELF's CONTRACTS AT THIS DUMP,IN PLAIN WORDS (tools/lay-plain.mjs out of 'TryzIter.lean',which tools/lay-shelf.mjs wrote): THE SAME DECLARATIONS UNDER THE SAME NAMES: 'import','namespace','open','def','theorem' AND NOTHING ELSE: no command of the shelf's: FOR A HAND-IN. Each laying: the table of numbers ('.._ren') and one theorem,a field a fact of the dump's own or the kernel's comparison; each contract: ONE APPLICATION. A map from numbers to slices,made by the call; its keys in order. The keys of such a map,in order: maps.Keys,slices.Sorted. glue.Fill,where all that is known fits. The walk of glue.Fill,where all that is known fits. Chapter 19: what a taker knows: Some. Chapter 12: the reference's Fill,of numbers that are each known once. A row of one's own of which every cell,the spare ones too,is told: appends leave other slices' cells alone. Chapter 19: what TakerTakes leans on: Seen of any gate; equal lists of bools; the object of one that is done. The document's mixing: shifted,Next,Bytes (chapter 5). A region that draws its order,in which one whole row is stored: all else is told values (calls that change nothing among them). The document's heads as read (chapter 13); widths,lengths (chapters 14,15). The document's packets as read (chapters 14,15). Chapter 19: the document's Take. Chapter 19: TakerTakes,of a plan that may be. Chapter 28: audit.same,of two takers that know the same. Plain: commands of a script,their lines,and what lines say. No program in sight. Plain: the ways in which a text is gone through,sign by sign. No program in sight. Chapter 24,the reference: value,Unhex. The chapter's example (plan). -/
import Derived.Test.YtccaiiigdfieoaaGreatDoorZh6
import Derived.Laws.OwnMore
import Derived.OwnWalk
import Derived.WalkKit
import Derived.Laws.AppendOwn
import Derived.OpenShut
import Derived.Lib.SmallJoins
import Derived.Deep.DeepCutAuto
import Derived.Deep.RegionLaw
import Derived.Lib.Overlaps
import Derived.Shelf.Spec.SlicesInsert
import Derived.Lib.AppendZeros
import Derived.Deep.AppendLies
import Derived.Deep.RegionWith
import Derived.BigQuiet
import Derived.Laws.BytesArg
import Derived.Shelf.SlIterI.Nil
import Derived.Shelf.SortM.Plain
import Derived.Shelf.SortM.SortNone
import Derived.Test.YtccaiiigdfieoaaGreatDoorProg
import Derived.Maps.Own
import Derived.Maps.Views
import Derived.StillTailTactics
import Derived.Laws.CopyOwn
import Derived.Deep.QuietTactic
namespace Go.Proofs.YtccaiiigdfieoaaGreatDoor
open Go.RowKit Go.By Go.Maps
def PutP (base be k t : Nat) (v : Value) (K : List Rw) (x : Rw) (w5 W : World) : Prop := ∃ v' n',Elm W base be k t v' n' (putK K x) ∧ Chg w5 W be v ∧ (v'.ownBlock = v.ownBlock ∨ ∀ b,v'.ownBlock = some b → w5.heap.size ≤ b)
set_option maxRecDepth 100000 in
set_option maxHeartbeats 4000000 in
theorem TTake_put (base gt be L t k D N : Nat) (M v : Value) (C : DataW Unit) (K : List Rw) (st : Nat) (p : Option Addr) (n c : Nat) (xs : List UInt8) (w : World) (h : Tkr w base gt be L t k D N M v C K st) (hT : HalfT w) (hN : N < 1000000) (hs : Sl B8 w p n c xs) (hr : Room n) (hc : readC k t D xs = 0) (hst : st = 0) :
  Calls Tryz.prog 16 #[.pointer (some ⟨gt,0,none⟩),.slice p n c] w (TkRet w base gt be L t k D (N + 1) v (bump C (readC k t D xs)) (putK K (eqX k t xs)) (nextS K (eqX k t xs) k) (readC k t D xs)) := by
 have HG : Hid (∀ w,HalfT w → CntM w M N C → Sl B8 w p n c xs → Calls Tryz.prog 62 #[GVal L t k D M,.slice p n c] w fun e w' => ∃ b2 v0 v1 v2 v3 v4 v5 v6,e = .returned (.tuple #[GVal L t k D (.map (some b2)),.agg #[v0,v1,v2,v3,v4,v5,v6],.int .i64 (readC k t D xs)]) ∧
   CntM w' (.map (some b2)) (N + 1) (bump C (readC k t D xs)) ∧ PkC w' w.heap.size k t D xs v0 v1 v2 v3 v4 v5 v6 ∧ Below w.heap.size w w') := fun w hT hC hs => GLook_any L t k D N M C p n c xs w h.ok hT hC hN hs hr
 have H := Lib.hid h
 have HT := Lib.hid hT
 have HS := Lib.hid hs
 obtain ⟨c0,c1,c2,c3,c4,c5,c6⟩ := cells_seven h.box
 rw [hc] at HG ⊢
 have HC := Lib.hid hc
 subst hst
 obtain ⟨hmo,hX0,hYl⟩ := read_fits hc
 have hXl : (pktX k xs).length ≤ 4096 := by
  have := h.ok.k2
  by_cases h0 : pktM xs = 0
  ·rw [hX0 h0]; exact this
  ·have e : pktX k xs = [] := if_neg h0
   rw [e]; simp
 have hVl : (vecS (pktM xs) (pktX k xs) (pktS k xs) k).length = k := by
  unfold vecS
  by_cases h0 : pktM xs = 0
  ·rw [if_pos h0]; exact hX0 h0
  ·rw [if_neg h0,mixRow_len]
 have HQ : Hid (∀ w p j c s q d,j = (pktX k xs).length → s = pktS k xs → Sl B8 w p j c (pktX k xs) → Sl B8 w q t d (pktY k t xs) → Calls Tryz.prog 63 #[PkVal (pktM xs) D (pktN xs) (pktM xs) p j c s q t d,PVal L t k D] w (EqRet w (eqX k t xs).1 (eqX k t xs).2)) := fun w p j c s q d hj hs s1 s2 => by
  subst hs
  exact PEquation_ok L t k D (pktN xs) (pktM xs) p j c (pktS k xs) q d (pktX k xs) (pktY k t xs) w h.ok hmo (fun h0 => by rw [hj]; exact hX0 h0) (by rw [hj]; show _ ≤ _; omega) s1 s2
 obtain ⟨x,hx⟩ : ∃ x,eqX k t xs = x := ⟨_,rfl⟩
 have hx1 : x.1.length = k := by rw [← hx]; exact hVl
 have hx2 : x.2.length = t := by rw [← hx]; exact hYl
 rw [hx] at HQ ⊢
 have HX1 := Lib.hid hx1
 have HX2 := Lib.hid hx2
 have HYl := Lib.hid hYl
 clear h hT hs hr hN hc hmo hX0 hYl hXl hVl hx hx1 hx2
 go_enter Tryz.func16,Tryz.ntmps16
 go_wp2_with fail
 refine Calls.mono (HG.out _ HT.out H.out.cnt HS.out) ?_
 rintro e w1 ⟨b2,v0,v1,v2,v3,v4,v5,v6,rfl,hcn,hpk,hb⟩
 have HB := Lib.hid hb
 have HCn := Lib.hid hcn
 have HPk := Lib.hid hpk
 obtain ⟨o0,o1,o2,o3,o4,o5,o6⟩ := hpk.1
 clear c0 c1 c2 c3 c4 c5 c6 hb hcn hpk
 go_wp2_with (first | (refine wpList_store_row (o := ⟨none,.store 111 (.tmp 5) (.tmp 19),_,_,_,_⟩) rfl 111 (.tmp 5) (.tmp 19) rfl w1.heap.size #[.int .i64 (L : Nat),.int .i64 (t : Nat),.int .i64 (k : Nat),.int .u32 (D : Nat),.map (some b2)] rfl rfl _ _ (hal (hnew rfl)) info_gate rfl (ones_gate rfl) ?_) | (refine wpList_store_rowS (o := ⟨none,.store 122 (.tmp 6) (.tmp 20),_,_,_,_⟩) rfl 122 (.tmp 6) (.tmp 20) rfl (w1.heap.size + 1) #[v0,v1,v2,v3,v4,v5,v6] rfl rfl _ _ (hro (hnew (by simp)) (by omega)) info_packet rfl (by simp [o0,o1,o2,o3,o4,o5,o6]) ?_))
 intro w2 hr2
 have HB2 : Hid (Below w.heap.size w w2) := by rw [hr2.eq]; exact below_row (below_row (al (al HB.out HB.out.size) (by have := HB.out.size; simp; omega)) HB.out.size) (by have := HB.out.size; omega)
 have k5 : w2.heap[w1.heap.size]? = some (.cells #[.int .i64 (L : Nat),.int .i64 (t : Nat),.int .i64 (k : Nat),.int .u32 (D : Nat),.map (some b2)] 111 (0,0)) := by rw [hr2.eq]; exact hro (hrs (hal (hnew rfl))) (by omega)
 have k6 : w2.heap[w1.heap.size + 1]? = some (.cells #[v0,v1,v2,v3,v4,v5,v6] 122 (0,0)) := by rw [hr2.eq]; exact hrs (hro (hnew (by simp)) (by omega))
 have kt := (HB2.out.block _ (lt_of_block H.out.box)).trans H.out.box
 have HPk2 : Hid (PkC w2 w.heap.size k t D xs v0 v1 v2 v3 v4 v5 v6) := by rw [hr2.eq]; exact ((HPk.out.keep (al (al (Below.refl _ _) (Nat.le_refl _)) (by simp))).row (hal (hnew rfl)) gate_ne).row (hro (hnew (by simp)) (by omega)) pkt_ne
 have HCn2 : Hid (CntM w2 (.map (some b2)) (N + 1) (bump C 0)) := by rw [hr2.eq]; exact ((HCn.out.keep (al (al (Below.refl _ _) (Nat.le_refl _)) (by simp))).row (hal (hnew rfl))).row (hro (hnew (by simp)) (by omega))
 have hgt := lt_of_block H.out.box
 have hG5 := HB.out.size
 clear hr2 HCn HPk HB
 obtain ⟨g5,hg5⟩ : ∃ g5,g5 = w1.heap.size := ⟨_,rfl⟩
 rw [← hg5] at k5 k6 hG5 ⊢
 clear hg5
 obtain ⟨c0,c1,c2,c3,c4,c5,c6⟩ := cells_seven kt
 obtain ⟨d0,d1,d2,d3,d4⟩ := cells_five k5
 go_wp2_with (refine wpList_store_five (o := ⟨none,.store 111 (.tmp 25) (.tmp 23),_,_,_,_⟩) rfl 111 (.tmp 25) (.tmp 23) rfl gt (L : Nat) (t : Nat) (k : Nat) (D : Nat) b2 _ _ _ _ _ _ _ _ rfl rfl kt info_gate Tryz.underlying111 ?_)
 intro w3 hO kt3
 have HO := Lib.hid hO
 have m5 := (hO.block g5 (by omega)).trans k5
 have m6 := (hO.block (g5 + 1) (by omega)).trans k6
 have HCn3 := Lib.hid (HCn2.out.one hO kt)
 have HPk3 := Lib.hid (HPk2.out.one hO kt tk_ne.1)
 have HEl := Lib.hid (hO.elm (H.out.elm.keep HB2.out) kt tk_ne.2.1 tk_ne.2.2 tk_ne.1)
 have HTC := Lib.hid ((TChg.of gt be v HB2.out).one hO)
 have HT3 := Lib.hid (HT.out.keep HB2.out)
 have hs3 : w3.heap.size = w2.heap.size := hO.size
 have hl6 := lt_of_block k6
 clear k5 k6 kt hO c0 c1 c2 c3 c4 c5 c6 d0 d1 d2 d3 d4 HCn2 HPk2
 obtain ⟨c0,c1,c2,c3,c4,c5,c6⟩ := cells_seven kt3
 obtain ⟨q,j,cq,q2,j2,cq2,r0,r1,r2,r3,r4,r5,r6,f1,f2⟩ := HPk3.out.2 HC.out
 subst r0 r1 r2 r3 r4 r5 r6
 have hj2 : t = j2 := by rw [← f2.sl.len]; exact HYl.out.symm
 subst hj2
 have hj := f1.sl.len
 have F1 := Lib.hid f1.sl
 have F2 := Lib.hid f2.sl
 have HJ := Lib.hid hj.symm
 clear f1 f2 hj
 obtain ⟨d0,d1,d2,d3,d4⟩ := cells_five m5
 obtain ⟨f0,f1,f2,f3,f4,f5,f6⟩ := cells_seven m6
 go_wp2_with fail
 refine Calls.mono (HQ.out _ _ _ _ _ _ _ HJ.out rfl F1.out F2.out) ?_
 rintro e w4 ⟨qa,na,ca,qb,nb,cb,rfl,Fa,Fb,hb⟩
 have hna : k = na := by rw [← Fa.sl.len]; exact HX1.out.symm
 have hnb : t = nb := by rw [← Fb.sl.len]; exact HX2.out.symm
 subst hna hnb
 have kt4 := (hb.block _ (lt_of_block kt3)).trans kt3
 have n5 := (hb.block _ (lt_of_block m5)).trans m5
 have HCn4 := Lib.hid (HCn3.out.keep hb)
 have HEl4 := Lib.hid (HEl.out.keep hb)
 have HTC4 := Lib.hid (HTC.out.then hb)
 have SA := Lib.hid Fa.sl
 have SB := Lib.hid Fb.sl
 have hown : v.ownBlock ≠ some w4.heap.size := fun e => by have := (HEl4.out.rows.lt _ e).2; omega
 have HW := Lib.hid (lt_of_block m5)
 have hs4 := hb.size
 clear hb kt3 m5 m6 HCn3 HPk3 HEl HTC Fa Fb c0 c1 c2 c3 c4 c5 c6 d0 d1 d2 d3 d4 f0 f1 f2 f3 f4 f5 f6
 go_wp2_with fail
 have kt5 : (w4.alloc (.cells #[.slice qa k ca,.slice qb t cb] 99 (0,0))).heap[gt]? = some (.cells #[.int .i64 (L : Nat),.int .i64 (t : Nat),.int .i64 (k : Nat),.int .u32 (D : Nat),.map (some b2),.pointer (some ⟨be,0,none⟩),.int .i64 (0 : Nat)] 118 (0,0)) := hal kt4
 have kg5 : (w4.alloc (.cells #[.slice qa k ca,.slice qb t cb] 99 (0,0))).heap[g5]? = some (.cells #[.int .i64 (L : Nat),.int .i64 (t : Nat),.int .i64 (k : Nat),.int .u32 (D : Nat),.map (some b2)] 111 (0,0)) := hal n5
 have kr5 : (w4.alloc (.cells #[.slice qa k ca,.slice qb t cb] 99 (0,0))).heap[w4.heap.size]? = some (.cells #[.slice qa k ca,.slice qb t cb] 99 (0,0)) := hnew rfl
 have HCn5 := Lib.hid (HCn4.out.keep (al (o := .cells #[.slice qa k ca,.slice qb t cb] 99 (0,0)) (Below.refl _ _) (Nat.le_refl _)))
 have HEl5 := Lib.hid (HEl4.out.keep (al (o := .cells #[.slice qa k ca,.slice qb t cb] 99 (0,0)) (Below.refl _ _) (Nat.le_refl _)))
 have HTC5 := Lib.hid (HTC4.out.then (al (o := .cells #[.slice qa k ca,.slice qb t cb] 99 (0,0)) (Below.refl _ _) (Nat.le_refl _)))
 have SA5 := Lib.hid (SA.out.keep (al (o := .cells #[.slice qa k ca,.slice qb t cb] 99 (0,0)) (Below.refl _ _) (Nat.le_refl _)))
 have SB5 := Lib.hid (SB.out.keep (al (o := .cells #[.slice qa k ca,.slice qb t cb] 99 (0,0)) (Below.refl _ _) (Nat.le_refl _)))
 clear kt4 n5 HCn4 HEl4 HTC4 SA SB
 obtain ⟨g8,hg8⟩ : ∃ g8,g8 = w4.heap.size := ⟨_,rfl⟩
 rw [← hg8] at kr5 hown hs4 ⊢
 clear hg8
 generalize w4.alloc (.cells #[.slice qa k ca,.slice qb t cb] 99 (0,0)) = w5 at *
 have hmem : Hid (∀ W,(W = w5.drew ∨ PutP base be k t v K x w5 W) → W.heap[gt]? = some (.cells #[.int .i64 (L : Nat),.int .i64 (t : Nat),.int .i64 (k : Nat),.int .u32 (D : Nat),.map (some b2),.pointer (some ⟨be,0,none⟩),.int .i64 (0 : Nat)] 118 (0,0)) ∧ W.heap[g8]? = some (.cells #[.slice qa k ca,.slice qb t cb] 99 (0,0))) := by
  intro W hW
  rcases hW with rfl | ⟨v',n',-,hc,-⟩
  ·exact ⟨kt5,kr5⟩
  ·exact ⟨hc.blk2 HEl5.out kt5 tk_ne.2.1 tk_ne.2.2,hc.blk HEl5.out kr5 (by decide) hown⟩
 refine wp_region_call (fun ix => ([.pointer (some ⟨gt,0,none⟩),.pointer (some ⟨gt,0,none⟩),.pointer (some ⟨gt,5,none⟩),.pointer (some ⟨be,0,none⟩),.agg #[.slice qa k ca,.slice qb t cb],.tuple #[.int .i64 (codeF K x),.int .i64 0],.tuple #[.int .i64 (codeF K x),.int .i64 0],.int .i64 (codeF K x),.int .i64 0,.int .i64 (codeF K x),.int .i64 0][ix]?).getD undef) 75 5 (PutP base be k t v K x w5) rfl (by kernel_rfl) (by decide) (by decide) (by decide) (by decide) (by decide) ?_ ?_ ?_
 ·intro i o h1 ho a W hW hs hp hi
  obtain ⟨m1,m2⟩ := hmem.out W hW
  match i,h1,ho with
  | 0,_,ho =>
   simp at ho; subst ho
   have tt : sl a 0 = .pointer (some ⟨gt,0,none⟩) := hi 0 (by decide)
   simp only [execOp,eval_tmp,tt]; rfl
  | 1,_,ho =>
   simp at ho; subst ho
   have tt : sl a 47 = .pointer (some ⟨gt,0,none⟩) := hp 0 47 (by decide) rfl
   simp only [execOp,eval_tmp,tt]; simp [go_sem]
  | 2,_,ho =>
   simp at ho; subst ho
   have tt : sl a 48 = .pointer (some ⟨gt,0,none⟩) := hp 1 48 (by decide) rfl
   simp only [execOp,eval_tmp,tt]; simp [go_sem]
  | 3,_,ho =>
   simp at ho; subst ho
   have tt : sl a 49 = .pointer (some ⟨gt,5,none⟩) := hp 2 49 (by decide) rfl
   obtain ⟨x0,x1,x2,x3,x4,x5,x6⟩ := cells_seven m1
   simp only [execOp,eval_tmp,tt]; simp [go_sem,x5]
  | 4,_,ho =>
   simp at ho; subst ho
   have tt : sl a 8 = .pointer (some ⟨g8,0,none⟩) := hi 8 (by decide)
   obtain ⟨x0,x1⟩ := cells2 m2
   simp only [execOp,eval_tmp,tt]; simp [go_sem,x0,x1]
  | 6,_,ho =>
   simp at ho; subst ho
   have tt : sl a 52 = .tuple #[.int .i64 (codeF K x),.int .i64 0] := hp 5 52 (by decide) rfl
   simp only [execOp,eval_tmp,tt]; rfl
  | 7,_,ho =>
   simp at ho; subst ho
   have tt : sl a 46 = .tuple #[.int .i64 (codeF K x),.int .i64 0] := hp 6 46 (by decide) rfl
   simp only [execOp,eval_tmp,tt]; rfl
  | 8,_,ho =>
   simp at ho; subst ho
   have tt : sl a 46 = .tuple #[.int .i64 (codeF K x),.int .i64 0] := hp 6 46 (by decide) rfl
   simp only [execOp,eval_tmp,tt]; rfl
  | 9,_,ho =>
   simp at ho; subst ho
   have tt : sl a 53 = .int .i64 (codeF K x) := hp 7 53 (by decide) rfl
   simp only [execOp,eval_tmp,tt]; rfl
  | 10,_,ho =>
   simp at ho; subst ho
   have tt : sl a 54 = .int .i64 0 := hp 8 54 (by decide) rfl
   simp only [execOp,eval_tmp,tt]; rfl
  | 5,h,_ => exact absurd rfl h
  | j + 11,_,ho => simp at ho
 ·intro o ho a hs hp hi
  simp at ho; subst ho
  have t50 : sl a 50 = .pointer (some ⟨be,0,none⟩) := hp 3 50 (by decide) rfl
  have t51 : sl a 51 = .agg #[.slice qa k ca,.slice qb t cb] := hp 4 51 (by decide) rfl
  have hbd : Below w5.heap.size w5 w5.drew := ⟨rfl,rfl,rfl,Nat.le_refl _,fun _ _ => rfl⟩
  refine wp_enter 64 #[.pointer (some ⟨be,0,none⟩),.agg #[.slice qa k ca,.slice qb t cb]] ?_ (EPut_fit base be k t K.length v K qa qb ca cb x w5.drew (HEl5.out.keep hbd) (SA5.out.keep hbd) (SB5.out.keep hbd) H.out.red H.out.ok.k2 H.out.ok.t2 (Nat.le_trans (Red.le H.out.red) H.out.ok.k2)) ?_
  ·simp only [execOp,resolve,List.map_toArray,List.map,eval_tmp,eval_func,eval_const,t50,t51]; simp [go_sem]
  ·rintro e W' ⟨rfl,v',n',g1,g2,g3⟩
   exact ⟨_,rfl,rfl,v',n',g1,⟨g2.os,g2.tape,g2.output,g2.size,g2.block⟩,g3⟩
 ·intro a W hP1 hs hd hI ht
  have ha := act_is [47,48,49,50,51,52,46,53,54,9,7] hs hd ht (by decide)
  have t9 : sl a 9 = .int .i64 (codeF K x) := hI 9 9 (by decide) rfl
  have t7 : sl a 7 = .int .i64 0 := hI 10 7 (by decide) rfl
  simp only [List.foldl,t9,t7] at ha
  generalize sl a 47 = u47 at ha
  generalize sl a 48 = u48 at ha
  generalize sl a 49 = u49 at ha
  generalize sl a 50 = u50 at ha
  generalize sl a 51 = u51 at ha
  generalize sl a 52 = u52 at ha
  generalize sl a 46 = u46 at ha
  generalize sl a 53 = u53 at ha
  generalize sl a 54 = u54 at ha
  simp only [Act.put,List.setIfInBounds_toArray,List.set_cons_zero,List.set_cons_succ] at ha
  rw [ha]
  obtain ⟨kt6,-⟩ := hmem.out W (.inr hP1)
  have kg6 : W.heap[g5]? = some (.cells #[.int .i64 (L : Nat),.int .i64 (t : Nat),.int .i64 (k : Nat),.int .u32 (D : Nat),.map (some b2)] 111 (0,0)) := by
   obtain ⟨v',n',-,hc,-⟩ := hP1
   exact hc.blk2 HEl5.out kg5 (by decide) (by decide)
  have HCn6 : Hid (CntM W (.map (some b2)) (N + 1) (bump C 0)) := by
   obtain ⟨v',n',-,hc,-⟩ := hP1
   refine ⟨?_,HCn5.out.small⟩
   rcases HCn5.out.at_ with h1 | ⟨bb,e,ho⟩
   ·exact .inl h1
   ·refine .inr ⟨bb,e,?_⟩
    have hlt := ho.lt
    obtain ⟨es,clock,j1,F,j2,j3⟩ := ho
    refine ⟨es,clock,(hc.block bb hlt (fun e => ?_) (fun e => ?_)).trans j1,F,j2,j3⟩
    ·have := HEl5.out.box; rw [← e,j1] at this; cases this
    ·obtain ⟨vs,_,_,o,_⟩ := HEl5.out.rows
     rcases o.2 with ⟨e1,_⟩ | ⟨g',cap,cur,e1,_,hh,_⟩
     ·rw [e1] at e; cases e
     ·rw [e1] at e; cases e
      rw [j1] at hh; cases hh
  obtain ⟨v',n',hE6,hc6,ho6⟩ := hP1
  have hn' : n' = (putK K x).length := hE6.rows.len.symm
  subst hn'
  have HE6 := Lib.hid hE6
  have HTC6 := Lib.hid (HTC5.out.chg hc6)
  have HO6 : Hid (v'.ownBlock = v.ownBlock ∨ ∀ b,v'.ownBlock = some b → w.heap.size ≤ b) := by
   rcases ho6 with h | h
   ·exact .inl h
   ·exact .inr fun b hb => Nat.le_trans HTC5.out.size (h b hb)
  have HRd : Hid (Red k t (putK K x)) := by
   unfold putK
   by_cases hn : leadS (restF K x).1 < 0
   ·rw [if_pos hn]; exact H.out.red
   ·rw [if_neg hn]; exact (putF_red H.out.red ⟨HX1.out,HX2.out⟩ hn).1
  clear ha hI ht hs hd t9 t7 hE6 hc6 ho6 kt5 kg5 kr5 hmem hown
  obtain ⟨x0,x1,x2,x3,x4,x5,x6⟩ := cells_seven kt6
  have z6 := frozen_of_row _ _ 6 _ _ kt6
  have y2 := (cells_five kg6).2.2.1
  by_cases hcl : codeF K x = 2
  ·have HNX : Hid (nextS K x k = 2) := by unfold nextS; rw [if_pos hcl]; rfl
   go_wp2
   go_ret
   have hO : OneE W gt (W.setCell ⟨gt,6,none⟩ (.int .i64 2)) := (OneE.refl W gt).set _
   exact ⟨rfl,.map (some b2),v',⟨H.out.ok,by rw [HNX.out]; exact hss kt6,HCn6.out.one hO kt6,hO.elm HE6.out kt6 tk_ne.2.1 tk_ne.2.2 tk_ne.1,HRd.out,H.out.old⟩,HTC6.out.one hO,HO6.out⟩
  ·have e9 : (codeF K x == 2) = false := beq_eq_false_iff_ne.2 hcl
   by_cases hfull : (putK K x).length = k
   ·have HNX : Hid (nextS K x k = 1) := by unfold nextS; rw [if_neg hcl,if_pos hfull]; rfl
    have e15 : (((putK K x).length : Int) == (k : Int)) = true := by simp [hfull]
    clear hcl hfull
    go_wp2_with fail
    refine wp_region_shapes (fun ix => ([.val (.pointer (some ⟨gt,0,none⟩)),.val (.pointer (some ⟨gt,0,none⟩)),.val (.pointer (some ⟨gt,5,none⟩)),.val (.pointer (some ⟨be,0,none⟩)),.val (.int .i64 ((putK K x).length : Nat)),.val (.pointer (some ⟨g5,0,none⟩)),.val (.pointer (some ⟨g5,2,none⟩)),.val (.int .i64 (k : Nat)),.val (.bool true)][ix]?).getD (.any)) 75 rfl (by kernel_rfl) (by decide) (by decide) (by decide) ?_ ?_
    ·refine ⟨?_,?_,?_,?_,?_,?_,?_,?_,?_,trivial⟩
     ·intro a W hb0 hs hp hi; have hb := undrew hb0; clear hb0
      have t0 : sl a 0 = .pointer (some ⟨gt,0,none⟩) := hi 0 (by decide)
      exact ite_y rfl (wp_val (sl a 0) rfl ⟨_,rfl,Below.refl _ _,t0⟩)
     ·intro a W hb0 hs hp hi; have hb := undrew hb0; clear hb0
      have tt : sl a 63 = .pointer (some ⟨gt,0,none⟩) := hp 0 (by decide)
      refine ite_y rfl (wp_val (.pointer (some ⟨gt,0,none⟩)) ?_ ?_)
      ·simp only [execOp,eval_tmp,tt]; simp [go_sem]
      ·exact ⟨_,rfl,Below.refl _ _,rfl⟩
     ·intro a W hb0 hs hp hi; have hb := undrew hb0; clear hb0
      have t64 : sl a 64 = .pointer (some ⟨gt,0,none⟩) := hp 1 (by decide)
      refine ite_y rfl (wp_val (.pointer (some ⟨gt,5,none⟩)) ?_ ?_)
      ·simp only [execOp,eval_tmp,eval_const,t64]; simp [go_sem]
      ·exact ⟨_,rfl,Below.refl _ _,rfl⟩
     ·intro a W hb0 hs hp hi; have hb := undrew hb0; clear hb0
      have tt : sl a 65 = .pointer (some ⟨gt,5,none⟩) := hp 2 (by decide)
      have dd := (hb.cell (p := ⟨gt,5,none⟩) (lt_of_cell x5)).trans x5
      refine ite_y rfl (wp_val (.pointer (some ⟨be,0,none⟩)) ?_ ?_)
      ·simp only [execOp,eval_tmp,tt]; simp [go_sem,dd]
      ·exact ⟨_,rfl,Below.refl _ _,rfl⟩
     ·intro a W hb0 hs hp hi; have hb := undrew hb0; clear hb0
      have t66 : sl a 66 = .pointer (some ⟨be,0,none⟩) := hp 3 (by decide)
      refine ite_y rfl (wp_enter 65 #[.pointer (some ⟨be,0,none⟩)] ?_ (Rank_any' base be k t _ v' _ _ (HE6.out.keep hb)) ?_)
      ·simp only [execOp,resolve,List.map_toArray,List.map,eval_tmp,eval_func,eval_const,t66]; simp [go_sem]
      ·rintro e W' ⟨rfl,rfl⟩; exact ⟨_,rfl,_,rfl,Below.refl _ _,rfl⟩
     ·intro a W hb0 hs hp hi; have hb := undrew hb0; clear hb0
      have tt : sl a 5 = .pointer (some ⟨g5,0,none⟩) := hi 5 (by decide)
      refine ite_y rfl (wp_val (.pointer (some ⟨g5,0,none⟩)) ?_ ?_)
      ·simp only [execOp,eval_tmp,tt]; simp [go_sem]
      ·exact ⟨_,rfl,Below.refl _ _,rfl⟩
     ·intro a W hb0 hs hp hi; have hb := undrew hb0; clear hb0
      have tt : sl a 68 = .pointer (some ⟨g5,0,none⟩) := hp 5 (by decide)
      refine ite_y rfl (wp_val (.pointer (some ⟨g5,2,none⟩)) ?_ ?_)
      ·simp only [execOp,eval_tmp,tt]; simp [go_sem]
      ·exact ⟨_,rfl,Below.refl _ _,rfl⟩
     ·intro a W hb0 hs hp hi; have hb := undrew hb0; clear hb0
      have tt : sl a 69 = .pointer (some ⟨g5,2,none⟩) := hp 6 (by decide)
      have dd := (hb.cell (p := ⟨g5,2,none⟩) (lt_of_cell y2)).trans y2
      refine ite_y rfl (wp_val (.int .i64 (k : Nat)) ?_ ?_)
      ·simp only [execOp,eval_tmp,tt]; simp [go_sem,dd]
      ·exact ⟨_,rfl,Below.refl _ _,rfl⟩
     ·intro a W hb0 hs hp hi; have hb := undrew hb0; clear hb0
      have t67 : sl a 67 = .int .i64 ((putK K x).length : Nat) := hp 4 (by decide)
      have t70 : sl a 70 = .int .i64 (k : Nat) := hp 7 (by decide)
      refine ite_y rfl (wp_val (.bool true) ?_ ?_)
      ·simp only [execOp,eval_tmp,eval_const,t67,t70]; simp [go_sem,e15]
      ·exact ⟨_,rfl,Below.refl _ _,rfl⟩
    intro a w9 hb hs hd hI ht
    have ha := act_is [63,64,65,66,67,68,69,70,71] hs hd ht (by decide)
    have t71 : sl a 71 = .bool true := hI 8 (by decide)
    simp only [List.foldl,t71] at ha
    generalize sl a 63 = u63 at ha
    generalize sl a 64 = u64 at ha
    generalize sl a 65 = u65 at ha
    generalize sl a 66 = u66 at ha
    generalize sl a 67 = u67 at ha
    generalize sl a 68 = u68 at ha
    generalize sl a 69 = u69 at ha
    generalize sl a 70 = u70 at ha
    simp only [Act.put,List.setIfInBounds_toArray,List.set_cons_zero,List.set_cons_succ] at ha
    rw [ha]
    clear ha hI ht
    have kt7 := (hb.block _ (lt_of_block kt6)).trans kt6
    have HB7 := Lib.hid hb
    obtain ⟨x0,x1,x2,x3,x4,x5,x6⟩ := cells_seven kt7
    have z6 := frozen_of_row _ _ 6 _ _ kt7
    clear hb
    go_wp2
    go_ret
    have hO : OneE w9 gt (w9.setCell ⟨gt,6,none⟩ (.int .i64 1)) := (OneE.refl w9 gt).set _
    exact ⟨rfl,.map (some b2),v',⟨H.out.ok,by rw [HNX.out]; exact hss kt7,(HCn6.out.keep HB7.out).one hO kt7,hO.elm (HE6.out.keep HB7.out) kt7 tk_ne.2.1 tk_ne.2.2 tk_ne.1,HRd.out,H.out.old⟩,(HTC6.out.then HB7.out).one hO,HO6.out⟩
   ·have HNX : Hid (nextS K x k = 0) := by unfold nextS; rw [if_neg hcl,if_neg hfull]; rfl
    have e15 : (((putK K x).length : Int) == (k : Int)) = false := beq_eq_false_iff_ne.2 (by omega)
    clear hcl hfull
    go_wp2_with fail
    refine wp_region_shapes (fun ix => ([.val (.pointer (some ⟨gt,0,none⟩)),.val (.pointer (some ⟨gt,0,none⟩)),.val (.pointer (some ⟨gt,5,none⟩)),.val (.pointer (some ⟨be,0,none⟩)),.val (.int .i64 ((putK K x).length : Nat)),.val (.pointer (some ⟨g5,0,none⟩)),.val (.pointer (some ⟨g5,2,none⟩)),.val (.int .i64 (k : Nat)),.val (.bool false)][ix]?).getD (.any)) 75 rfl (by kernel_rfl) (by decide) (by decide) (by decide) ?_ ?_
    ·refine ⟨?_,?_,?_,?_,?_,?_,?_,?_,?_,trivial⟩
     ·intro a W hb0 hs hp hi; have hb := undrew hb0; clear hb0
      have t0 : sl a 0 = .pointer (some ⟨gt,0,none⟩) := hi 0 (by decide)
      exact ite_y rfl (wp_val (sl a 0) rfl ⟨_,rfl,Below.refl _ _,t0⟩)
     ·intro a W hb0 hs hp hi; have hb := undrew hb0; clear hb0
      have tt : sl a 63 = .pointer (some ⟨gt,0,none⟩) := hp 0 (by decide)
      refine ite_y rfl (wp_val (.pointer (some ⟨gt,0,none⟩)) ?_ ?_)
      ·simp only [execOp,eval_tmp,tt]; simp [go_sem]
      ·exact ⟨_,rfl,Below.refl _ _,rfl⟩
     ·intro a W hb0 hs hp hi; have hb := undrew hb0; clear hb0
      have t64 : sl a 64 = .pointer (some ⟨gt,0,none⟩) := hp 1 (by decide)
      refine ite_y rfl (wp_val (.pointer (some ⟨gt,5,none⟩)) ?_ ?_)
      ·simp only [execOp,eval_tmp,eval_const,t64]; simp [go_sem]
      ·exact ⟨_,rfl,Below.refl _ _,rfl⟩
     ·intro a W hb0 hs hp hi; have hb := undrew hb0; clear hb0
      have tt : sl a 65 = .pointer (some ⟨gt,5,none⟩) := hp 2 (by decide)
      have dd := (hb.cell (p := ⟨gt,5,none⟩) (lt_of_cell x5)).trans x5
      refine ite_y rfl (wp_val (.pointer (some ⟨be,0,none⟩)) ?_ ?_)
      ·simp only [execOp,eval_tmp,tt]; simp [go_sem,dd]
      ·exact ⟨_,rfl,Below.refl _ _,rfl⟩
     ·intro a W hb0 hs hp hi; have hb := undrew hb0; clear hb0
      have t66 : sl a 66 = .pointer (some ⟨be,0,none⟩) := hp 3 (by decide)
      refine ite_y rfl (wp_enter 65 #[.pointer (some ⟨be,0,none⟩)] ?_ (Rank_any' base be k t _ v' _ _ (HE6.out.keep hb)) ?_)
      ·simp only [execOp,resolve,List.map_toArray,List.map,eval_tmp,eval_func,eval_const,t66]; simp [go_sem]
      ·rintro e W' ⟨rfl,rfl⟩; exact ⟨_,rfl,_,rfl,Below.refl _ _,rfl⟩
     ·intro a W hb0 hs hp hi; have hb := undrew hb0; clear hb0
      have tt : sl a 5 = .pointer (some ⟨g5,0,none⟩) := hi 5 (by decide)
      refine ite_y rfl (wp_val (.pointer (some ⟨g5,0,none⟩)) ?_ ?_)
      ·simp only [execOp,eval_tmp,tt]; simp [go_sem]
      ·exact ⟨_,rfl,Below.refl _ _,rfl⟩
     ·intro a W hb0 hs hp hi; have hb := undrew hb0; clear hb0
      have tt : sl a 68 = .pointer (some ⟨g5,0,none⟩) := hp 5 (by decide)
      refine ite_y rfl (wp_val (.pointer (some ⟨g5,2,none⟩)) ?_ ?_)
      ·simp only [execOp,eval_tmp,tt]; simp [go_sem]
      ·exact ⟨_,rfl,Below.refl _ _,rfl⟩
     ·intro a W hb0 hs hp hi; have hb := undrew hb0; clear hb0
      have tt : sl a 69 = .pointer (some ⟨g5,2,none⟩) := hp 6 (by decide)
      have dd := (hb.cell (p := ⟨g5,2,none⟩) (lt_of_cell y2)).trans y2
      refine ite_y rfl (wp_val (.int .i64 (k : Nat)) ?_ ?_)
      ·simp only [execOp,eval_tmp,tt]; simp [go_sem,dd]
      ·exact ⟨_,rfl,Below.refl _ _,rfl⟩
     ·intro a W hb0 hs hp hi; have hb := undrew hb0; clear hb0
      have t67 : sl a 67 = .int .i64 ((putK K x).length : Nat) := hp 4 (by decide)
      have t70 : sl a 70 = .int .i64 (k : Nat) := hp 7 (by decide)
      refine ite_y rfl (wp_val (.bool false) ?_ ?_)
      ·simp only [execOp,eval_tmp,eval_const,t67,t70]; simp [go_sem,e15]
      ·exact ⟨_,rfl,Below.refl _ _,rfl⟩
    intro a w9 hb hs hd hI ht
    have ha := act_is [63,64,65,66,67,68,69,70,71] hs hd ht (by decide)
    have t71 : sl a 71 = .bool false := hI 8 (by decide)
    simp only [List.foldl,t71] at ha
    generalize sl a 63 = u63 at ha
    generalize sl a 64 = u64 at ha
    generalize sl a 65 = u65 at ha
    generalize sl a 66 = u66 at ha
    generalize sl a 67 = u67 at ha
    generalize sl a 68 = u68 at ha
    generalize sl a 69 = u69 at ha
    generalize sl a 70 = u70 at ha
    simp only [Act.put,List.setIfInBounds_toArray,List.set_cons_zero,List.set_cons_succ] at ha
    rw [ha]
    clear ha hI ht
    have kt7 := (hb.block _ (lt_of_block kt6)).trans kt6
    have HB7 := Lib.hid hb
    clear hb
    go_wp2
    go_ret
    exact ⟨rfl,.map (some b2),v',⟨H.out.ok,by rw [HNX.out]; exact kt7,HCn6.out.keep HB7.out,HE6.out.keep HB7.out,HRd.out,H.out.old⟩,HTC6.out.then HB7.out,HO6.out⟩
def takeK (k t D : Nat) (K : List Rw) (st : Nat) (xs : List UInt8) : List Rw := if readC k t D xs = 0 ∧ st = 0 then putK K (eqX k t xs) else K
def takeS (k t D : Nat) (K : List Rw) (st : Nat) (xs : List UInt8) : Nat := if readC k t D xs = 0 ∧ st = 0 then nextS K (eqX k t xs) k else st
theorem TTake_any (base gt be L t k D N : Nat) (M v : Value) (C : DataW Unit) (K : List Rw) (st : Nat) (p : Option Addr) (n c : Nat) (xs : List UInt8) (w : World) (h : Tkr w base gt be L t k D N M v C K st) (hT : HalfT w) (hN : N < 1000000) (hs : Sl B8 w p n c xs) (hr : Room n) :
  Calls Tryz.prog 16 #[.pointer (some ⟨gt,0,none⟩),.slice p n c] w (TkRet w base gt be L t k D (N + 1) v (bump C (readC k t D xs)) (takeK k t D K st xs) (takeS k t D K st xs) (readC k t D xs)) := by
 unfold takeK takeS
 by_cases hc : readC k t D xs = 0
 ·by_cases hst : st = 0
  ·rw [if_pos ⟨hc,hst⟩,if_pos ⟨hc,hst⟩]
   exact TTake_put base gt be L t k D N M v C K st p n c xs w h hT hN hs hr hc hst
  ·rw [if_neg (fun e => hst e.2),if_neg (fun e => hst e.2)]
   exact TTake_done base gt be L t k D N M v C K st p n c xs w h hT hN hs hr hc hst
 ·rw [if_neg (fun e => hc e.1),if_neg (fun e => hc e.1)]
  exact TTake_bad base gt be L t k D N M v C K st p n c xs w h hT hN hs hr hc
end Go.Proofs.YtccaiiigdfieoaaGreatDoor
namespace Go.Proofs.YtccaiiigdfieoaaGreatDoor
open Go.RowKit Go.By
def wholeS (l s n : Int) (xss : List (List UInt8)) : List UInt8 × Int :=
 if checkS l s n = 0 then (if (xss.length : Int) = n then (if xss.all (fun y => decide (y.length = s.toNat)) then (xss.flatten,0) else ([],4)) else ([],5)) else ([],checkS l s n)
theorem checkS_ok {l s n : Int} (h : checkS l s n = 0) : 0 ≤ l ∧ 1 ≤ s ∧ s ≤ 65535 ∧ n = needS l s ∧ n ≤ 4096 := by
 unfold checkS at h
 rcases fitS_cases l s with ⟨h0,h1⟩ | ⟨h0,h1,h2,h3,h4⟩
 ·rw [if_neg h0] at h; exact absurd h h0
 ·rw [if_pos h0] at h
  split at h
  ·omega
  ·omega
theorem flatP_len {xss : List (List UInt8)} {s : Nat} (h : ∀ x,x ∈ xss → x.length = s) : xss.flatten.length = xss.length * s := by
 induction xss with
 | nil => simp
 | cons x l ih =>
  rw [List.flatten_cons,List.length_append,ih (fun y hy => h y (List.mem_cons_of_mem _ hy)),h x List.mem_cons_self,List.length_cons,Nat.add_mul]
  omega
theorem wholeS_cases (l s n : Int) (xss : List (List UInt8)) : ((wholeS l s n xss).2 ≠ 0 ∧ (wholeS l s n xss).1 = []) ∨ ((wholeS l s n xss).2 = 0 ∧ checkS l s n = 0 ∧ (wholeS l s n xss).1 = xss.flatten ∧ 0 ≤ l ∧ l ≤ xss.flatten.length) := by
 by_cases h0 : checkS l s n = 0
 ·unfold wholeS; rw [if_pos h0]
  by_cases h1 : (xss.length : Int) = n
  ·rw [if_pos h1]
   by_cases h2 : xss.all (fun y => decide (y.length = s.toNat)) = true
   ·rw [if_pos h2]
    right
    obtain ⟨g1,g2,g3,g4,g5⟩ := checkS_ok h0
    refine ⟨rfl,h0,rfl,g1,?_⟩
    have hl := flatP_len (s := s.toNat) (fun x hx => by simpa using List.all_eq_true.1 h2 x hx)
    by_cases hz : l = 0
    ·omega
    ·obtain ⟨q1,q2⟩ := needS_spec (l := l) (s := s) (by omega) g2
     rw [hl,Int.natCast_mul,h1,g4,Int.toNat_of_nonneg (by omega)]
     exact q2
   ·rw [if_neg h2]; left; exact ⟨by simp,rfl⟩
  ·rw [if_neg h1]; left; exact ⟨by simp,rfl⟩
 ·left; unfold wholeS; rw [if_neg h0]; exact ⟨h0,rfl⟩
theorem enters_whole : Enters Tryz.prog 194 := enters_of Tryz.func194 (by kernel_rfl) rfl
set_option maxHeartbeats 400000 in
theorem whole1_any (q : Option Addr) (m c B s : Nat) (w : World) (hB : w.cell? ⟨B,1,none⟩ = some (.int .i64 s)) :
  Calls Tryz.prog 194 #[.slice q m c,.pointer (some ⟨B,0,none⟩)] w fun e w' => e = .returned (.bool ((m : Int) != s)) ∧ w = w' := by
 go_enter Tryz.func194,Tryz.ntmps194
 go_wp2
 go_ret
 exact ⟨rfl,rfl⟩
set_option maxRecDepth 100000 in
set_option maxHeartbeats 1000000 in
theorem whole_any (l s n d : Int) (p : Option Addr) (m c : Nat) (xss : List (List UInt8)) (w : World) (h : Sl2 w p m c xss) (hl2 : l ≤ 9223372036854775807) :
  Calls Tryz.prog 130 #[.agg #[.int .i64 l,.int .i64 s,.int .i64 n,.int .u32 d],.slice p m c] w (RetB 5 w (wholeS l s n xss).1 (wholeS l s n xss).2) := by
 have HC := Lib.hid (fun w => Check_any l s n d w hl2)
 have hB := fun o => al (o := o) (Below.refl w.heap.size w) (Nat.le_refl _)
 by_cases h0 : checkS l s n = 0
 ·rw [h0] at HC
  obtain ⟨g1,g2,g3,g4,g5⟩ := checkS_ok h0
  obtain ⟨s0,rfl⟩ := Int.eq_ofNat_of_zero_le (show 0 ≤ s by omega)
  have HW : Hid (wholeS l s0 n xss = if (m : Int) = n then (if xss.all (fun y => decide (y.length = s0)) then (xss.flatten,0) else ([],4)) else ([],5)) := by
   unfold wholeS; rw [Hid,if_pos h0,h.len,Int.toNat_natCast]
  have hmb := h.bound
  by_cases h1 : (m : Int) = n
  ·have hb : ((m : Int) != n) = false := by simpa using h1
   rw [if_pos h1] at HW
   obtain ⟨vs,hvs,hvv⟩ := h.vals
   have hax := any_vals (n := s0) (hvs.len.trans h.len.symm) hvv
   have H := Lib.hid h; have HV := Lib.hid hvs; have HVV := Lib.hid hvv; have HA := Lib.hid hax
   have HR : Hid (xss.all (fun y => decide (y.length = s0)) = true → Room xss.flatten.length) := fun ha => by
    have hl := flatP_len (s := s0) (fun x hx => by simpa using List.all_eq_true.1 ha x hx)
    have h5 : xss.length * s0 ≤ 4096 * 65535 := Nat.mul_le_mul (by have := h.len; omega) (by omega)
    unfold Room; omega
   clear h hvs hvv hax h0 g4 h1
   go_enter Tryz.func130,Tryz.ntmps130
   go_wp2_with fail
   refine (HC.out _).mono ?_; rintro e w1 ⟨rfl,hb1⟩
   have k1 : Below w.heap.size w w1 := bl (hB _) hb1 (by simp)
   have e1 : w1.heap[w.heap.size]? = some (.cells #[.int .i64 l,.int .i64 s0,.int .i64 n,.int .u32 d] 27 (0,0)) := by
    rw [hb1.block _ (by simp)]; exact hnew rfl
   have c2 : w1.cell? ⟨w.heap.size,2,none⟩ = some (.int .i64 n) := cell_of_row _ _ 2 _ _ _ e1
   have c1 : w1.cell? ⟨w.heap.size,1,none⟩ = some (.int .i64 s0) := cell_of_row _ _ 1 _ _ _ e1
   clear e1
   go_wp2_with fail
   refine (ContainsFuncBB_any id (lenNe s0) 194 _ enters_whole p m c vs w1 (HV.out.keep k1) ?_).mono ?_
   ·intro v hv
    obtain ⟨i,hi,e⟩ := List.getElem_of_mem hv
    obtain ⟨xs,q,c',hx,rfl,hs⟩ := HVV.out i v (by rw [List.getElem?_eq_getElem hi,e])
    exact whole1_any q _ c' _ s0 w1 c1
   rintro e w' ⟨rfl,rfl⟩
   rw [HA.out]
   by_cases h2 : xss.all (fun y => decide (y.length = s0)) = true
   ·have HR := Lib.hid (HR.out h2)
    rw [h2] at HW ⊢
    have HW' := Lib.hid HW.out
    clear HA h2
    go_wp2_with fail
    refine (Concat_any p m c xss w1 (H.out.keep k1) HR.out).mono ?_; rintro e w2 ⟨q,m',c',hm,rfl,ho,hb2⟩
    have HO := Lib.hid ho; clear ho
    go_wp2
    go_ret2
    rw [HW.out]
    exact ⟨q,m',c',hm,rfl,owns_mono HO.out k1.size,bl k1 hb2 k1.size⟩
   ·have h2' := eq_false_of_ne_true h2
    rw [h2'] at HW ⊢
    clear HA h2 h2'
    go_wp2
    go_ret2
    rw [HW.out]
    exact RetB.nil _ _ _ _ k1
  ·have hb : ((m : Int) != n) = true := by simpa using h1
   rw [if_neg h1] at HW
   clear h h0 g4 h1
   go_enter Tryz.func130,Tryz.ntmps130
   go_wp2_with fail
   refine (HC.out _).mono ?_; rintro e w1 ⟨rfl,hb1⟩
   have k1 : Below w.heap.size w w1 := bl (hB _) hb1 (by simp)
   have e1 : w1.heap[w.heap.size]? = some (.cells #[.int .i64 l,.int .i64 s0,.int .i64 n,.int .u32 d] 27 (0,0)) := by
    rw [hb1.block _ (by simp)]; exact hnew rfl
   have c2 : w1.cell? ⟨w.heap.size,2,none⟩ = some (.int .i64 n) := cell_of_row _ _ 2 _ _ _ e1
   clear e1
   go_wp2
   go_ret2
   rw [HW.out]
   exact RetB.nil _ _ _ _ k1
 ·have HW : Hid (wholeS l s n xss = ([],checkS l s n)) := by unfold wholeS; rw [Hid,if_neg h0]
  have hb : (checkS l s n != 0) = true := by simpa using h0
  generalize checkS l s n = k at *
  clear h h0
  go_enter Tryz.func130,Tryz.ntmps130
  go_wp2_with fail
  refine (HC.out _).mono ?_; rintro e w1 ⟨rfl,hb1⟩
  have k1 : Below w.heap.size w w1 := bl (hB _) hb1 (by simp)
  go_wp2
  go_ret2
  rw [HW.out]
  exact RetB.nil _ _ _ _ k1
end Go.Proofs.YtccaiiigdfieoaaGreatDoor
namespace Go.Proofs.YtccaiiigdfieoaaGreatDoor
open Go.RowKit Go.By
theorem Sl.take {α : Type} {enc : α → Value} {w : World} {p : Option Addr} {n c k c2 : Nat} {xs : List α} (h : Sl enc w p n c xs) (hk : k ≤ n) (h1 : k ≤ c2) (h2 : c2 ≤ c) : Sl enc w p k c2 (xs.take k) := by
 refine ⟨by rw [List.length_take,h.len]; omega,h1,Nat.le_trans h2 h.max,fun e => ?_,?_⟩
 ·have := h.nil e; omega
 ·intro i hi
  have hi' : i < xs.length := by rw [List.length_take] at hi; omega
  obtain ⟨b,o,hp,hc⟩ := h.rs i hi'
  exact ⟨b,o,hp,by rw [hc]; simp⟩
def RetL (w : World) (ys : List UInt8) (code : Int) (e : Ending) (w' : World) : Prop :=
 ∃ q m c',e = .returned (.tuple #[.slice q m c',.int .i64 code]) ∧ Sl B8 w' q m c' ys ∧ Below w.heap.size w w'
def NewT (T B : Nat) (w : World) (q : Option Addr) : Prop := ∀ a,q = some a → B ≤ a.block ∧ ∃ cs fr,w.heap[a.block]? = some (.cells cs T fr)
def RetLT (T : TypeId) (w : World) (ys : List UInt8) (code : Int) (e : Ending) (w' : World) : Prop :=
 ∃ q m c',e = .returned (.tuple #[.slice q m c',.int .i64 code]) ∧ Sl B8 w' q m c' ys ∧ NewT T w.heap.size w' q ∧ Below w.heap.size w w'
def joinS (l s n : Int) (xss : List (List UInt8)) : List UInt8 × Int := ((wholeS l s n xss).1.take l.toNat,(wholeS l s n xss).2)
set_option maxRecDepth 100000 in
set_option maxHeartbeats 1000000 in
theorem Join_anyT (l s n d : Int) (p : Option Addr) (m c : Nat) (xss : List (List UInt8)) (w : World) (h : Sl2 w p m c xss) (hl2 : l ≤ 9223372036854775807) :
  Calls Tryz.prog 76 #[.agg #[.int .i64 l,.int .i64 s,.int .i64 n,.int .u32 d],.slice p m c] w (RetLT 5 w (joinS l s n xss).1 (joinS l s n xss).2) := by
 have HC := Lib.hid (fun w h => whole_any l s n d p m c xss w h hl2)
 have hB := fun o => al (o := o) (Below.refl w.heap.size w) (Nat.le_refl _)
 have H := Lib.hid h
 clear h
 have HJ : Hid (joinS l s n xss = ((wholeS l s n xss).1.take l.toNat,(wholeS l s n xss).2)) := rfl
 rcases wholeS_cases l s n xss with ⟨g1,g2⟩ | ⟨g1,g2,g3,g4,g5⟩
 ·have hb : ((wholeS l s n xss).2 != 0) = true := by simpa using g1
  generalize wholeS l s n xss = X at *
  obtain ⟨X1,k⟩ := X
  simp only at g2 hb g1 HC HJ
  subst g2
  have HG := Lib.hid g1; clear g1
  go_enter Tryz.func76,Tryz.ntmps76
  go_wp2_with fail
  refine (HC.out _ (H.out.keep (hB _))).mono ?_; rintro e w1 ⟨q,m',c',hm,rfl,ho,hb1⟩
  have HO := Lib.hid ho; clear ho
  have k1 : Below w.heap.size w w1 := bl (hB _) hb1 (by simp)
  go_wp2
  go_ret2
  rw [HJ.out]
  exact ⟨none,0,0,rfl,by simpa using Sl.nil0 B8 w1,fun a h => (by cases h),k1⟩
 ·obtain ⟨l0,rfl⟩ := Int.eq_ofNat_of_zero_le g4
  have g5' : l0 ≤ xss.flatten.length := by omega
  generalize wholeS l0 s n xss = X at *
  obtain ⟨X1,k⟩ := X
  simp only at g3 g1 HC HJ
  subst g1
  subst g3
  clear g2 g4 g5
  have HJ2 := Lib.hid g5'; clear g5'
  generalize xss.flatten = Y at *
  go_enter Tryz.func76,Tryz.ntmps76
  go_wp2_with fail
  refine (HC.out _ (H.out.keep (hB _))).mono ?_; rintro e w1 ⟨q,m',c',hm,rfl,ho,hb1⟩
  have hcc := owns_cap ho
  have hs := Sl.of_owns ho
  have k1 : Below w.heap.size w w1 := bl (hB _) hb1 (by simp)
  have e1 : w1.heap[w.heap.size]? = some (.cells #[.int .i64 l0,.int .i64 s,.int .i64 n,.int .u32 d] 27 (0,0)) := by
   rw [hb1.block _ (by simp)]; exact hnew rfl
  have c0 : w1.cell? ⟨w.heap.size,0,none⟩ = some (.int .i64 l0) := cell_of_row _ _ 0 _ _ _ e1
  have b1 : l0 ≤ m' := by have := HJ2.out; have := hm.out; omega
  have b2 : m' ≤ c' := hcc.1
  have b3 : c' ≤ 9223372036854775807 := by have := hcc.2; unfold maxLen at this; omega
  have HS := Lib.hid (Sl.take hs b1 (Nat.le_refl _) (by omega))
  have HN : Hid (NewT 5 w.heap.size w1 q) := fun a ha => by
   rcases ho.2 with ⟨h2,_⟩ | ⟨g,cap,cur,hv,hb,hh,_⟩
   ·subst ha; cases h2
   ·subst ha; cases hv; exact ⟨Nat.le_trans (by simp) hb,_,_,hh⟩
  clear e1 ho hs hcc
  cases hq : q with
  | none =>
   subst hq
   obtain ⟨z1,z2⟩ := HS.out.nil rfl
   subst z1
   go_wp2
   go_ret2
   rw [HJ.out]
   exact ⟨_,_,_,rfl,by simpa using HS.out,HN.out,k1⟩
  | some ad =>
   subst hq
   go_wp2
   go_ret2
   rw [HJ.out]
   exact ⟨_,_,_,rfl,by simpa using HS.out,HN.out,k1⟩
end Go.Proofs.YtccaiiigdfieoaaGreatDoor
namespace Go.Proofs.YtccaiiigdfieoaaGreatDoor
open Go.RowKit Go.By
end Go.Proofs.YtccaiiigdfieoaaGreatDoor
namespace Go.Proofs.YtccaiiigdfieoaaGreatDoor
open Go.RowKit Go.By
end Go.Proofs.YtccaiiigdfieoaaGreatDoor
namespace Go.By
open Go.RowKit
end Go.By
namespace Go.Proofs.YtccaiiigdfieoaaGreatDoor
open Go.RowKit Go.By
theorem checkS_okC {l s n : Int} (h : checkS l s n = 0) : 0 ≤ l ∧ 1 ≤ s ∧ s ≤ 65535 ∧ n = needS l s ∧ n ≤ 4096 := by
 have hf : fitS l s = 0 := by
  unfold checkS at h
  by_cases e : fitS l s = 0
  ·exact e
  ·rw [if_neg e] at h; exact h
 have hn : n = needS l s := by
  unfold checkS at h
  rw [if_pos hf] at h
  by_cases e : n = needS l s
  ·exact e
  ·rw [if_neg e] at h; cases h
 rcases fitS_cases l s with ⟨a,_⟩ | ⟨_,h1,h2,h3,h4⟩
 ·exact absurd hf a
 ·exact ⟨h1,h2,h3,hn,by omega⟩
theorem info_bytesC : (Tryz.prog.info? 22).map (fun i => (i.zero,i.size,i.bytes)) = some (some (.slice none 0 0),1,24) := by kernel_rfl
end Go.Proofs.YtccaiiigdfieoaaGreatDoor
namespace Go.By
open Go.RowKit
theorem Fresh.cell {T T' B g i n c : Nat} {w : World} {q : Option Addr} {xs : List UInt8} {old : Array Value} {fr : Nat × Nat} {v : Value} (h : Fresh T B w q n c xs) (hg : w.heap[g]? = some (.cells old T' fr)) (hne : T' ≠ T) : Fresh T B (w.setCell ⟨g,i,Option.none⟩ v) q n c xs := by
 have hd : ∀ a,q = some a → a.block ≠ g := fun a ha e => by
  obtain ⟨c2,f2,e2⟩ := h.ty a ha
  rw [e,hg] at e2
  injection e2 with e2
  injection e2 with _ e3 _
  exact hne e3
 exact ⟨⟨h.sl.len,h.sl.le,h.sl.max,h.sl.nil,fun j hj => by
  obtain ⟨b,o,e,hc⟩ := h.sl.rs j hj
  exact ⟨b,o,e,(World.cell?_of_block (a := ⟨b,o + j,Option.none⟩) (Below.heap_setCell _ _ _ _ (hd _ e))).trans hc⟩⟩,h.new,fun a ha => by obtain ⟨c2,f2,e2⟩ := h.ty a ha; exact ⟨c2,f2,(Below.heap_setCell _ _ _ _ (hd a ha)).trans e2⟩⟩
end Go.By
namespace Go.Proofs.YtccaiiigdfieoaaGreatDoor
open Go.RowKit Go.By
end Go.Proofs.YtccaiiigdfieoaaGreatDoor
namespace Go.Proofs.YtccaiiigdfieoaaGreatDoor
open Go.RowKit Go.By
end Go.Proofs.YtccaiiigdfieoaaGreatDoor
namespace Go.By
open Go
section
variable {P : Program} (w : World)
theorem run_append_where (base : Nat) (t ty e : TypeId) (i : TypeInfo) (z : Value) (size bytes : Nat) (ht : P.underlying t = some (.slice e)) (hi : P.info? e = some i) (hz : i.zero = some z)
  (hsize : i.size = size) (hby : i.bytes = bytes) (hzs : z.cells.size = size) (hsz : 0 < size)
  (v : Value) (n : Nat) (xs : List Value) (hown : w.ownsRow base e size v n xs)
  (a : Addr) (m c : Nat) (news : List Value) (hl : news.length = m * size) (hnews : ∀ j u,news[j]? = some u → w.cell? (a.add j) = some u) (h1 : ∀ u ∈ news,u.oneCell' = true)
  (h63 : n + m ≤ maxLen) (hbytes : (n + m) * bytes ≤ 140737488355328) (hbase : base ≤ w.heap.size) (hm : 0 < m) :
  ∃ v' w',(Builtin.append_ #[t,t] ty #[v,.slice (some a) m c]).run P w = .ok v' w' ∧ w'.ownsRow base e size v' (n + m) (xs ++ news) ∧ w.grownBy w' v.ownBlock ∧ (v'.ownBlock = v.ownBlock ∨ v'.ownBlock = some w.heap.size) := by
 obtain ⟨v',w',hr,h2,h3,-⟩ := run_append_own w base t ty e i z size bytes ht hi hz hsize hby hzs hsz v n xs hown a m c news hl hnews h1 h63 hbytes hbase
 refine ⟨v',w',hr,h2,h3,?_⟩
 subst hsize
 subst hby
 have hm' : n + m ≤ 9223372036854775807 := by simp only [maxLen] at h63; omega
 rcases hown.2 with ⟨rfl,rfl⟩ | ⟨g,cap,cur,rfl,hbg,hg,hnc,hcm,hcs,htake⟩
 ·have hr2 := run_append_nil (P := P) w t ty e i z ht hi hz a m c news hl hnews (by omega) (by omega) (by have hb := hbytes; simp only [Nat.zero_add] at hb; omega)
  have e2 := hr.symm.trans hr2
  cases e2
  exact .inr rfl
 ·by_cases hroom : n + m ≤ cap
  ·have hfit : n * i.size + news.length ≤ cur.size := by rw [hl,hcs,← Nat.add_mul]; exact Nat.mul_le_mul_right _ hroom
   have hr2 := run_append_room (P := P) w t ty e i ht hi g n cap cur hg a m c news hl hnews h1 hroom hfit
   have e2 := hr.symm.trans hr2
   cases e2
   exact .inl rfl
  ·have holds : ∀ j u,xs[j]? = some u → w.cell? ((⟨g,0,none⟩ : Addr).add j) = some u := hown.cells (g := g) rfl
   have hr2 := run_append_grow (P := P) w t ty e i z ht hi hz ⟨g,0,none⟩ n cap xs hown.1 holds a m c news hl hnews (by omega) (by omega) (growslice_fits (by omega) hbytes)
   have e2 := hr.symm.trans hr2
   cases e2
   exact .inr rfl
theorem wpList_append_where {ops : Array Oper} {rest : List Oper} {o : Oper} {a : Act} {Q : Exit → Act → World → Prop} (hgd : o.guard = none) (s x : Operand) (t : TypeId)
  (ho : o.op = .call { callee := .builtin .append,args := #[s,x],argTypes := #[t,t] })
  (base : Nat) (e : TypeId) (i : TypeInfo) (z : Value) (size bytes : Nat) (ht : P.underlying t = some (.slice e)) (hi : P.info? e = some i) (hz : i.zero = some z)
  (hsize : i.size = size) (hby : i.bytes = bytes) (hzs : z.cells.size = size) (hsz : 0 < size)
  (v : Value) (n : Nat) (xs : List Value) (hs : a.eval s = v) (hown : w.ownsRow base e size v n xs)
  (ad : Addr) (m c : Nat) (news : List Value) (hx : a.eval x = .slice (some ad) m c) (hl : news.length = m * size) (hnews : ∀ j u,news[j]? = some u → w.cell? (ad.add j) = some u) (h1 : ∀ u ∈ news,u.oneCell' = true)
  (h63 : n + m ≤ maxLen) (hbytes : (n + m) * bytes ≤ 140737488355328) (hbase : base ≤ w.heap.size) (hm : 0 < m)
  (h : ∀ v' w',w'.ownsRow base e size v' (n + m) (xs ++ news) → w.grownBy w' v.ownBlock → (v'.ownBlock = v.ownBlock ∨ v'.ownBlock = some w.heap.size) → wpList P ops Q rest (a.put o.dst v') w') : wpList P ops Q (o :: rest) a w := by
 refine wpList_plain hgd fun _ hK => ?_
 obtain ⟨v',w',hr,h2,h3,h4⟩ := run_append_where (P := P) w base t o.type e i z size bytes ht hi hz hsize hby hzs hsz v n xs hown ad m c news hl hnews h1 h63 hbytes hbase hm
 unfold Oper.wp execOp
 simp only [ho,resolve,invoke,builtin,Sem.run_bind,Sem.run_pure,Result.andThen_ok,List.map_toArray,List.map_cons,List.map_nil,hs,hx,hr]
 exact hK _ _ (h v' w' h2 h3 h4)
end
end Go.By
namespace Go.Proofs.YtccaiiigdfieoaaGreatDoor
open Go.RowKit Go.By Go.Maps
end Go.Proofs.YtccaiiigdfieoaaGreatDoor
namespace Go.By
open Go.RowKit
theorem news_one {w : World} {g T : Nat} {v : Value} {fr : Nat × Nat} (h : w.heap[g]? = some (.cells #[v] T fr)) : ∀ (j : Nat) (u : Value),[v][j]? = some u → w.cell? ((⟨g,0,none⟩ : Addr).add j) = some u := by
 intro j u hj
 cases j with
 | zero =>
  simp at hj; subst hj
  rw [Addr.add_lit,cell_of_row _ _ _ _ _ _ h]; rfl
 | succ j => simp at hj
theorem ones_one {q : Option Addr} {n c : Nat} : ∀ u,u ∈ [Value.slice q n c] → u.oneCell' = true := by
 intro u hu; simp at hu; subst hu; rfl
def Hdr (T : TypeId) (w1 : World) (base : Nat) (w : World) (v : Value) (i : Nat) (xss : List (List UInt8)) : Prop :=
 ∃ vs,w.ownsRow base T 1 v i vs ∧ xss.length = i ∧ ∀ (j : Nat) (u : Value),vs[j]? = some u → ∃ q m c xs,u = .slice q m c ∧ xss[j]? = some xs ∧ Sl B8 w1 q m c xs
theorem Hdr.shape {T base i : Nat} {w1 w : World} {v : Value} {xss : List (List UInt8)} (h : Hdr T w1 base w v i xss) : ∃ q c,v = .slice q i c := by
 obtain ⟨vs,o,_⟩ := h; exact owns_shape o
theorem Hdr.nil (T base : Nat) (w1 w : World) : Hdr T w1 base w (.slice none 0 0) 0 [] := ⟨[],World.ownsRow_nil _ _ _ _,rfl,fun j u h => by simp at h⟩
theorem Hdr.push {T base i : Nat} {w1 w : World} {v : Value} {xss : List (List UInt8)} {vs : List Value} {q : Option Addr} {m c : Nat} {xs : List UInt8} (ho : w.ownsRow base T 1 v (i + 1) (vs ++ [.slice q m c])) (hl : xss.length = i) (hv : vs.length = i) (h : ∀ (j : Nat) (u : Value),vs[j]? = some u → ∃ q m c xs,u = .slice q m c ∧ xss[j]? = some xs ∧ Sl B8 w1 q m c xs) (hs : Sl B8 w1 q m c xs) : Hdr T w1 base w v (i + 1) (xss ++ [xs]) := by
 refine ⟨_,ho,by simp [hl],fun j u hj => ?_⟩
 rcases Nat.lt_trichotomy j i with h1 | h1 | h1
 ·rw [List.getElem?_append_left (by omega)] at hj
  obtain ⟨q',m',c',xs',e,hx,hs'⟩ := h j u hj
  exact ⟨q',m',c',xs',e,by rw [List.getElem?_append_left (by omega)]; exact hx,hs'⟩
 ·subst h1
  rw [List.getElem?_append_right (by omega),hv,Nat.sub_self] at hj
  simp at hj
  exact ⟨q,m,c,xs,hj.symm,by rw [List.getElem?_append_right (by omega),hl,Nat.sub_self]; rfl,hs⟩
 ·rw [List.getElem?_eq_none (by simp [hv]; omega)] at hj; cases hj
theorem Hdr.sl2 {T base i : Nat} {w1 w : World} {q : Option Addr} {c : Nat} {xss : List (List UInt8)} (h : Hdr T w1 base w (.slice q i c) i xss) (hb : Below w1.heap.size w1 w) : Sl2 w q i c xss := by
 obtain ⟨vs,o,hl,hr⟩ := h
 have hc := owns_cap o
 have hvl : vs.length = i := owns_len o
 refine ⟨hl,hc.1,hc.2,fun hp => ?_,fun j xs hj => ?_⟩
 ·rcases o.2 with ⟨h2,rfl⟩ | ⟨g,cap,cur,hv,_⟩
  ·simp at h2; exact ⟨rfl,h2.2⟩
  ·rw [hp] at hv; cases hv
 ·have hji : j < i := by rw [← hl]; exact (List.getElem?_eq_some_iff.1 hj).1
  obtain ⟨q',m',c',xs',e,hx,hs⟩ := hr j vs[j] (List.getElem?_eq_getElem (by omega))
  rw [hj] at hx; cases hx
  obtain ⟨g,rfl,_,_⟩ := owns_at o (by omega)
  refine ⟨g,0,q',c',rfl,?_,?_⟩
  ·rw [Nat.zero_add,o.cellAt j (by omega),List.getElem?_eq_getElem (by omega),e,hs.len]
  ·rw [hs.len]; exact hs.keep hb
theorem Hdr.kept {T base i : Nat} {w1 w w' : World} {v : Value} {row : Option Nat} {xss : List (List UInt8)} (h : Hdr T w1 base w v i xss) (hg : w.grownBy w' row) (hne : ∀ b,v.ownBlock = some b → row ≠ some b) : Hdr T w1 base w' v i xss := by
 obtain ⟨vs,o,hl,hr⟩ := h
 refine ⟨vs,o.kept hg ?_,hl,hr⟩
 cases hv : v.ownBlock with
 | none => simp
 | some b => have := hne b hv; simp; intro e; exact this e.symm
end Go.By
namespace Go.Proofs.YtccaiiigdfieoaaGreatDoor
open Go.RowKit Go.By Go.Maps
theorem field_gate (L t k D : Nat) (M : Value) (w : World) : (Instr.field 111 (GVal L t k D M) 0).run Tryz.prog w = .ok (PVal L t k D) w := by
 simp [Instr.field,go_sem,asAgg,Tryz.underlying111,Tryz.underlying27]
def PkS (T B : Nat) (D nx : Nat) (qd : Option Addr) (td cd : Nat) (V : List UInt8) (v : Value) (w : World) : Prop := ∃ q n c,v = PkVal 0 D nx 0 q n c 0 qd td cd ∧ Fresh T B w q n c V
def ShPkS (T B : Nat) (D nx : Nat) (qd : Option Addr) (td cd : Nat) (V : List UInt8) : Shp := ⟨PkS T B D nx qd td cd V,fun _ _ _ ⟨q,n,c,e,h⟩ hb => ⟨q,n,c,e,h.keep hb⟩⟩
end Go.Proofs.YtccaiiigdfieoaaGreatDoor
namespace Go.Proofs.YtccaiiigdfieoaaGreatDoor
open Go.RowKit Go.By
theorem read_write {m : UInt8} {D n s k t : Nat} {xs ys : List UInt8} (hm : modeC m = 0) (hx : m = 0 → xs.length = k) (hy : ys.length = t) (hD : D < 4294967296) (hn : n < 4294967296) :
  readC k t D (pktB m D n xs s ys) = 0 ∧ pktM (pktB m D n xs s ys) = m ∧ pktN (pktB m D n xs s ys) = n ∧ pktX k (pktB m D n xs s ys) = rdX m (srcB m xs s) ∧ pktS k (pktB m D n xs s ys) = rdS m (srcB m xs s) ∧ pktY k t (pktB m D n xs s ys) = ys := by
 have hm01 : m = 0 ∨ m = 1 := by
  unfold modeC at hm
  split at hm
  ·assumption
  ·cases hm
 have hS : (srcB m xs s).length = widS m k := by
  unfold srcB widS
  rcases hm01 with h | h
  ·rw [if_pos h,if_pos h]; exact hx h
  ·rw [if_neg (by rw [h]; decide),if_neg (by rw [h]; decide),if_pos h,put8_len]
 obtain ⟨S,hSS⟩ : ∃ S,srcB m xs s = S := ⟨_,rfl⟩
 obtain ⟨W,hW⟩ : ∃ W,widS m k = W := ⟨_,rfl⟩
 obtain ⟨c,hc⟩ : ∃ c,crcS (bodyP m D n xs s ys) = c := ⟨_,rfl⟩
 have hcl : c < 4294967296 := by rw [← hc]; exact crcS_lt _
 have hB : pktB m D n xs s ys = [1,m] ++ (put4 D ++ (put4 n ++ (S ++ (ys ++ put4 c)))) := by
  unfold pktB
  rw [hc]
  unfold bodyP headB
  rw [hSS]; simp
 have hbody : bodyP m D n xs s ys = [1,m] ++ (put4 D ++ (put4 n ++ (S ++ ys))) := by unfold bodyP headB; rw [hSS]; simp
 rw [hSS,hW] at hS
 have g0 : (pktB m D n xs s ys).getD 0 0 = 1 := by rw [hB]; rfl
 have g1 : (pktB m D n xs s ys).getD 1 0 = m := by rw [hB]; rfl
 have hlen : (pktB m D n xs s ys).length = 10 + W + t + 4 := by rw [hB]; simp [put4_len,hS,hy]; omega
 have d2 : (pktB m D n xs s ys).drop 2 = put4 D ++ (put4 n ++ (S ++ (ys ++ put4 c))) := by rw [hB]; exact List.drop_left' rfl
 have d6 : (pktB m D n xs s ys).drop 6 = put4 n ++ (S ++ (ys ++ put4 c)) := by
  rw [show (6 : Nat) = 2 + 4 from rfl,← List.drop_drop,d2]; exact List.drop_left' (put4_len D)
 have d10 : (pktB m D n xs s ys).drop 10 = S ++ (ys ++ put4 c) := by
  rw [show (10 : Nat) = 6 + 4 from rfl,← List.drop_drop,d6]; exact List.drop_left' (put4_len n)
 have dW : (pktB m D n xs s ys).drop (10 + W) = ys ++ put4 c := by
  rw [← List.drop_drop,d10]; exact List.drop_left' hS
 have dt : (pktB m D n xs s ys).drop (10 + W + t) = put4 c := by
  rw [← List.drop_drop,dW]; exact List.drop_left' hy
 have tk : (pktB m D n xs s ys).take (10 + W + t) = bodyP m D n xs s ys := by
  have e : pktB m D n xs s ys = bodyP m D n xs s ys ++ put4 c := by unfold pktB; rw [hc]
  rw [e]
  exact List.take_left' (by rw [hbody]; simp [put4_len,hS,hy]; omega)
 have t2 : ((pktB m D n xs s ys).drop 2).take 4 = put4 D := by rw [d2]; exact List.take_left' (put4_len D)
 have t6 : ((pktB m D n xs s ys).drop 6).take 4 = put4 n := by rw [d6]; exact List.take_left' (put4_len n)
 have t10 : ((pktB m D n xs s ys).drop 10).take W = S := by rw [d10]; exact List.take_left' hS
 have tW : ((pktB m D n xs s ys).drop (10 + W)).take t = ys := by rw [dW]; exact List.take_left' hy
 have tc : ((pktB m D n xs s ys).drop (10 + W + t)).take 4 = put4 c := by rw [dt]; exact List.take_of_length_le (Nat.le_of_eq (put4_len c))
 refine ⟨?_,g1,?_,?_,?_,?_⟩
 ·have hh : headC (pktB m D n xs s ys) = 0 := by
   unfold headC
   rw [if_neg (by rw [hlen]; omega),g0,g1,if_neg (by simp)]
   exact hm
  unfold readC
  rw [if_neg (by simp [hh]),g1]
  have hl : (pktB m D n xs s ys).length = lenP m k t := by unfold lenP; rw [hlen,hW]
  rw [if_neg (by simp [hl]),show (pktB m D n xs s ys).length - 4 = 10 + W + t by omega,tc,tk,hc,get4_put4 hcl,if_neg (by simp),t2,get4_put4 hD,if_neg (by simp)]
 ·unfold pktN; rw [t6,get4_put4 hn]
 ·unfold pktX; rw [g1,hW,t10,hSS]
 ·unfold pktS; rw [g1,hW,t10,hSS]
 ·unfold pktY; rw [g1,hW,tW]
end Go.Proofs.YtccaiiigdfieoaaGreatDoor
namespace Go.By
open Go.RowKit Go.Maps Go.Proofs.YtccaiiigdfieoaaGreatDoor
section
variable {w w' : World} {g : Nat} {old : Array Value} {T' : Nat} {fr : Nat × Nat}
end
theorem TChg.blk {w w' : World} {base gt be L t k D N : Nat} {M v : Value} {C : DataW Unit} {K : List Rw} {st : Nat} (h : TChg w w' gt be v) (hT : Tkr w base gt be L t k D N M v C K st) {b T : Nat} {cs : Array Value} {fr : Nat × Nat} (hb : w.heap[b]? = some (.cells cs T fr)) (h1 : T ≠ 118) (h2 : T ≠ 191) (h3 : 99 ≠ T) : w'.heap[b]? = some (.cells cs T fr) := by
 refine (h.block b (lt_of_block hb) (fun e => ?_) (fun e => ?_) (hT.elm.rows.ne_box hb h3)).trans hb
 ·have := hT.box; rw [← e,hb] at this; injection this with this; injection this with _ this _; exact h1 this
 ·have := hT.elm.box; rw [← e,hb] at this; injection this with this; injection this with _ this _; exact h2 this
theorem TChg.below {w w' : World} {B base gt be L t k D N : Nat} {M v : Value} {C : DataW Unit} {K : List Rw} {st : Nat} (h : TChg w w' gt be v) (hT : Tkr w base gt be L t k D N M v C K st) (hB : B ≤ base) (hw : B ≤ w.heap.size) : Below B w w' := by
 refine ⟨h.os,h.tape,h.output,h.size,fun i hi => h.block i (by omega) (by have := hT.old; omega) (by have := hT.elm.old; omega) (fun e => ?_)⟩
 have := (hT.elm.rows.lt _ e).1
 omega
end Go.By
namespace Go.Proofs.YtccaiiigdfieoaaGreatDoor
open Go.RowKit Go.By Go.Maps
end Go.Proofs.YtccaiiigdfieoaaGreatDoor
namespace Go.Proofs.YtccaiiigdfieoaaGreatDoor
open Go.RowKit Go.By Go.Maps
set_option maxRecDepth 100000 in
set_option maxHeartbeats 1000000 in
theorem TStatus_any (base gt be L t k D N : Nat) (M v : Value) (C : DataW Unit) (K : List Rw) (st : Nat) (w : World) (h : Tkr w base gt be L t k D N M v C K st) :
  Calls Tryz.prog 22 #[.pointer (some ⟨gt,0,none⟩)] w fun e w' => e = .returned (.int .i64 (st : Nat)) ∧ w = w' := by
 obtain ⟨c0,c1,c2,c3,c4,c5,c6⟩ := cells_seven h.box
 clear h
 go_enter Tryz.func22,Tryz.ntmps22
 go_wp2
 go_ret
 exact ⟨rfl,rfl⟩
def objC (st : Nat) : Int := if st = 0 then 12 else if st = 2 then 13 else 0
set_option maxRecDepth 100000 in
set_option maxHeartbeats 1000000 in
theorem TObject_none (base gt be L t k D N : Nat) (M v : Value) (C : DataW Unit) (K : List Rw) (st : Nat) (w : World) (h : Tkr w base gt be L t k D N M v C K st) (hs : st = 0 ∨ st = 2) :
  Calls Tryz.prog 19 #[.pointer (some ⟨gt,0,none⟩)] w fun e w' => e = .returned (.tuple #[.slice none 0 0,.int .i64 (objC st)]) ∧ w = w' := by
 obtain ⟨c0,c1,c2,c3,c4,c5,c6⟩ := cells_seven h.box
 clear h
 rcases hs with rfl | rfl
 ·go_enter Tryz.func19,Tryz.ntmps19
  go_wp2
  go_ret2
  exact ⟨rfl,rfl⟩
 ·go_enter Tryz.func19,Tryz.ntmps19
  go_wp2
  go_ret2
  exact ⟨rfl,rfl⟩
set_option maxRecDepth 100000 in
set_option maxHeartbeats 2000000 in
theorem TObject_doneT (base gt be L t k D N : Nat) (M v : Value) (C : DataW Unit) (K : List Rw) (w : World) (h : Tkr w base gt be L t k D N M v C K 1) (hK : K.length = k) :
  Calls Tryz.prog 19 #[.pointer (some ⟨gt,0,none⟩)] w (RetLT 5 w (joinS (L : Int) (t : Int) (k : Int) (K.map (fun x : Rw => x.2))).1 (joinS (L : Int) (t : Int) (k : Int) (K.map (fun x : Rw => x.2))).2) := by
 have hk2 := h.ok.k2
 have ht2 := h.ok.t2
 have hR := h.red
 have hel : Elm w base be k t v k K := by have := h.elm; rw [hK] at this; exact this
 have HE := Lib.hid (ESolve_full base be k t v K w hel (fun r hr => by have := (hR.kept.rows r hr).1.2; show _ ≤ _; omega) hk2)
 have HJ : Hid (∀ q c w,Sl2 w q k c (K.map (fun x : Rw => x.2)) → Calls Tryz.prog 76 #[PVal L t k D,.slice q k c] w (RetLT 5 w (joinS (L : Int) (t : Int) (k : Int) (K.map (fun x : Rw => x.2))).1 (joinS (L : Int) (t : Int) (k : Int) (K.map (fun x : Rw => x.2))).2)) := fun q c w hs => Join_anyT (L : Int) (t : Int) (k : Int) (D : Int) q k c _ w hs h.ok.l
 have kt := h.box
 obtain ⟨c0,c1,c2,c3,c4,c5,c6⟩ := cells_seven kt
 clear h hel hR hK
 generalize joinS (L : Int) (t : Int) (k : Int) (K.map (fun x : Rw => x.2)) = J at *
 go_enter Tryz.func19,Tryz.ntmps19
 go_wp2_with fail
 refine Calls.mono HE.out ?_
 rintro e w1 ⟨q,c,rfl,ho,hb⟩
 have kt1 := (hb.block _ (lt_of_block kt)).trans kt
 have HB := Lib.hid hb
 have HO := Lib.hid (ho.sl2)
 clear hb ho kt c0 c1 c2 c3 c4 c5 c6
 obtain ⟨c0,c1,c2,c3,c4,c5,c6⟩ := cells_seven kt1
 go_wp2_with fail
 refine Calls.mono (HJ.out _ _ _ HO.out) ?_
 rintro e w2 ⟨q2,m2,d2,rfl,hs,hn,hb⟩
 have HN := Lib.hid hn
 have HS := Lib.hid hs
 have HB2 := Lib.hid (bl HB.out hb HB.out.size)
 clear hb hs hn
 go_wp2
 go_ret2
 exact ⟨_,_,_,rfl,HS.out,fun a ha => ⟨Nat.le_trans HB.out.size (HN.out a ha).1,(HN.out a ha).2⟩,HB2.out⟩
theorem TObject_done (base gt be L t k D N : Nat) (M v : Value) (C : DataW Unit) (K : List Rw) (w : World) (h : Tkr w base gt be L t k D N M v C K 1) (hK : K.length = k) :
  Calls Tryz.prog 19 #[.pointer (some ⟨gt,0,none⟩)] w (RetL w (joinS (L : Int) (t : Int) (k : Int) (K.map (fun x : Rw => x.2))).1 (joinS (L : Int) (t : Int) (k : Int) (K.map (fun x : Rw => x.2))).2) :=
 Calls.mono (TObject_doneT base gt be L t k D N M v C K w h hK) fun _ _ ⟨q,m,c,e,h,_,hb⟩ => ⟨q,m,c,e,h,hb⟩
end Go.Proofs.YtccaiiigdfieoaaGreatDoor
namespace Go.Proofs.YtccaiiigdfieoaaGreatDoor
open Go.RowKit Go.By
end Go.Proofs.YtccaiiigdfieoaaGreatDoor
namespace Go.Proofs.YtccaiiigdfieoaaGreatDoor
open Go.RowKit Go.By
end Go.Proofs.YtccaiiigdfieoaaGreatDoor
namespace Go.Proofs.YtccaiiigdfieoaaGreatDoor
open Go.RowKit Go.By
end Go.Proofs.YtccaiiigdfieoaaGreatDoor
namespace Go.Proofs.YtccaiiigdfieoaaGreatDoor
open Go.RowKit Go.By Gf
end Go.Proofs.YtccaiiigdfieoaaGreatDoor
namespace Go.Proofs.YtccaiiigdfieoaaGreatDoor
open Go.RowKit Go.By
end Go.Proofs.YtccaiiigdfieoaaGreatDoor
namespace Go.Proofs.YtccaiiigdfieoaaGreatDoor
open Go.RowKit Go.By
end Go.Proofs.YtccaiiigdfieoaaGreatDoor
namespace Go.Proofs.YtccaiiigdfieoaaGreatDoor
open Go.RowKit Go.By
end Go.Proofs.YtccaiiigdfieoaaGreatDoor
namespace Go.Proofs.YtccaiiigdfieoaaGreatDoor
open Go.RowKit Go.By
end Go.Proofs.YtccaiiigdfieoaaGreatDoor
namespace Go.Proofs.YtccaiiigdfieoaaGreatDoor
open Go.RowKit Go.By
end Go.Proofs.YtccaiiigdfieoaaGreatDoor
namespace Go.Proofs.YtccaiiigdfieoaaGreatDoor
open Go.RowKit Go.By
end Go.Proofs.YtccaiiigdfieoaaGreatDoor
namespace Go.Proofs.YtccaiiigdfieoaaGreatDoor
open Go.RowKit Go.By Gf
end Go.Proofs.YtccaiiigdfieoaaGreatDoor
namespace Go.Proofs.YtccaiiigdfieoaaGreatDoor
open Go.RowKit Go.By Gf
end Go.Proofs.YtccaiiigdfieoaaGreatDoor
namespace Go.Proofs.YtccaiiigdfieoaaGreatDoor
open Go.RowKit Go.By Gf
end Go.Proofs.YtccaiiigdfieoaaGreatDoor
namespace Go.By
end Go.By
namespace Go.Proofs.YtccaiiigdfieoaaGreatDoor
open Go.RowKit Go.By Gf
end Go.Proofs.YtccaiiigdfieoaaGreatDoor
namespace Go.By
open Go.RowKit Go.Maps Go.Proofs.YtccaiiigdfieoaaGreatDoor
section
variable {w w' : World} {base gt be L t k D N : Nat} {M v : Value} {C : DataW Unit} {K : List Rw} {st : Nat}
theorem TChg.owns (h : TChg w w' gt be v) (hT : Tkr w base gt be L t k D N M v C K st) {b2 T e n : Nat} {v2 : Value} {ys : List Value} (ho : w.ownsRow b2 T e v2 n ys) (h1 : T ≠ 118) (h2 : T ≠ 191) (h3 : ∀ g,v2.ownBlock = some g → v.ownBlock ≠ some g) : w'.ownsRow b2 T e v2 n ys := by
 refine owns_same ho h.size fun g2 hg2 => ?_
 rcases ho.2 with ⟨e1,_⟩ | ⟨g',cap,cur,e1,_,hh,_⟩
 ·rw [e1] at hg2; cases hg2
 ·have h4 := h3 g2 hg2
  rw [e1] at hg2; cases hg2
  refine h.block _ (lt_of_block hh) (fun e => ?_) (fun e => ?_) h4
  ·have := hT.box; rw [← e,hh] at this; injection this with this; injection this with _ this _; exact h1 this
  ·have := hT.elm.box; rw [← e,hh] at this; injection this with this; injection this with _ this _; exact h2 this
theorem tkr_owns_ne {b2 T e n : Nat} {v2 : Value} {ys : List Value} (hT : Tkr w base gt be L t k D N M v C K st) (ho : w.ownsRow b2 T e v2 n ys) (h : 99 ≠ T) : ∀ g,v2.ownBlock = some g → v.ownBlock ≠ some g := by
 intro g hg
 rcases ho.2 with ⟨e1,_⟩ | ⟨g',cap,cur,e1,_,hh,_⟩
 ·rw [e1] at hg; cases hg
 ·rw [e1] at hg; cases hg
  exact hT.elm.rows.ne_box hh h
theorem TChg.bw (h : TChg w w' gt be v) (hT : Tkr w base gt be L t k D N M v C K st) {b : Nat} {u : Value} {xs : List UInt8} (hu : Bw 5 w b u xs) : Bw 5 w' b u xs := by
 obtain ⟨q,m,c,e,l,o⟩ := hu
 exact ⟨q,m,c,e,l,h.owns hT o (by decide) (by decide) (tkr_owns_ne hT o (by decide))⟩
theorem TChg.rwl (h : TChg w w' gt be v) (hT : Tkr w base gt be L t k D N M v C K st) {b2 n2 : Nat} {v2 : Value} {K2 : List Rw} (h2 : RwL 99 5 w b2 v2 n2 K2) (hne : ∀ g,v2.ownBlock = some g → v.ownBlock ≠ some g) : RwL 99 5 w' b2 v2 n2 K2 := by
 obtain ⟨vs,a,b,o,r⟩ := h2
 exact ⟨vs,a,b,h.owns hT o (by decide) (by decide) hne,fun j u hj => by obtain ⟨x,hk,g1,g2⟩ := r j u hj; exact ⟨x,hk,h.bw hT g1,h.bw hT g2⟩⟩
theorem TChg.cnt (h : TChg w w' gt be v) (hT : Tkr w base gt be L t k D N M v C K st) {M2 : Value} {N2 : Nat} {C2 : DataW Unit} (hc : CntM w M2 N2 C2) : CntM w' M2 N2 C2 := by
 refine ⟨?_,hc.small⟩
 rcases hc.at_ with h1 | ⟨b,e,ho⟩
 ·exact .inl h1
 ·refine .inr ⟨b,e,?_⟩
  have hlt := ho.lt
  obtain ⟨es,clock,h1,F,hs,hD⟩ := ho
  refine ⟨es,clock,(h.block b hlt (fun e => ?_) (fun e => ?_) (fun e => ?_)).trans h1,F,hs,hD⟩
  ·have := hT.box; rw [← e,h1] at this; cases this
  ·have := hT.elm.box; rw [← e,h1] at this; cases this
  ·obtain ⟨vs,_,_,o,_⟩ := hT.elm.rows
   rcases o.2 with ⟨e1,_⟩ | ⟨g',cap,cur,e1,_,hh,_⟩
   ·rw [e1] at e; cases e
   ·rw [e1] at e; cases e
    rw [h1] at hh; cases hh
end
end Go.By
namespace Go.Proofs.YtccaiiigdfieoaaGreatDoor
open Go.RowKit Go.By Go.Maps
end Go.Proofs.YtccaiiigdfieoaaGreatDoor
namespace Go.Proofs.YtccaiiigdfieoaaGreatDoor
open Go.RowKit Go.By Go.Maps
theorem pok_of {l s n d : Int} (hl : l ≤ 9223372036854775807) (hc : checkS l s n = 0) (h0 : 0 ≤ d) (h1 : d < 4294967296) : ∃ L t k D : Nat,l = L ∧ s = t ∧ n = k ∧ d = D ∧ POK L t k D := by
 have hf : fitS l s = 0 ∧ n = needS l s := by
  unfold checkS at hc
  by_cases hf : fitS l s = 0
  ·rw [if_pos hf] at hc
   refine ⟨hf,?_⟩
   by_cases hn : n = needS l s
   ·exact hn
   ·rw [if_neg hn] at hc; omega
  ·rw [if_neg hf] at hc; exact absurd hc hf
 obtain ⟨hf,hn⟩ := hf
 have hs : 0 ≤ l ∧ 1 ≤ s ∧ s ≤ 65535 ∧ needS l s ≤ 4096 := by
  unfold fitS at hf
  split at hf
  ·omega
  ·split at hf
   ·omega
   ·split at hf
    ·omega
    ·omega
 obtain ⟨g1,g2⟩ := needS_pos hs.1 hs.2.1
 refine ⟨l.toNat,s.toNat,n.toNat,d.toNat,by omega,by omega,by omega,by omega,⟨?_,by omega,by omega,by omega,by omega,by omega,by omega⟩⟩
 rw [show ((l.toNat : Nat) : Int) = l by omega,show ((s.toNat : Nat) : Int) = s by omega,show ((n.toNat : Nat) : Int) = n by omega]
 exact hc
set_option maxRecDepth 100000 in
set_option maxHeartbeats 1000000 in
theorem GNew_bad (l s n d : Int) (w : World) (hl : l ≤ 9223372036854775807) (hc : checkS l s n ≠ 0) :
  Calls Tryz.prog 60 #[.agg #[.int .i64 l,.int .i64 s,.int .i64 n,.int .u32 d]] w fun e w' => e = .returned (.tuple #[.agg #[.int .i64 0,.int .i64 0,.int .i64 0,.int .u32 0,.map none],.int .i64 (checkS l s n)]) ∧ Below w.heap.size w w' := by
 have HK := Lib.hid (fun w => Check_any l s n d w hl)
 have hz : (checkS l s n != 0) = true := bne_iff_ne.2 hc
 clear hc
 generalize checkS l s n = C at *
 go_enter Tryz.func60,Tryz.ntmps60
 go_wp2_with fail
 refine Calls.mono (HK.out _) ?_
 rintro e w1 ⟨rfl,hb⟩
 obtain ⟨hb1,h1,h2,hs⟩ := two_of hb
 have HB := Lib.hid hb1
 obtain ⟨c0,c1,c2,c3⟩ := cells_four h1
 clear hb hb1
 go_wp2_with (refine wpList_store_row (o := ⟨none,.store 111 (.tmp 2) (.tmp 9),_,_,_,_⟩) rfl 111 (.tmp 2) (.tmp 9) rfl (w.heap.size + 1) #[.int .i64 0,.int .i64 0,.int .i64 0,.int .u32 0,.map none] rfl rfl _ _ h2 info_gate rfl (by simp [Value.oneCell']) ?_)
 refine bodyPost_ret (res_ct rfl _ _ _ 111 #[.int .i64 0,.int .i64 0,.int .i64 0,.int .u32 0,.map none] (0,0) _ (.int .i64 C) rfl (hrs h2) rfl Tryz.underlying111 rfl info_gate) rfl ?_
 exact ⟨rfl,below_row HB.out (by omega)⟩
set_option maxRecDepth 100000 in
set_option maxHeartbeats 1000000 in
theorem TNew_bad (l s n d : Int) (w : World) (hl : l ≤ 9223372036854775807) (hc : checkS l s n ≠ 0) :
  Calls Tryz.prog 15 #[.agg #[.int .i64 l,.int .i64 s,.int .i64 n,.int .u32 d]] w fun e w' => e = .returned (.tuple #[.pointer none,.int .i64 (checkS l s n)]) ∧ Below w.heap.size w w' := by
 have HK := Lib.hid (fun w => GNew_bad l s n d w hl hc)
 have hz : (checkS l s n != 0) = true := bne_iff_ne.2 hc
 clear hc
 generalize checkS l s n = C at *
 go_enter Tryz.func15,Tryz.ntmps15
 go_wp2_with fail
 refine Calls.mono (HK.out _) ?_
 rintro e w1 ⟨rfl,hb⟩
 obtain ⟨hb1,h1,hs⟩ := one_of hb
 have HB := Lib.hid hb1
 clear hb hb1
 go_wp2
 go_ret2
 exact ⟨rfl,al HB.out HB.out.size⟩
end Go.Proofs.YtccaiiigdfieoaaGreatDoor
namespace Go.By
open Go.RowKit
section
variable {P : Program} {ops : Array Oper} {Q : Exit → Act → World → Prop}
end
end Go.By
namespace Go.By
open Go.RowKit
theorem Hdr.keep {T base i : Nat} {w1 w w' : World} {v : Value} {xss : List (List UInt8)} (h : Hdr T w1 base w v i xss) (hb : Below w.heap.size w w') : Hdr T w1 base w' v i xss := by
 obtain ⟨vs,o,hl,hr⟩ := h
 exact ⟨vs,owns_keepv o hb,hl,hr⟩
section
variable {T : Nat} {wz W w w' : World} {va vb : Value} {n i4 i9 i : Nat} {A B : List (List UInt8)} {dn : Nat → Bool}
end
end Go.By
namespace Go.Proofs.YtccaiiigdfieoaaGreatDoor
open Go.RowKit Go.By Gf Go.Maps
end Go.Proofs.YtccaiiigdfieoaaGreatDoor
namespace Go.By
open Go.RowKit Go.Maps Go.Proofs.YtccaiiigdfieoaaGreatDoor
theorem fresh_same {T : TypeId} {B : Nat} {w w' : World} {q : Option Addr} {n c : Nat} {xs : List UInt8} (h : Fresh T B w q n c xs) (hp : ∀ (b : Nat) (cs : Array Value) (fr : Nat × Nat),w.heap[b]? = some (.cells cs T fr) → w'.heap[b]? = w.heap[b]?) : Fresh T B w' q n c xs := by
 have hd : ∀ a,q = some a → w'.heap[a.block]? = w.heap[a.block]? := fun a ha => by
  obtain ⟨cs,fr,e⟩ := h.ty a ha; exact hp _ cs fr e
 refine ⟨⟨h.sl.len,h.sl.le,h.sl.max,h.sl.nil,fun i hi => ?_⟩,h.new,fun a ha => ?_⟩
 ·obtain ⟨b,o,e,hc⟩ := h.sl.rs i hi
  exact ⟨b,o,e,(World.cell?_of_block (a := ⟨b,o + i,none⟩) (show w'.heap[b]? = w.heap[b]? from hd ⟨b,o,none⟩ e)).trans hc⟩
 ·obtain ⟨cs,fr,e⟩ := h.ty a ha
  exact ⟨cs,fr,(hd a ha).trans e⟩
theorem TChg.same {w w' : World} {base gt be L t k D N : Nat} {M v : Value} {C : DataW Unit} {K : List Rw} {st : Nat} (h : TChg w w' gt be v) (hT : Tkr w base gt be L t k D N M v C K st) {T : TypeId} (h1 : T ≠ 118) (h2 : T ≠ 191) (h3 : 99 ≠ T) : ∀ (b : Nat) (cs : Array Value) (fr : Nat × Nat),w.heap[b]? = some (.cells cs T fr) → w'.heap[b]? = w.heap[b]? := fun b cs fr hb =>
 (h.blk hT hb h1 h2 h3).trans hb.symm
def HdrF (T2 T1 : TypeId) (B : Nat) (w : World) (v : Value) (n : Nat) (xss : List (List UInt8)) : Prop :=
 ∃ vs,w.ownsRow B T2 1 v n vs ∧ xss.length = n ∧ ∀ (j : Nat) (u : Value),vs[j]? = some u → ∃ q m c xs,u = .slice q m c ∧ xss[j]? = some xs ∧ Fresh T1 B w q m c xs
theorem HdrF.nil (T2 T1 B : Nat) (w : World) : HdrF T2 T1 B w (.slice none 0 0) 0 [] := ⟨[],World.ownsRow_nil _ _ _ _,rfl,fun j u h => by simp at h⟩
theorem HdrF.shape {T2 T1 B n : Nat} {w : World} {v : Value} {xss : List (List UInt8)} (h : HdrF T2 T1 B w v n xss) : ∃ q c,v = .slice q n c := by
 obtain ⟨vs,o,_⟩ := h; exact owns_shape o
theorem HdrF.len {T2 T1 B n : Nat} {w : World} {v : Value} {xss : List (List UInt8)} (h : HdrF T2 T1 B w v n xss) : xss.length = n := by
 obtain ⟨vs,o,l,_⟩ := h; exact l
theorem HdrF.keep {T2 T1 B n : Nat} {w w' : World} {v : Value} {xss : List (List UInt8)} (h : HdrF T2 T1 B w v n xss) (hb : Below w.heap.size w w') : HdrF T2 T1 B w' v n xss := by
 obtain ⟨vs,o,l,r⟩ := h
 refine ⟨vs,owns_keepv o hb,l,fun j u hj => ?_⟩
 obtain ⟨q,m,c,xs,e,hx,hf⟩ := r j u hj
 exact ⟨q,m,c,xs,e,hx,hf.keep hb⟩
theorem HdrF.same {T2 T1 B n : Nat} {w w' : World} {v : Value} {xss : List (List UInt8)} (h : HdrF T2 T1 B w v n xss) (hs : w.heap.size ≤ w'.heap.size) (h2 : ∀ (b : Nat) (cs : Array Value) (fr : Nat × Nat),w.heap[b]? = some (.cells cs T2 fr) → w'.heap[b]? = w.heap[b]?) (h1 : ∀ (b : Nat) (cs : Array Value) (fr : Nat × Nat),w.heap[b]? = some (.cells cs T1 fr) → w'.heap[b]? = w.heap[b]?) : HdrF T2 T1 B w' v n xss := by
 obtain ⟨vs,o,l,r⟩ := h
 refine ⟨vs,owns_same o hs fun g hg => ?_,l,fun j u hj => ?_⟩
 ·rcases o.2 with ⟨e1,_⟩ | ⟨g',cap,cur,e1,_,hh,_⟩
  ·rw [e1] at hg; cases hg
  ·rw [e1] at hg; cases hg
   exact h2 _ _ _ hh
 ·obtain ⟨q,m,c,xs,e,hx,hf⟩ := r j u hj
  exact ⟨q,m,c,xs,e,hx,fresh_same hf h1⟩
theorem HdrF.sl2 {T2 T1 B n : Nat} {w : World} {q : Option Addr} {c : Nat} {xss : List (List UInt8)} (h : HdrF T2 T1 B w (.slice q n c) n xss) : Sl2 w q n c xss := by
 obtain ⟨vs,o,l,r⟩ := h
 have hd : Hdr T2 w B w (.slice q n c) n xss := ⟨vs,o,l,fun j u hj => by
  obtain ⟨q,m,c,xs,e,hx,hf⟩ := r j u hj
  exact ⟨q,m,c,xs,e,hx,hf.sl⟩⟩
 exact hd.sl2 (Below.refl _ _)
theorem HdrF.push {T2 T1 B n : Nat} {w w' : World} {v v' : Value} {xss : List (List UInt8)} {vs : List Value} {q : Option Addr} {m c : Nat} {xs : List UInt8} (ho : w'.ownsRow B T2 1 v' (n + 1) (vs ++ [.slice q m c])) (hvl : vs.length = n) (hl : xss.length = n)
  (hr : ∀ (j : Nat) (u : Value),vs[j]? = some u → ∃ q m c xs,u = .slice q m c ∧ xss[j]? = some xs ∧ Fresh T1 B w q m c xs) (hx : Fresh T1 B w q m c xs) (hp : ∀ (b : Nat) (cs : Array Value) (fr : Nat × Nat),w.heap[b]? = some (.cells cs T1 fr) → w'.heap[b]? = w.heap[b]?) : HdrF T2 T1 B w' v' (n + 1) (xss ++ [xs]) := by
 refine ⟨_,ho,by simp [hl],fun j u hj => ?_⟩
 by_cases h : j < vs.length
 ·rw [List.getElem?_append_left h] at hj
  obtain ⟨q,m,c,ys,e,hy,hf⟩ := hr j _ hj
  exact ⟨q,m,c,ys,e,by rw [List.getElem?_append_left (by omega)]; exact hy,fresh_same hf hp⟩
 ·rw [List.getElem?_append_right (by omega)] at hj
  by_cases h0 : j - vs.length = 0
  ·rw [h0] at hj
   simp at hj
   refine ⟨q,m,c,xs,hj.symm,?_,fresh_same hx hp⟩
   rw [List.getElem?_append_right (by omega),show j - xss.length = 0 by omega]; rfl
  ·rw [List.getElem?_eq_none (by simp; omega)] at hj; cases hj
end Go.By
namespace Go.Proofs.YtccaiiigdfieoaaGreatDoor
open Go.RowKit Go.By Go.Maps
end Go.Proofs.YtccaiiigdfieoaaGreatDoor
namespace Go.By
open Go.RowKit Go.Maps Go.Proofs.YtccaiiigdfieoaaGreatDoor
end Go.By
namespace Go.Proofs.YtccaiiigdfieoaaGreatDoor
open Go.RowKit Go.By Gf Go.Maps
section
variable {wI w0 w w' : World} {gs gt be base L t k D nx N st : Nat} {FX : List (List UInt8)} {v : Value} {K : List Rw}
end
end Go.Proofs.YtccaiiigdfieoaaGreatDoor
namespace Go.By
end Go.By
namespace Go.Proofs.YtccaiiigdfieoaaGreatDoor
open Go.RowKit Go.By
end Go.Proofs.YtccaiiigdfieoaaGreatDoor
namespace Go.By
end Go.By
namespace Go.Proofs.YtccaiiigdfieoaaGreatDoor
open Go.RowKit Go.By
end Go.Proofs.YtccaiiigdfieoaaGreatDoor
namespace Go.By
open Go.RowKit Go.Maps Go.Proofs.YtccaiiigdfieoaaGreatDoor
theorem HdrF.lt {T2 T1 B n : Nat} {w : World} {v : Value} {xss : List (List UInt8)} (h : HdrF T2 T1 B w v n xss) : ∀ g,v.ownBlock = some g → g < w.heap.size := by
 obtain ⟨vs,o,_⟩ := h
 exact fun g hg => (o.lt g hg).2
theorem HdrF.at {T2 T1 B n : Nat} {w : World} {q : Option Addr} {c : Nat} {xss : List (List UInt8)} (h : HdrF T2 T1 B w (.slice q n c) n xss) {j : Nat} (hj : j < n) : ∃ b o p m d xs,q = some ⟨b,o,none⟩ ∧ w.cell? ⟨b,o + j,none⟩ = some (.slice p m d) ∧ Hid (xss[j]? = some xs) ∧ Fresh T1 B w p m d xs := by
 obtain ⟨b,o,p,m,d,xs,e,hc,_,hx⟩ := h.sl2.at j hj
 obtain ⟨vs,ow,l,r⟩ := h
 have hl : vs.length = n := owns_len ow
 obtain ⟨p',m',d',xs',e1,hx',hf⟩ := r j vs[j] (List.getElem?_eq_getElem (by omega))
 have hx := hx.out
 rw [hx'] at hx; cases hx
 refine ⟨b,o,p,m,d,xs,e,hc,hx',?_⟩
 have hc2 : w.cell? ⟨b,o + j,none⟩ = some (.slice p' m' d') := by
  rcases ow.2 with ⟨h2,_⟩ | ⟨g,cap,cur,hv,_⟩
  ·cases h2; cases e
  ·cases hv; cases e
   have h3 := ow.cellAt j (by omega)
   rw [Nat.zero_add,h3,List.getElem?_eq_getElem (by omega),e1]
 rw [hc2] at hc; cases hc
 exact hf
def LenIs (n : Nat) (v : Value) (_w : World) : Prop := ∃ q c,v = .slice q n c
def ShLen (n : Nat) : Shp := ⟨LenIs n,fun _ _ _ h _ => h⟩
end Go.By
namespace Go.Proofs.YtccaiiigdfieoaaGreatDoor
open Go.RowKit Go.By Gf Go.Maps
def OwnsH (W : World) (B T : Nat) (v : Value) (n : Nat) : Prop := ∃ ys,W.ownsRow B T 1 v n ys
theorem wpList_hdr {ops : Array Oper} {rest : List Oper} {o : Oper} {a : Act} {W : World} {Q : Exit → Act → World → Prop} (hgd : o.guard = none) (s x : Operand) (ho : o.op = .call { callee := .builtin .append,args := #[s,x],argTypes := #[31,31] })
  (B n : Nat) (v : Value) (xss : List (List UInt8)) (hs : a.eval s = v) (hH : HdrF 22 5 B W v n xss) (hn : n ≤ 1000000) (hB : B ≤ W.heap.size)
  (g : Nat) (hx : a.eval x = .slice (some ⟨g,0,none⟩) 1 1) (q : Option Addr) (m c : Nat) (fr : Nat × Nat) (xs : List UInt8) (hg : W.heap[g]? = some (.cells #[.slice q m c] 22 fr)) (hF : Fresh 5 B W q m c xs)
  (h : ∀ v' W',HdrF 22 5 B W' v' (n + 1) (xss ++ [xs]) → OwnsH W B 22 v n → W.grownBy W' v.ownBlock → (v'.ownBlock = v.ownBlock ∨ v'.ownBlock = some W.heap.size) → wpList Tryz.prog ops Q rest (a.put o.dst v') W') : wpList Tryz.prog ops Q (o :: rest) a W := by
 obtain ⟨i0,hi0,hz0,hz1,hz2⟩ := info_parts info_bytesC
 obtain ⟨vs,ho1,hl,hr⟩ := hH
 refine wpList_append_where W hgd s x 31 ho B 22 i0 (.slice none 0 0) 1 24 Tryz.underlying31 hi0 hz0 hz1 hz2 rfl (by decide) v n vs hs ho1 ⟨g,0,none⟩ 1 1 [.slice q m c] hx rfl (news_one hg) ones_one (by unfold maxLen; omega) (by omega) hB (by decide) ?_
 intro v' W' h1 h2 h3
 refine h v' W' (HdrF.push (v := v) h1 (by simpa using ho1.1) hl hr hF fun b cs fr hb => ?_) ⟨vs,ho1⟩ h2 h3
 rcases ho1.2 with ⟨e1,_⟩ | ⟨g',cap,cur,e1,_,hh,_⟩
 ·exact h2.block b (lt_of_block hb) (fun e => by rw [e1] at e; cases e)
 ·refine h2.block b (lt_of_block hb) (fun e => ?_)
  rw [e1] at e; cases e
  rw [hh] at hb; injection hb with hb; injection hb with _ hb _; exact absurd hb (by decide)
section
variable {wI w0 w w' : World} {gs gt be base L t k D nx N st : Nat} {FX : List (List UInt8)} {v : Value} {K : List Rw}
end
end Go.Proofs.YtccaiiigdfieoaaGreatDoor
namespace Go.By
open Go.RowKit
theorem sl_of_row {w : World} {a : Option Addr} {len cap : Nat} {zs : List Int}
  (h : (a = none ∧ len = 0 ∧ cap = 0 ∧ zs = []) ∨ ∃ x,a = some x ∧ len ≤ cap ∧ cap ≤ maxLen ∧ zs.length = cap ∧ (∀ i,i < zs.length → w.cell? (x.add i) = some (.int .u8 (zs.getD i 0))) ∧ ∀ n ∈ zs,(Lit.int .u8 n).wf = true) :
  ∃ xs,Sl B8 w a len cap xs := by
 rcases h with ⟨rfl,rfl,rfl,_⟩ | ⟨x,rfl,hl,hm,hz,hc,hw⟩
 ·exact ⟨[],Sl.nil0 _ _⟩
 ·refine ⟨(zs.take len).map fun z => UInt8.ofNat z.toNat,⟨by simp; omega,hl,hm,fun h => by simp at h,?_⟩⟩
  intro i hi
  have hi' : i < zs.length := by simp at hi; omega
  obtain ⟨b,o,hx,hc'⟩ := ints_at hc (by omega)
  refine ⟨b,o,by rw [hx],?_⟩
  have hh := hc i hi'
  rw [hx,Addr.add_lit] at hh
  rw [hh]
  have e : zs.getD i 0 = zs[i] := by simp [hi']
  rw [e]
  have hb := bounds_u8 (hw _ (List.getElem_mem hi'))
  simp
  omega
end Go.By
namespace Go.Proofs.YtccaiiigdfieoaaGreatDoor
open Go.RowKit Go.By Go.ChangeShapes Go.WideShapes Go.Deep
section
variable {H : Type} {enc : TypeId × Value → H} {P : Program} {w : World} {base : Nat} {held : Bool}
end
end Go.Proofs.YtccaiiigdfieoaaGreatDoor
namespace Go.By
open Go.RowKit
end Go.By
namespace Go.Proofs.YtccaiiigdfieoaaGreatDoor
open Go.RowKit Go.By Go.ChangeShapes Go.WideShapes Go.Deep
section
variable {H : Type} {enc : TypeId × Value → H} {P : Program} {w : World} {base : Nat} {held : Bool}
end
end Go.Proofs.YtccaiiigdfieoaaGreatDoor
namespace Go.Proofs.YtccaiiigdfieoaaGreatDoor
open Go.RowKit Go.By
set_option maxRecDepth 100000 in
set_option maxHeartbeats 1000000 in
theorem Few18_any (p : Option Addr) (m c : Nat) (xss : List (List UInt8)) (w : World) (h : Sl2 w p m c xss) :
  Calls Tryz.prog 25 #[.slice p m c] w fun e w' => e = .returned (.bool (xss.all (fun y => decide (y.length ≤ 800)) && decide (m ≤ 30))) ∧ w = w' := by
 have H := Lib.hid h
 have HL := Lib.hid h.len
 have hmb := h.bound
 obtain ⟨R,hR⟩ : ∃ R : Bool,R = (xss.all (fun y => decide (y.length ≤ 800)) && decide (m ≤ 30)) := ⟨_,rfl⟩
 rw [← hR]
 have HR := Lib.hid hR
 clear h hR
 go_enter Tryz.func25,Tryz.ntmps25
 go_wp2
 go_loop [7] (fun i => ∃ k : Nat,k ≤ m ∧ i = .int .i64 k ∧ Hid (∀ (j : Nat) (x : List UInt8),j < k → xss[j]? = some x → x.length ≤ 800)) (fun i => m - (intOf i).toNat)
 case atStart => exact ⟨0,Nat.zero_le _,rfl,fun j x hj => by omega⟩
 case round =>
  obtain ⟨k,hk,rfl,hj⟩ := hrel
  by_cases hlt : k < m
  ·obtain ⟨b,o,q,mx,cx,xs,rfl,hc,hs,hx⟩ := H.out.at k hlt
   have hmx := hs.len
   have hxb := hs.bound
   by_cases e : mx ≤ 800
   ·have HX := Lib.hid hmx
    clear hs hmx
    have e' : (mx : Int) ≤ 800 := by omega
    go_wp2
    go_round
    case rel => exact ⟨k + 1,by omega,by go_num,fun j x hjk hx' => by
     rcases Nat.lt_or_ge j k with h | h
     ·exact hj.out j x h hx'
     ·obtain rfl : j = k := by omega
      have := hx.out; rw [hx'] at this; cases this; rw [HX.out]; exact e⟩
    case measure => simp [intOf]; omega
   ·have e' : (800 : Int) < (mx : Int) := by omega
    have hRf : Hid (R = false) := by
     show R = false
     rw [HR.out]
     have : xss.all (fun y => decide (y.length ≤ 800)) = false := by
      rw [List.all_eq_false]
      exact ⟨xs,List.mem_of_getElem? hx.out,by simp; omega⟩
     rw [this]; rfl
    clear hs hmx e
    go_wp2
    go_ret
    exact ⟨by rw [hRf.out]; rfl,rfl⟩
  ·have hkm : k = m := by omega
   have hRt : Hid (R = decide ((m : Int) ≤ 30)) := by
    show R = _
    rw [HR.out]
    have : xss.all (fun y => decide (y.length ≤ 800)) = true := by
     rw [List.all_eq_true]
     intro x hx
     obtain ⟨i,hi,rfl⟩ := List.getElem_of_mem hx
     exact decide_eq_true (hj.out i _ (by rw [hkm,← HL.out]; exact hi) (List.getElem?_eq_getElem hi))
    rw [this,Bool.true_and]
    by_cases h30 : m ≤ 30
    ·rw [decide_eq_true h30,decide_eq_true (by omega)]
    ·rw [decide_eq_false h30,decide_eq_false (by omega)]
   have hge : (m : Int) ≤ (k : Int) := by omega
   clear hkm
   go_wp2
   go_ret
   exact ⟨by rw [hRt.out]; rfl,rfl⟩
def small19 (l s n : Int) : Bool := if checkS l s n = 0 then decide (n ≤ 12) && decide (s ≤ 20) else true
set_option maxRecDepth 100000 in
set_option maxHeartbeats 1000000 in
theorem Small19_any (l s n d : Int) (w : World) (hl2 : l ≤ 9223372036854775807) :
  Calls Tryz.prog 26 #[.agg #[.int .i64 l,.int .i64 s,.int .i64 n,.int .u32 d]] w fun e w' => e = .returned (.bool (small19 l s n)) ∧ Below w.heap.size w w' := by
 have HC := Lib.hid (fun w => Check_any l s n d w hl2)
 have HS : Hid (small19 l s n = if checkS l s n = 0 then decide (n ≤ 12) && decide (s ≤ 20) else true) := rfl
 generalize small19 l s n = R at *
 generalize checkS l s n = C at *
 by_cases hc : C = 0
 ·subst hc
  by_cases hn : n ≤ 12
  ·by_cases hs : s ≤ 20
   ·have HR : Hid (R = true) := by show _ = _; rw [HS.out,if_pos rfl,decide_eq_true hn,decide_eq_true hs]; rfl
    clear HS
    go_enter Tryz.func26,Tryz.ntmps26
    go_wp2_with fail
    refine Calls.mono (HC.out _) ?_
    rintro e w1 ⟨rfl,hb⟩
    obtain ⟨hb1,h1,hsz⟩ := one_of hb
    obtain ⟨c0,c1,c2,c3⟩ := cells_four h1
    have HB := Lib.hid hb1
    clear hb hb1
    go_wp2
    go_ret
    exact ⟨by rw [HR.out]; first | rfl | (simp only [decide_eq_true hs]; rfl),HB.out⟩
   ·have hs' : ¬ s ≤ 20 := by omega
    have HR : Hid (R = false) := by show _ = _; rw [HS.out,if_pos rfl,decide_eq_true hn,decide_eq_false hs']; rfl
    clear HS
    go_enter Tryz.func26,Tryz.ntmps26
    go_wp2_with fail
    refine Calls.mono (HC.out _) ?_
    rintro e w1 ⟨rfl,hb⟩
    obtain ⟨hb1,h1,hsz⟩ := one_of hb
    obtain ⟨c0,c1,c2,c3⟩ := cells_four h1
    have HB := Lib.hid hb1
    clear hb hb1
    go_wp2
    go_ret
    exact ⟨by rw [HR.out]; first | rfl | (simp only [show decide (s ≤ 20) = false from decide_eq_false (by omega)]; rfl),HB.out⟩
  ·have HR : Hid (R = false) := by show _ = _; rw [HS.out,if_pos rfl,decide_eq_false hn]; rfl
   clear HS
   go_enter Tryz.func26,Tryz.ntmps26
   go_wp2_with fail
   refine Calls.mono (HC.out _) ?_
   rintro e w1 ⟨rfl,hb⟩
   obtain ⟨hb1,h1,hsz⟩ := one_of hb
   obtain ⟨c0,c1,c2,c3⟩ := cells_four h1
   have HB := Lib.hid hb1
   clear hb hb1
   go_wp2
   go_ret
   exact ⟨by rw [HR.out]; rfl,HB.out⟩
 ·have hz : (C != 0) = true := bne_iff_ne.2 hc
  have HR : Hid (R = true) := by show _ = _; rw [HS.out,if_neg hc]
  clear HS hc
  go_enter Tryz.func26,Tryz.ntmps26
  go_wp2_with fail
  refine Calls.mono (HC.out _) ?_
  rintro e w1 ⟨rfl,hb⟩
  obtain ⟨hb1,h1,hsz⟩ := one_of hb
  have HB := Lib.hid hb1
  clear hb hb1
  go_wp2
  go_ret
  exact ⟨by rw [HR.out]; rfl,HB.out⟩
end Go.Proofs.YtccaiiigdfieoaaGreatDoor
namespace Go.Proofs.YtccaiiigdfieoaaGreatDoor
open Go.RowKit Go.By Gf Go.Maps
end Go.Proofs.YtccaiiigdfieoaaGreatDoor
namespace Go.Proofs.YtccaiiigdfieoaaGreatDoor
open Go.RowKit Go.By
end Go.Proofs.YtccaiiigdfieoaaGreatDoor
namespace Go.Proofs.YtccaiiigdfieoaaGreatDoor
open Go.RowKit Go.By
end Go.Proofs.YtccaiiigdfieoaaGreatDoor
namespace Go.By
open Go.RowKit
abbrev Par := Value × Int × List UInt8
section
variable {TP T1 : Nat} {w w' : World} {base n : Nat} {v : Value} {ts : List Par}
end
end Go.By
namespace Go.Proofs.YtccaiiigdfieoaaGreatDoor
open Go.RowKit Go.By
end Go.Proofs.YtccaiiigdfieoaaGreatDoor
namespace Go.Proofs.YtccaiiigdfieoaaGreatDoor
open Go.RowKit Go.By
def dropAt {α : Type} (ps : List α) (i : Nat) : List α := ps.take i ++ ps.drop (i + 1)
def putAtP {α : Type} (ps : List α) (k : Nat) (p : α) : List α := ps.take k ++ p :: ps.drop k
end Go.Proofs.YtccaiiigdfieoaaGreatDoor
namespace Go.Proofs.YtccaiiigdfieoaaGreatDoor
open Go.RowKit Go.By
end Go.Proofs.YtccaiiigdfieoaaGreatDoor
namespace Go.Proofs.YtccaiiigdfieoaaGreatDoor
open Go.RowKit Go.By
def cutP (p : List UInt8 × Int) (j : Nat) : List UInt8 × Int := if j < p.1.length then (p.1.take j,-1) else p
end Go.Proofs.YtccaiiigdfieoaaGreatDoor
namespace Go.Proofs.YtccaiiigdfieoaaGreatDoor
open Go.RowKit Go.By
def flip (xs : List UInt8) (at' : Nat) : List UInt8 := xs.set (at' / 8) ((xs.getD (at' / 8) 0) ^^^ UInt8.ofNat (2 ^ (at' % 8)))
def maskF (b j : Nat) (xs : List UInt8) : Nat → List UInt8 × Bool
 | 0 => (xs,false)
 | k + 1 => if b.testBit k = true ∧ (j + k) / 8 < xs.length then (flip (maskF b j xs k).1 (j + k),true) else maskF b j xs k
end Go.Proofs.YtccaiiigdfieoaaGreatDoor
namespace Go.Proofs.YtccaiiigdfieoaaGreatDoor
open Go.RowKit Go.By
def maskP (p : List UInt8 × Int) (b j : Nat) : List UInt8 × Int := ((maskF b j p.1 32).1,if (maskF b j p.1 32).2 then -1 else p.2)
end Go.Proofs.YtccaiiigdfieoaaGreatDoor
namespace Go.Proofs.YtccaiiigdfieoaaGreatDoor
open Go.RowKit Go.By
structure ActD where
 d : Int
 i : Int
 j : Int
 b : Nat
 bs : List UInt8
abbrev Pack := List UInt8 × Int
def stepS (ps : List Pack) (a : ActD) : List Pack :=
 if a.d < 0 ∨ 6 ≤ a.d ∨ a.j < 0 then ps
 else if a.d = 5 then ps ++ [(a.bs,-1)]
 else match ps[a.i.toNat]? with
  | none => ps
  | some p => if a.i < 0 then ps
   else if a.d = 0 then dropAt ps a.i.toNat
   else if a.d = 1 then ps ++ [p]
   else if a.d = 2 then putAtP (dropAt ps a.i.toNat) (min a.j.toNat (ps.length - 1)) p
   else if a.d = 3 then ps.set a.i.toNat (cutP p a.j.toNat)
   else ps.set a.i.toNat (maskP p a.b a.j.toNat)
end Go.Proofs.YtccaiiigdfieoaaGreatDoor
namespace Go.Proofs.YtccaiiigdfieoaaGreatDoor
open Go.RowKit Go.By Go.ChangeShapes Go.WideShapes Go.Deep
section
variable {H : Type} {enc : TypeId × Value → H} {P : Program} {w : World} {base : Nat} {held : Bool}
instance : Inhabited ActD := ⟨⟨0,0,0,0,[]⟩⟩
end
end Go.Proofs.YtccaiiigdfieoaaGreatDoor
namespace Go.Proofs.YtccaiiigdfieoaaGreatDoor
open Go.RowKit Go.By
end Go.Proofs.YtccaiiigdfieoaaGreatDoor
namespace Go.Proofs.YtccaiiigdfieoaaGreatDoor
open Go.RowKit Go.By
end Go.Proofs.YtccaiiigdfieoaaGreatDoor
namespace Go.Proofs.YtccaiiigdfieoaaGreatDoor
open Go.RowKit Go.By
end Go.Proofs.YtccaiiigdfieoaaGreatDoor
namespace Go.Proofs.YtccaiiigdfieoaaGreatDoor
open Go.RowKit Go.By
end Go.Proofs.YtccaiiigdfieoaaGreatDoor
namespace Go.Proofs.YtccaiiigdfieoaaGreatDoor
open Go.RowKit Go.By
end Go.Proofs.YtccaiiigdfieoaaGreatDoor
namespace Go.Proofs.YtccaiiigdfieoaaGreatDoor
open Go.RowKit Go.By Gf Go.Maps
def tkF (k t D : Nat) (s : List Rw × Nat) (x : List UInt8) : List Rw × Nat := (takeK k t D s.1 s.2 x,takeS k t D s.1 s.2 x)
def tkR (k t D : Nat) (came : List (List UInt8)) : List Rw × Nat := came.foldl (tkF k t D) ([],0)
theorem tkR_snoc {k t D : Nat} {came : List (List UInt8)} {i : Nat} {x : List UInt8} (h : came[i]? = some x) : tkR k t D (came.take (i + 1)) = tkF k t D (tkR k t D (came.take i)) x := by
 obtain ⟨hi,e⟩ := List.getElem?_eq_some_iff.1 h
 unfold tkR
 rw [foldl_take_succ _ _ _ _ hi,e]
section
variable {wI w0 w w' : World} {gs gt be base L t k D nx N st : Nat} {FX : List (List UInt8)} {v : Value} {K : List Rw}
end
end Go.Proofs.YtccaiiigdfieoaaGreatDoor
namespace Go.By
open Go.RowKit Go.Proofs.YtccaiiigdfieoaaGreatDoor
def clashRow (k t : Nat) : Rw := (List.replicate k 0,(List.replicate t (0 : UInt8)).set 0 1)
theorem clashRow_len (k t : Nat) : (clashRow k t).1.length = k ∧ (clashRow k t).2.length = t := by simp [clashRow]
def expR (k t : Nat) (K : List Rw) (st : Nat) : List Rw := if st = 2 then K ++ [clashRow k t] else K
theorem expR_two (k t : Nat) (K : List Rw) : expR k t K 2 = K ++ [clashRow k t] := rfl
theorem expR_not {k t st : Nat} {K : List Rw} (h : st ≠ 2) : expR k t K st = K := if_neg h
theorem expR_fit {k t st : Nat} {K : List Rw} (h : ∀ r,r ∈ K → Fit k t r) : ∀ r,r ∈ expR k t K st → Fit k t r := fun r hr => by
 unfold expR at hr
 split at hr
 ·rcases List.mem_append.1 hr with hr | hr
  ·exact h r hr
  ·rw [List.mem_singleton.1 hr]; exact clashRow_len k t
 ·exact h r hr
theorem expR_len {k t st : Nat} {K : List Rw} : (expR k t K st).length ≤ K.length + 1 := by
 unfold expR; split <;> simp
def expL (D : Nat) (R : List Rw) : List (List UInt8) := R.zipIdx.map fun p => pktB 0 D p.2 p.1.1 0 p.1.2
theorem expL_len (D : Nat) (R : List Rw) : (expL D R).length = R.length := by simp [expL]
theorem expL_snoc {D i : Nat} {R : List Rw} {x : Rw} (h : R[i]? = some x) : expL D (R.take (i + 1)) = expL D (R.take i) ++ [pktB 0 D i x.1 0 x.2] := by
 have hi := (List.getElem?_eq_some_iff.1 h).1
 unfold expL
 rw [List.take_add_one,h,List.zipIdx_append,List.map_append]
 simp only [Option.toList_some,List.zipIdx_cons,List.zipIdx_nil,List.map_cons,List.map_nil,List.length_take,Nat.zero_add]
 rw [Nat.min_eq_left (by omega)]
theorem expL_at {D i : Nat} {R : List Rw} {x : Rw} (h : R[i]? = some x) : (expL D R)[i]? = some (pktB 0 D i x.1 0 x.2) := by
 unfold expL
 rw [List.getElem?_map,List.getElem?_zipIdx,h]
 simp
theorem pktB_len0 (D i : Nat) (xs ys : List UInt8) : (pktB 0 D i xs 0 ys).length = 14 + xs.length + ys.length := by
 unfold pktB bodyP headB srcB
 rw [if_pos rfl]
 simp [put4_len]
 omega
def hexT (L : List (List UInt8)) : List UInt8 := L.flatMap fun x => hexL x ++ [10]
theorem hexT_snoc {L : List (List UInt8)} {i : Nat} {x : List UInt8} (h : L[i]? = some x) : hexT (L.take (i + 1)) = hexT (L.take i) ++ (hexL x ++ [10]) := by
 unfold hexT
 rw [List.take_add_one,h,List.flatMap_append]; simp
def keepT (L t k D : Nat) (K : List Rw) (st : Nat) : List UInt8 := textW D L t k ++ [10] ++ hexT (expL D (expR k t K st))
end Go.By
namespace Go.Proofs.YtccaiiigdfieoaaGreatDoor
open Gf Go.By
theorem zeroS_all {xs : List UInt8} : zeroS xs = true ↔ ∀ x,x ∈ xs → x = 0 := by unfold zeroS; simp
end Go.Proofs.YtccaiiigdfieoaaGreatDoor
namespace Go.By
open Go.RowKit
end Go.By
namespace Go.Proofs.YtccaiiigdfieoaaGreatDoor
open Go.RowKit Go.By
end Go.Proofs.YtccaiiigdfieoaaGreatDoor
namespace Go.Proofs.YtccaiiigdfieoaaGreatDoor
open Go.RowKit Go.By
end Go.Proofs.YtccaiiigdfieoaaGreatDoor
namespace Go.Proofs.YtccaiiigdfieoaaGreatDoor
open Go.RowKit Go.By
end Go.Proofs.YtccaiiigdfieoaaGreatDoor
namespace Go.Proofs.YtccaiiigdfieoaaGreatDoor
open Go.RowKit Go.By
end Go.Proofs.YtccaiiigdfieoaaGreatDoor
namespace Go.By
open Go.RowKit
theorem RwS.take {w : World} {p : Option Addr} {n c j : Nat} {K : List (List UInt8 × List UInt8)} (h : RwS w p n c K) (hj : j ≤ n) : RwS w p j c (K.take j) :=
 ⟨by rw [List.length_take,h.len]; omega,Nat.le_trans hj h.le,h.max,fun e => ⟨by have := h.nil e; omega,(h.nil e).2⟩,fun i k hi => by
  rw [List.getElem?_take] at hi
  split at hi
  ·exact h.row i k hi
  ·cases hi⟩
end Go.By
namespace Go.Proofs.YtccaiiigdfieoaaGreatDoor
open Go.RowKit Go.By
end Go.Proofs.YtccaiiigdfieoaaGreatDoor
namespace Go.By
open Go.RowKit Go.Proofs.YtccaiiigdfieoaaGreatDoor Gf Go.Maps
section
variable {wI w w' : World} {q : Option Addr} {n c : Nat} {X : List Rw}
end
end Go.By
namespace Go.By
open Go.RowKit Go.Proofs.YtccaiiigdfieoaaGreatDoor Gf
theorem red_front {n t i : Nat} {K : List Rw} (h : Red n t K) : Red n t (K.take i) :=
 ⟨⟨fun a ha => h.kept.rows a (List.mem_of_mem_take ha),h.kept.sorted.sublist (List.take_sublist _ _)⟩,h.red.sublist (List.take_sublist _ _)⟩
theorem rest_zero {n t : Nat} : ∀ {K : List Rw} {x : Rw},(∀ k,k ∈ K → Fit n t k ∧ Led k) → Fit n t x → (∀ k,k ∈ K → vR x (leadN k) = 0) → restF K x = x
 | [],x,_,_,_ => rfl
 | k :: K,x,h,hx,h0 => by
  obtain ⟨hf,hl⟩ := h k (by simp)
  have e : lessF x (atS x.1 (leadS k.1)) k = x := by
   have h1 : atS x.1 (leadS k.1) = 0 := by rw [hl.at.1,vR_at hx (hl.at.lt hf)]; exact h0 k (by simp)
   unfold lessF
   rw [axpy_zero_of h1 (by rw [hf.1,hx.1]),axpy_zero_of h1 (by rw [hf.2,hx.2])]
  show restF K (lessF x (atS x.1 (leadS k.1)) k) = x
  rw [e]
  exact rest_zero (fun k hk => h k (by simp [hk])) hx (fun k hk => h0 k (by simp [hk]))
theorem put_back {n t i : Nat} {K : List Rw} {x : Rw} (h : Red n t K) (hx : K[i]? = some x) : putK (K.take i) x = K.take (i + 1) ∧ codeF (K.take i) x = 0 := by
 obtain ⟨hf,hl⟩ := h.kept.rows x (List.mem_of_getElem? hx)
 have hi := (List.getElem?_eq_some_iff.1 hx).1
 have e : restF (K.take i) x = x := rest_zero (fun k hk => h.kept.rows k (List.mem_of_mem_take hk)) hf (fun k hk => by
  obtain ⟨j,hj,rfl⟩ := List.getElem_of_mem hk
  have hji : j < i := by simp at hj; omega
  rw [List.getElem_take,h.delta hx (List.getElem?_eq_getElem (show j < K.length by omega)),if_neg (by omega)])
 have hn : ¬ leadS (restF (K.take i) x).1 < 0 := by rw [e,hl.at.1]; omega
 refine ⟨?_,by unfold codeF; rw [if_neg hn]⟩
 unfold putK
 rw [if_neg hn]
 obtain ⟨g1,g2,g3,g4,_⟩ := putF_red (red_front h (i := i)) hf hn
 have et : K.take (i + 1) = K.take i ++ [x] := by rw [List.take_add_one,hx]; rfl
 refine Red.unique g1 (red_front h) (fun k hk => ?_) (fun k hk => ?_)
 ·refine Sp.trans (fun a ha => ?_) (g2 k hk)
  rw [et,List.map_append]
  rcases List.mem_cons.1 ha with rfl | ha
  ·exact Sp.mem (by simp)
  ·exact Sp.mem (List.mem_append_left _ ha)
 ·rw [et] at hk
  rcases List.mem_append.1 hk with hk | hk
  ·exact g3 k hk
  ·rw [List.mem_singleton.1 hk]; exact g4
theorem leadS_zeros (k : Nat) : leadS (List.replicate k (0 : UInt8)) < 0 := by
 by_cases h : leadS (List.replicate k (0 : UInt8)) < 0
 ·exact h
 ·exfalso
  obtain ⟨l,c,hc,_,hL,hF,hv⟩ := norm_row (n := k) (t := 0) (y := (List.replicate k (0 : UInt8),[])) ⟨by simp,rfl⟩ h
  have h1 := vf_lead hL hF
  rw [hv] at h1
  have h2 : vf (cat (List.replicate k (0 : UInt8),[])) l = 0 := vf_zero (fun x hx => by
   unfold cat at hx; simp at hx; exact hx.2) l
  simp only [h2,gmul_zero] at h1
  exact absurd h1 (by decide)
theorem put_clash {k t : Nat} {K : List Rw} (h : Red k t K) (ht : 1 ≤ t) : codeF K (clashRow k t) = 2 ∧ putK K (clashRow k t) = K := by
 have hf : Fit k t (clashRow k t) := clashRow_len k t
 have e : restF K (clashRow k t) = clashRow k t := rest_zero h.kept.rows hf (fun r hr => by
  obtain ⟨hf2,hl2⟩ := h.kept.rows r hr
  have hlt := hl2.at.lt hf2
  show vf (cat (clashRow k t)) (leadN r) = 0
  unfold cat clashRow
  rw [vf_app_left (by simpa using hlt)]
  exact vf_zero (fun x hx => (List.mem_replicate.1 hx).2) _)
 have hl : leadS (restF K (clashRow k t)).1 < 0 := by rw [e]; exact leadS_zeros k
 have hz : ¬ zeroS (restF K (clashRow k t)).2 = true := by
  rw [e]
  intro hz
  have := zeroS_all.1 hz 1 (by
   unfold clashRow
   rw [List.mem_iff_getElem?]
   exact ⟨0,by rw [List.getElem?_set_self (by simp; omega)]⟩)
  exact absurd this (by decide)
 unfold codeF putK
 rw [if_pos hl,if_pos hl,if_neg hz]
 exact ⟨rfl,rfl⟩
def StF (k : Nat) (K : List Rw) (st : Nat) : Prop := st ≤ 2 ∧ (st = 1 ↔ K.length = k)
theorem StF.nil {k : Nat} (hk : 1 ≤ k) : StF k [] 0 := ⟨by omega,⟨fun h => by omega,fun h => by simp at h; omega⟩⟩
theorem StF.take {k t D st : Nat} {K : List Rw} (h : StF k K st) (xs : List UInt8) : StF k (takeK k t D K st xs) (takeS k t D K st xs) := by
 unfold takeK takeS
 by_cases hc : readC k t D xs = 0 ∧ st = 0
 ·rw [if_pos hc,if_pos hc]
  unfold nextS
  by_cases h2 : codeF K (eqX k t xs) = 2
  ·rw [if_pos h2]
   have hk : putK K (eqX k t xs) = K := by
    unfold codeF at h2
    unfold putK
    by_cases hl : leadS (restF K (eqX k t xs)).1 < 0
    ·rw [if_pos hl]
    ·rw [if_neg hl] at h2; cases h2
   rw [hk]
   exact ⟨by omega,⟨fun e => by omega,fun e => by have := h.2.2 e; omega⟩⟩
  ·rw [if_neg h2]
   by_cases hl : (putK K (eqX k t xs)).length = k
   ·rw [if_pos hl]; exact ⟨by omega,⟨fun _ => hl,fun _ => rfl⟩⟩
   ·rw [if_neg hl]; exact ⟨by omega,⟨fun e => by omega,fun e => absurd e hl⟩⟩
 ·rw [if_neg hc,if_neg hc]; exact h
theorem expL_read {k t D n : Nat} {x : Rw} (hf : Fit k t x) (hD : D < 4294967296) (hn : n < 4294967296) : readC k t D (pktB 0 D n x.1 0 x.2) = 0 ∧ eqX k t (pktB 0 D n x.1 0 x.2) = x := by
 obtain ⟨h1,h2,_,h4,h5,h6⟩ := read_write (m := 0) (D := D) (n := n) (s := 0) (k := k) (t := t) (xs := x.1) (ys := x.2) rfl (fun _ => hf.1) hf.2 hD hn
 refine ⟨h1,?_⟩
 unfold eqX
 rw [h2,h4,h5,h6]
 have e : vecS 0 (rdX 0 (srcB 0 x.1 0)) (rdS 0 (srcB 0 x.1 0)) k = x.1 := by
  unfold vecS rdX srcB
  rw [if_pos rfl,if_pos rfl,if_pos rfl]
 rw [e]
theorem expL_ok {k t D : Nat} {R : List Rw} (hR : ∀ r,r ∈ R → Fit k t r) (hD : D < 4294967296) (hl : R.length ≤ 1000000) {i : Nat} {x : List UInt8} (h : (expL D R)[i]? = some x) : readC k t D x = 0 := by
 have hi : i < R.length := by have := (List.getElem?_eq_some_iff.1 h).1; rw [expL_len] at this; exact this
 have h1 : R[i]? = some R[i] := List.getElem?_eq_getElem hi
 rw [expL_at h1] at h
 injection h with h
 rw [← h]
 exact (expL_read (hR _ (List.mem_of_getElem? h1)) hD (by omega)).1
theorem hear_rows {k t D : Nat} {K R : List Rw} (h : Red k t K) (hk : 1 ≤ k) (hD : D < 4294967296) (hl : R.length ≤ 1000000) (hR : R.take K.length = K) : ∀ i,i ≤ K.length → tkR k t D ((expL D R).take i) = (K.take i,if i = k then 1 else 0)
 | 0,_ => by rw [if_neg (by omega)]; rfl
 | i + 1,hi => by
  have hx : K[i]? = some K[i] := List.getElem?_eq_getElem (by omega)
  have hx2 : R[i]? = some K[i] := by
   have e1 : (R.take K.length)[i]? = R[i]? := by rw [List.getElem?_take,if_pos (by omega)]
   rw [← e1,hR]; exact hx
  have hKk : K.length ≤ k := Red.le h
  have hRl : i < R.length := (List.getElem?_eq_some_iff.1 hx2).1
  rw [tkR_snoc (expL_at hx2),hear_rows h hk hD hl hR i (by omega),if_neg (by omega)]
  obtain ⟨r1,r2⟩ := expL_read (n := i) (h.kept.rows _ (List.mem_of_getElem? hx)).1 hD (by omega)
  obtain ⟨p1,p2⟩ := put_back h hx
  unfold tkF takeK takeS
  simp only [r1,r2,and_self,if_true]
  unfold nextS
  rw [p1,p2,if_neg (by decide),List.length_take,Nat.min_eq_left (by omega)]
theorem hear_again {k t D st : Nat} {K : List Rw} (h : Red k t K) (hs : StF k K st) (hk : 1 ≤ k) (ht : 1 ≤ t) (hD : D < 4294967296) (hl : K.length ≤ 100000) : tkR k t D (expL D (expR k t K st)) = (K,st) := by
 have hf : ∀ r,r ∈ K → Fit k t r := fun r hr => (h.kept.rows r hr).1
 by_cases h2 : st = 2
 ·subst h2
  rw [expR_two]
  have hn : K.length ≠ k := fun e => by have := hs.2.2 e; omega
  have h1 := hear_rows (R := K ++ [clashRow k t]) h hk hD (by simp; omega) (by simp) K.length (Nat.le_refl _)
  rw [if_neg hn,List.take_length] at h1
  have hx : (K ++ [clashRow k t])[K.length]? = some (clashRow k t) := by simp
  have h3 := tkR_snoc (k := k) (t := t) (D := D) (expL_at (D := D) hx)
  rw [h1] at h3
  have hlen : (expL D (K ++ [clashRow k t])).length = K.length + 1 := by rw [expL_len]; simp
  rw [List.take_of_length_le (by omega)] at h3
  rw [h3]
  obtain ⟨r1,r2⟩ := expL_read (D := D) (n := K.length) (clashRow_len k t) hD (by omega)
  obtain ⟨p1,p2⟩ := put_clash h ht
  unfold tkF takeK takeS
  simp only [r1,r2,and_self,if_true]
  unfold nextS
  rw [p1,p2,if_pos rfl]
 ·rw [expR_not h2]
  have h1 := hear_rows (R := K) h hk hD (by omega) (by simp) K.length (Nat.le_refl _)
  rw [List.take_length,List.take_of_length_le (by rw [expL_len]; exact Nat.le_refl _)] at h1
  rw [h1]
  by_cases he : K.length = k
  ·rw [if_pos he,hs.2.2 he]
  ·rw [if_neg he]
   have : st ≠ 1 := fun e => he (hs.2.1 e)
   have : st = 0 := by have := hs.1; omega
   rw [this]
end Go.By
namespace Go.By
open Go.RowKit Go.Proofs.YtccaiiigdfieoaaGreatDoor Gf
theorem red_leads {k t i : Nat} {K : List Rw} {r : Rw} (h : Red k t K) (hr : K[i]? = some r) : leadL K i = (leadN r : Int) := by
 unfold leadL
 rw [getD_at hr]
 exact (h.kept.rows r (List.mem_of_getElem? hr)).2.at.1
theorem red_vals {k t i j : Nat} {K : List Rw} {r s : Rw} (h : Red k t K) (hi : K[i]? = some r) (hj : K[j]? = some s) : valL K j (leadL K i) = if j = i then 1 else 0 := by
 obtain ⟨hf,hl⟩ := h.kept.rows r (List.mem_of_getElem? hi)
 obtain ⟨hf2,_⟩ := h.kept.rows s (List.mem_of_getElem? hj)
 unfold valL
 rw [red_leads h hi,getD_at hj,← vf_at hf2 (hl.at.lt hf)]
 exact h.delta hj hi
theorem red_bad3 {k t i : Nat} {K : List Rw} (h : Red k t K) (hi : i < K.length) : bad3 K i = false := by
 have h1 : K[i]? = some K[i] := List.getElem?_eq_getElem hi
 unfold bad3
 rw [red_vals h h1 h1,if_pos rfl]
 by_cases h0 : 0 < i
 ·have h2 : K[i - 1]? = some K[i - 1] := List.getElem?_eq_getElem (by omega)
  have h3 := List.pairwise_iff_getElem.1 h.kept.sorted (i - 1) i (by omega) hi (by omega)
  rw [red_leads h h1,red_leads h h2,decide_eq_false (by omega : ¬ ((leadN K[i] : Nat) : Int) ≤ (leadN K[i - 1] : Nat))]
  simp
 ·rw [decide_eq_false h0]; simp
theorem red_bad4 {k t i j : Nat} {K : List Rw} (h : Red k t K) (hi : i < K.length) (hj : j < K.length) : bad4 K i j = false := by
 have h1 : K[i]? = some K[i] := List.getElem?_eq_getElem hi
 have h2 : K[j]? = some K[j] := List.getElem?_eq_getElem hj
 unfold bad4
 rw [red_vals h h1 h2]
 by_cases e : j = i
 ·rw [decide_eq_false (fun g => g e)]; rfl
 ·rw [if_neg e]; simp
theorem red_thr {k t : Nat} {K : List Rw} (h : Red k t K) : ∀ n,n ≤ K.length → thr K n = false
 | 0,_ => rfl
 | n + 1,hn => by show (thr K n || bad3 K n) = false; rw [red_thr h n (by omega),red_bad3 h (by omega)]; rfl
theorem red_fin {k t i : Nat} {K : List Rw} (h : Red k t K) (hi : i < K.length) : ∀ n,n ≤ K.length → fin4 K i n = false
 | 0,_ => rfl
 | n + 1,hn => by show (fin4 K i n || bad4 K i n) = false; rw [red_fin h hi n (by omega),red_bad4 h hi (by omega)]; rfl
theorem red_fou {k t : Nat} {K : List Rw} (h : Red k t K) : ∀ n,n ≤ K.length → fou K K.length n = false
 | 0,_ => rfl
 | n + 1,hn => by show (fou K K.length n || fin4 K n K.length) = false; rw [red_fou h n (by omega),red_fin h (by omega) _ (Nat.le_refl _)]; rfl
theorem red_rules {k t : Nat} {K : List Rw} (h : Red k t K) : rulesL K = [] := by
 unfold rulesL
 rw [if_neg (by rw [red_thr h _ (Nat.le_refl _)]; decide),if_neg (by rw [red_fou h _ (Nat.le_refl _)]; decide)]
 rfl
theorem red_odd {k t : Nat} {K : List Rw} (h : Red k t K) : K.any (oddR k t) = false := by
 rw [← Bool.not_eq_true,List.any_eq_true]
 rintro ⟨r,hr,h1⟩
 obtain ⟨hf,hl⟩ := h.kept.rows r hr
 unfold oddR at h1
 rw [hf.1,hf.2,decide_eq_false (fun g => g rfl),decide_eq_false (fun g => g rfl),Bool.false_or,Bool.false_or] at h1
 have := zeroS_all.1 h1 1 (List.mem_of_getElem? hl.at.2.1)
 exact absurd this (by decide)
theorem auS_red {L t k D : Nat} {K : List Rw} (hP : POK L t k D) (h : Red k t K) : auS (L : Int) (t : Int) (k : Int) K = [] := by
 unfold auS
 rw [if_neg (fun g => g hP.chk),if_neg (by rw [red_odd h]; decide),red_rules h]
end Go.By
namespace Go.Proofs.YtccaiiigdfieoaaGreatDoor
open Go.RowKit Go.By
theorem enters_vsame : Enters Tryz.prog 77 := enters_of Tryz.func77 (by kernel_rfl) rfl
set_option maxRecDepth 100000 in
set_option maxHeartbeats 2000000 in
theorem EqF_same (p1 p2 : Option Addr) (n c1 c2 : Nat) (K : List (List UInt8 × List UInt8)) (w : World) (h1 : RwS w p1 n c1 K) (h2 : RwS w p2 n c2 K) :
  Calls Tryz.prog 170 #[.slice p1 n c1,.slice p2 n c2,.func (.func 77) #[] #[]] w fun e w' => e = .returned (.bool true) ∧ Below w.heap.size w w' := by
 have hb : n ≤ 9223372036854775807 := by have g1 := h1.le; have g2 := h1.max; unfold maxLen at g2; omega
 have H1 := Lib.hid h1; have H2 := Lib.hid h2; have HL := Lib.hid h1.len
 clear h1 h2
 have eg' : ∀ args w,(callFunc 77 args).run Tryz.prog w = .ok (.enter 77 args) w := enters_vsame
 go_enter Tryz.func170,Tryz.ntmps170
 go_wp2
 go_loopw [17] (fun iv wr => ∃ i : Nat,i ≤ n ∧ iv = .int .i64 (i : Nat) ∧ Hid (Below w.heap.size w wr)) (fun iv _ => n - (intOf iv).toNat)
 case atStart => exact ⟨0,Nat.zero_le _,rfl,Below.refl _ _⟩
 case round =>
  obtain ⟨i,hi,rfl,HB⟩ := hrel
  by_cases hlt : i < n
  ·obtain ⟨x,hx⟩ : ∃ x,K[i]? = some x := ⟨_,List.getElem?_eq_getElem (by rw [HL.out]; exact hlt)⟩
   obtain ⟨b,o,q1,m1,k1,q2,m2,k2,rfl,E1,E2,s1,s2⟩ := (H1.out.keep HB.out).row i x hx
   obtain ⟨b',o',q3,m3,k3,q4,m4,k4,rfl,E3,E4,s3,s4⟩ := (H2.out.keep HB.out).row i x hx
   have hlt' : (i : Int) < (n : Int) := by omega
   have hB : Below wr.heap.size wr ((wr.alloc (.cells #[.slice q1 m1 k1,.slice q2 m2 k2] 99)).alloc (.cells #[.slice q3 m3 k3,.slice q4 m4 k4] 99)) := al (al (Below.refl _ _) (Nat.le_refl _)) (by simp)
   have hc := VSame_any q1 q2 q3 q4 m1 k1 m2 k2 m3 k3 m4 k4 x.1 x.2 x.1 x.2 _ (s1.keep hB) (s2.keep hB) (s3.keep hB) (s4.keep hB)
   rw [decide_eq_true rfl] at hc
   have HC := Lib.hid hc
   clear hc
   have HB2 := Lib.hid (bl HB.out hB HB.out.size)
   have HLT := Lib.hid hlt
   have E3' : ∀ o,(wr.alloc o).cell? ⟨b',o' + i * 2,none⟩ = some (.slice q3 m3 k3) := fun _ => calloc E3
   have E4' : ∀ o,(wr.alloc o).cell? ⟨b',o' + i * 2 + 1,none⟩ = some (.slice q4 m4 k4) := fun _ => calloc E4
   clear hx hlt s1 s2 s3 s4 hB
   go_wp2_with fail
   refine Calls.mono HC.out ?_
   rintro e w1 ⟨rfl,hb⟩
   have HB3 := Lib.hid (bl HB2.out hb HB2.out.size)
   clear hb HB2 HC E1 E2 E3 E4 E3' E4' HB
   go_wp2
   go_roundw
   case rel => exact ⟨i + 1,HLT.out,by go_num,HB3.out⟩
   case measure => simp [intOf]; have := HLT.out; omega
  ·obtain rfl : i = n := by omega
   clear hlt
   go_wp2
   go_ret
   exact ⟨rfl,HB.out⟩
end Go.Proofs.YtccaiiigdfieoaaGreatDoor
namespace Go.Proofs.YtccaiiigdfieoaaGreatDoor
open Go.RowKit Go.By
theorem conv_all {W : World} {q : Option Addr} {n c : Nat} {xs : List UInt8} (h : Sl B8 W q n c xs) : (convert 22 9 (.slice q n c)).run Tryz.prog W = .ok (.string (strB xs)) W := by
 cases q with
 | none =>
  obtain ⟨rfl,rfl⟩ := h.nil rfl
  have : xs = [] := List.eq_nil_of_length_eq_zero h.len
  subst this
  exact run_convert_bytes_nil W 22 5 Tryz.underlying22 Tryz.underlying5 0 0 9 Tryz.underlying9
 | some a =>
  have h1 := run_convert_bytes_back W 22 9 5 a c xs Tryz.underlying22 Tryz.underlying5 Tryz.underlying9 (fun t ht => by
   obtain ⟨b',o',e,hc⟩ := h.rs t ht
   cases e
   rw [Addr.add_lit,hc])
  rw [h.len] at h1
  exact h1
set_option maxRecDepth 100000 in
set_option maxHeartbeats 1000000 in
theorem EqBy_same (q1 q2 : Option Addr) (n1 c1 n2 c2 : Nat) (xs : List UInt8) (w : World) (h1 : Sl B8 w q1 n1 c1 xs) (h2 : Sl B8 w q2 n2 c2 xs) :
  Calls Tryz.prog 171 #[.slice q1 n1 c1,.slice q2 n2 c2] w fun e w' => e = .returned (.bool true) ∧ w = w' := by
 have hc1 := conv_all h1
 have hc2 := conv_all h2
 obtain ⟨S,hS⟩ : ∃ S,S = strB xs := ⟨_,rfl⟩
 rw [← hS] at hc1 hc2
 have hz : (S.toList == S.toList) = true := beq_self_eq_true _
 clear h1 h2 hS
 go_enter Tryz.func171,Tryz.ntmps171
 go_wp2
 go_ret
 exact ⟨rfl,rfl⟩
end Go.Proofs.YtccaiiigdfieoaaGreatDoor
namespace Go.By
open Go.RowKit Go.Maps
end Go.By
namespace Go.Proofs.YtccaiiigdfieoaaGreatDoor
open Go.RowKit Go.By Go.Maps
end Go.Proofs.YtccaiiigdfieoaaGreatDoor
namespace Go.Proofs.YtccaiiigdfieoaaGreatDoor
open Go.RowKit Go.By Go.Maps
end Go.Proofs.YtccaiiigdfieoaaGreatDoor
namespace Go.Proofs.YtccaiiigdfieoaaGreatDoor
open Go.RowKit Go.By Go.Maps
end Go.Proofs.YtccaiiigdfieoaaGreatDoor
namespace Go.Proofs
open Go.Shelf
end Go.Proofs
namespace Go.By
open Go.RowKit Go.Maps Go.ChangeMaps
end Go.By
namespace Go.Proofs.YtccaiiigdfieoaaGreatDoor
open Go.RowKit Go.By Go.Maps Go.Sort Go.Shelf
end Go.Proofs.YtccaiiigdfieoaaGreatDoor
namespace Go.Proofs.YtccaiiigdfieoaaGreatDoor
open Go.RowKit Go.By Go.Maps Go.Sort Go.Shelf
end Go.Proofs.YtccaiiigdfieoaaGreatDoor
namespace Go.By
open Go.RowKit
def objF (s : Nat) (P : Nat → List UInt8) (A : Nat → Bool) (a : Nat) : UInt8 := if A (a / s) then (P (a / s)).getD (a % s) 0 else 0
def objL (l s : Nat) (P : Nat → List UInt8) (A : Nat → Bool) : List UInt8 := (List.range l).map (objF s P A)
theorem objL_at (l s : Nat) (P : Nat → List UInt8) (A : Nat → Bool) (a : Nat) : (objL l s P A)[a]? = if a < l then some (objF s P A a) else none := by
 unfold objL
 rw [List.getElem?_map]
 by_cases h : a < l
 ·rw [if_pos h,List.getElem?_range h]; rfl
 ·rw [if_neg h,List.getElem?_eq_none (by simpa using h)]; rfl
theorem objL_len (l s : Nat) (P : Nat → List UInt8) (A : Nat → Bool) : (objL l s P A).length = l := by simp [objL]
end Go.By
namespace Go.Proofs.YtccaiiigdfieoaaGreatDoor
open Go.RowKit Go.By
end Go.Proofs.YtccaiiigdfieoaaGreatDoor
namespace Go.Proofs.YtccaiiigdfieoaaGreatDoor
open Go.RowKit Go.By Go.Maps
def knS (k : Nat) (K : List Rw) (i : Nat) : Bool := (knownS k K i).2
def knP (k : Nat) (K : List Rw) (i : Nat) : List UInt8 := (knownS k K i).1
end Go.Proofs.YtccaiiigdfieoaaGreatDoor
namespace Go.Proofs.YtccaiiigdfieoaaGreatDoor
open Go.RowKit Go.By Go.Maps
end Go.Proofs.YtccaiiigdfieoaaGreatDoor
namespace Go.By
open Go.RowKit
end Go.By
namespace Go.By
open Go.RowKit Go.Maps Go.Proofs.YtccaiiigdfieoaaGreatDoor
theorem flat_at {t : Nat} : ∀ {xss : List (List UInt8)} (a : Nat),(∀ x,x ∈ xss → x.length = t) → 1 ≤ t → a < xss.length * t → xss.flatten[a]? = some ((xss.getD (a / t) []).getD (a % t) 0)
 | [],a,_,_,h => by simp at h
 | x :: l,a,hx,ht,h => by
  have hl := hx x (by simp)
  rw [List.flatten_cons]
  by_cases ha : a < t
  ·rw [List.getElem?_append_left (by omega),Nat.div_eq_of_lt ha,Nat.mod_eq_of_lt ha,List.getD_cons_zero,List.getD_eq_getElem?_getD,List.getElem?_eq_getElem (by omega)]; rfl
  ·rw [List.getElem?_append_right (by omega),hl]
   have h1 : (a - t) < l.length * t := by rw [List.length_cons,Nat.succ_mul] at h; omega
   rw [flat_at (a - t) (fun y hy => hx y (by simp [hy])) ht h1]
   have e1 : a / t = (a - t) / t + 1 := by rw [Nat.div_eq a t,if_pos ⟨by omega,by omega⟩]
   have e2 : a % t = (a - t) % t := by rw [Nat.mod_eq a t,if_pos ⟨by omega,by omega⟩]
   rw [e1,e2,List.getD_cons_succ]
theorem done_obj {L t k : Nat} {K : List Rw} (hc : checkS (L : Int) (t : Int) (k : Int) = 0) (hR : Red k t K) (hl : K.length = k) (hk : k ≤ 65536) (ht : 1 ≤ t) (hlm : L ≤ k * t) : joinS (L : Int) (t : Int) (k : Int) (K.map (fun x : Rw => x.2)) = (objL L t (knP k K) (knS k K),0) := by
 have hall : (K.map (fun x : Rw => x.2)).all (fun y => decide (y.length = (t : Int).toNat)) = true := by
  rw [List.all_eq_true]
  intro y hy
  obtain ⟨r,hr,rfl⟩ := List.mem_map.1 hy
  have := (hR.kept.rows r hr).1.2
  simpa using this
 unfold joinS wholeS
 rw [if_pos hc,if_pos (by simp [hl]),if_pos hall]
 refine Prod.ext ?_ rfl
 show ((K.map (fun x : Rw => x.2)).flatten.take ((L : Int)).toNat) = objL L t (knP k K) (knS k K)
 refine List.ext_getElem? fun a => ?_
 rw [objL_at,List.getElem?_take,Int.toNat_natCast]
 by_cases ha : a < L
 ·rw [if_pos ha,if_pos ha,flat_at a (fun x hx => by obtain ⟨r,hr,rfl⟩ := List.mem_map.1 hx; exact (hR.kept.rows r hr).1.2) ht (by rw [List.length_map,hl]; omega)]
  have hd : a / t < K.length := by rw [hl]; exact (Nat.div_lt_iff_lt_mul (by omega)).2 (Nat.lt_of_lt_of_le ha hlm)
  have hkn := known_full hR hl hk (List.getElem?_eq_getElem hd)
  unfold objF knS knP
  rw [hkn,if_pos rfl,List.getD_eq_getElem?_getD (l := K.map _),List.getElem?_map,List.getElem?_eq_getElem hd]
  rfl
 ·rw [if_neg ha,if_neg ha]
end Go.By
namespace Go.Proofs.YtccaiiigdfieoaaGreatDoor
open Go.RowKit Go.By Go.Maps
end Go.Proofs.YtccaiiigdfieoaaGreatDoor
namespace Go.Proofs.YtccaiiigdfieoaaGreatDoor
open Go.RowKit Go.By
end Go.Proofs.YtccaiiigdfieoaaGreatDoor
namespace Go.By
open Go.RowKit
end Go.By
namespace Go.By
open Go.RowKit
end Go.By
namespace Go.Proofs.YtccaiiigdfieoaaGreatDoor
open Go.RowKit Go.By
end Go.Proofs.YtccaiiigdfieoaaGreatDoor
namespace Go.By
open Go.RowKit
end Go.By
namespace Go.Proofs.YtccaiiigdfieoaaGreatDoor
open Go.RowKit Go.By
end Go.Proofs.YtccaiiigdfieoaaGreatDoor
namespace Go.By
open Go.RowKit Go.Proofs.YtccaiiigdfieoaaGreatDoor
end Go.By
namespace Go.Proofs.YtccaiiigdfieoaaGreatDoor
open Go.RowKit Go.By Gf Go.Maps
end Go.Proofs.YtccaiiigdfieoaaGreatDoor
namespace Go.By
open Go.RowKit Go.Maps Go.Proofs.YtccaiiigdfieoaaGreatDoor
theorem few_len19 {xss : List (List UInt8)} {n1 : Nat} (h : (xss.all (fun y => decide (y.length ≤ 800)) && decide (n1 ≤ 30)) = true) {i : Nat} {xs : List UInt8} (hx : xss[i]? = some xs) : xs.length ≤ 800 := by
 rw [Bool.and_eq_true] at h
 have := List.all_eq_true.1 h.1 xs (List.mem_of_getElem? hx)
 exact of_decide_eq_true this
theorem pok_fit {L t k D : Nat} (hP : POK L t k D) : (∀ i : Nat,i < k → i * t ≤ L) ∧ L ≤ k * t := by
 have hk := (checkS_okC hP.chk).2.2.2.1
 have ht := hP.t1
 unfold needS at hk
 by_cases h0 : L = 0
 ·subst h0
  rw [if_pos (by simp)] at hk
  have : k = 1 := by omega
  subst this
  exact ⟨fun i hi => by have : i = 0 := by omega
                        subst this; simp,by omega⟩
 ·rw [if_neg (by omega)] at hk
  have e : ((L : Int) - 1) / (t : Int) = (((L - 1) / t : Nat) : Int) := by
   rw [show ((L : Int) - 1) = ((L - 1 : Nat) : Int) by omega]; simp
  rw [e] at hk
  have hk' : k = (L - 1) / t + 1 := by omega
  have hd := Nat.div_add_mod (L - 1) t
  have hm := Nat.mod_lt (L - 1) (show 0 < t by omega)
  have hc : t * ((L - 1) / t) = (L - 1) / t * t := Nat.mul_comm _ _
  rw [hk']
  refine ⟨fun i hi => ?_,by rw [Nat.succ_mul]; omega⟩
  have : i * t ≤ (L - 1) / t * t := Nat.mul_le_mul_right t (by omega)
  omega
end Go.By
namespace Go.Proofs.YtccaiiigdfieoaaGreatDoor
open Go.RowKit Go.By Go.Maps
theorem TObject19 {L t k D N base gt be : Nat} {M v : Value} {C : DataW Unit} {K : List Rw} {w : World} (h : Tkr w base gt be L t k D N M v C K 1) (hK : K.length = k) :
  Calls Tryz.prog 19 #[.pointer (some ⟨gt,0,none⟩)] w (RetL w (objL L t (knP k K) (knS k K)) 0) := by
 have h0 := TObject_done base gt be L t k D N M v C K w h hK
 rw [done_obj h.ok.chk h.red hK (by have := h.ok.k2; omega) h.ok.t1 (pok_fit h.ok).2] at h0
 exact h0
end Go.Proofs.YtccaiiigdfieoaaGreatDoor
namespace Go.By
open Go.RowKit Go.Proofs.YtccaiiigdfieoaaGreatDoor
def objX (L t k : Nat) (K : List Rw) (st : Nat) : List UInt8 := if st = 1 then objL L t (knP k K) (knS k K) else []
end Go.By
namespace Go.Proofs.YtccaiiigdfieoaaGreatDoor
open Go.RowKit Go.By Go.Maps
theorem TObj_any {base gt be L t k D N st : Nat} {M v : Value} {C : DataW Unit} {K : List Rw} {w : World} (h : Tkr w base gt be L t k D N M v C K st) (hs : StF k K st) :
  Calls Tryz.prog 19 #[.pointer (some ⟨gt,0,none⟩)] w (RetL w (objX L t k K st) (objC st)) := by
 by_cases h1 : st = 1
 ·subst h1
  exact TObject19 h (hs.2.1 rfl)
 ·have h2 : st = 0 ∨ st = 2 := by have := hs.1; omega
  refine (TObject_none base gt be L t k D N M v C K st w h h2).mono ?_
  rintro e w' ⟨rfl,rfl⟩
  refine ⟨none,0,0,rfl,?_,Below.refl _ _⟩
  unfold objX
  rw [if_neg h1]
  exact Sl.nil0 _ _
set_option maxRecDepth 1000000 in
set_option maxHeartbeats 4000000 in
theorem AuSame_ok (base gt be L t k D N : Nat) (M v : Value) (C : DataW Unit) (K : List Rw) (st : Nat) (base2 gt2 be2 N2 : Nat) (M2 v2 : Value) (C2 : DataW Unit) (w : World) (h : Tkr w base gt be L t k D N M v C K st) (h2 : Tkr w base2 gt2 be2 L t k D N2 M2 v2 C2 K st) (hs : StF k K st) :
  Calls Tryz.prog 110 #[.pointer (some ⟨gt,0,none⟩),.pointer (some ⟨gt2,0,none⟩)] w fun e w' => e = .returned (.bool true) ∧ Below w.heap.size w w' := by
 have HO1 : Hid (∀ W,Below w.heap.size w W → Calls Tryz.prog 19 #[.pointer (some ⟨gt,0,none⟩)] W (RetL W (objX L t k K st) (objC st))) := fun W hb => TObj_any (h.keep hb) hs
 have HO2 : Hid (∀ W,Below w.heap.size w W → Calls Tryz.prog 19 #[.pointer (some ⟨gt2,0,none⟩)] W (RetL W (objX L t k K st) (objC st))) := fun W hb => TObj_any (h2.keep hb) hs
 have HG1 : Hid (∀ W,Below w.heap.size w W → Calls Tryz.prog 71 #[.pointer (some ⟨gt,0,none⟩)] W fun e w' => e = .returned (GVal L t k D M) ∧ Below W.heap.size W w') := fun W hb => TGate_any base gt be L t k D N M v C K st W (h.keep hb)
 have HG2 : Hid (∀ W,Below w.heap.size w W → Calls Tryz.prog 71 #[.pointer (some ⟨gt2,0,none⟩)] W fun e w' => e = .returned (GVal L t k D M2) ∧ Below W.heap.size W w') := fun W hb => TGate_any base2 gt2 be2 L t k D N2 M2 v2 C2 K st W (h2.keep hb)
 have HS1 : Hid (∀ W,Below w.heap.size w W → Calls Tryz.prog 22 #[.pointer (some ⟨gt,0,none⟩)] W fun e w' => e = .returned (.int .i64 (st : Nat)) ∧ W = w') := fun W hb => TStatus_any base gt be L t k D N M v C K st W (h.keep hb)
 have HS2 : Hid (∀ W,Below w.heap.size w W → Calls Tryz.prog 22 #[.pointer (some ⟨gt2,0,none⟩)] W fun e w' => e = .returned (.int .i64 (st : Nat)) ∧ W = w') := fun W hb => TStatus_any base2 gt2 be2 L t k D N2 M2 v2 C2 K st W (h2.keep hb)
 have HR1 : Hid (∀ W,Below w.heap.size w W → Calls Tryz.prog 21 #[.pointer (some ⟨gt,0,none⟩)] W fun e w' => ∃ v',e = .returned v' ∧ RwL 99 5 w' W.heap.size v' K.length K ∧ Below W.heap.size W w') := fun W hb => TRows_any base gt be L t k D N M v C K st W (h.keep hb)
 have HR2 : Hid (∀ W,Below w.heap.size w W → Calls Tryz.prog 21 #[.pointer (some ⟨gt2,0,none⟩)] W fun e w' => ∃ v',e = .returned v' ∧ RwL 99 5 w' W.heap.size v' K.length K ∧ Below W.heap.size W w') := fun W hb => TRows_any base2 gt2 be2 L t k D N2 M2 v2 C2 K st W (h2.keep hb)
 have hst : ((st : Int) == (st : Int)) = true := beq_self_eq_true _
 have hcc : (objC st == objC st) = true := beq_self_eq_true _
 generalize objX L t k K st = OX at *
 generalize objC st = CX at *
 clear h h2 hs
 go_enter Tryz.func110,Tryz.ntmps110
 go_wp2_with fail
 refine Calls.mono (HO1.out w (Below.refl _ _)) ?_
 rintro e w1 ⟨q1,m1,d1,rfl,s1,hb1⟩
 have HB1 := Lib.hid hb1
 have S1 := Lib.hid s1
 clear hb1 s1 HO1
 go_wp2_with fail
 refine Calls.mono (HO2.out w1 HB1.out) ?_
 rintro e w2 ⟨q2,m2,d2,rfl,s2,hb⟩
 have HB2 := Lib.hid (bl HB1.out hb HB1.out.size)
 have S1b := Lib.hid (S1.out.keep hb)
 have S2 := Lib.hid s2
 clear hb s2 S1 HB1 HO2
 go_wp2_with fail
 refine Calls.mono (HG1.out w2 HB2.out) ?_
 rintro e w3 ⟨rfl,hb⟩
 have HB3 := Lib.hid (bl HB2.out hb HB2.out.size)
 have S1c := Lib.hid (S1b.out.keep hb)
 have S2c := Lib.hid (S2.out.keep hb)
 clear hb S1b S2 HB2 HG1
 have hfg := field_gate L t k D M w3
 go_wp2_with (first | simp only [hfg] | fail)
 refine Calls.mono (HG2.out w3 HB3.out) ?_
 rintro e w4 ⟨rfl,hb⟩
 have HB4 := Lib.hid (bl HB3.out hb HB3.out.size)
 have S1d := Lib.hid (S1c.out.keep hb)
 have S2d := Lib.hid (S2c.out.keep hb)
 clear hb S1c S2c HB3 HG2 hfg
 have hfg := field_gate L t k D M2 w4
 go_wp2_with (first | simp only [hfg] | fail)
 refine Calls.mono (HS1.out w4 HB4.out) ?_
 rintro e w5 ⟨rfl,rfl⟩
 clear hfg
 go_wp2_with fail
 refine Calls.mono (HS2.out w4 HB4.out) ?_
 rintro e w5 ⟨rfl,rfl⟩
 go_wp2_with fail
 refine Calls.mono (HR1.out w4 HB4.out) ?_
 rintro e w5 ⟨v5,rfl,hr5,hb⟩
 obtain ⟨q5,c5,rfl⟩ := hr5.shape
 have HB5 := Lib.hid (bl HB4.out hb HB4.out.size)
 have S1e := Lib.hid (S1d.out.keep hb)
 have S2e := Lib.hid (S2d.out.keep hb)
 have R5 := Lib.hid hr5.rwS
 clear hb hr5 S1d S2d HB4 HR1
 go_wp2_with fail
 refine Calls.mono (HR2.out w5 HB5.out) ?_
 rintro e w6 ⟨v6,rfl,hr6,hb⟩
 obtain ⟨q6,c6,rfl⟩ := hr6.shape
 have HB6 := Lib.hid (bl HB5.out hb HB5.out.size)
 have S1f := Lib.hid (S1e.out.keep hb)
 have S2f := Lib.hid (S2e.out.keep hb)
 have R5b := Lib.hid (R5.out.keep hb)
 have R6 := Lib.hid hr6.rwS
 clear hb hr6 S1e S2e HB5 R5 HR2
 go_wp2_with fail
 refine Calls.mono (EqF_same q5 q6 K.length c5 c6 K w6 R5b.out R6.out) ?_
 rintro e w7 ⟨rfl,hb⟩
 have HB7 := Lib.hid (bl HB6.out hb HB6.out.size)
 have S1g := Lib.hid (S1f.out.keep hb)
 have S2g := Lib.hid (S2f.out.keep hb)
 clear hb S1f S2f HB6 R5b R6
 go_wp2_with fail
 refine Calls.mono (EqBy_same q1 q2 m1 d1 m2 d2 OX w7 S1g.out S2g.out) ?_
 rintro e w8 ⟨rfl,rfl⟩
 go_wp2
 go_ret
 exact ⟨rfl,HB7.out⟩
end Go.Proofs.YtccaiiigdfieoaaGreatDoor
namespace Go.Proofs.YtccaiiigdfieoaaGreatDoor
open Go.By Go.Lib
theorem decDigits_decV : ∀ (n : Nat) {w : List UInt8},w.length ≤ n → numG w = true → decDigits (decV 0 w) = w
 | 0,w,hn,h => by
  have : w = [] := List.length_eq_zero_iff.1 (by omega)
  subst this; cases h
 | n + 1,w,hn,h => by
  have hne : w ≠ [] := fun e => by subst e; cases h
  obtain ⟨v,d,rfl⟩ : ∃ v d,w = v ++ [d] := ⟨_,_,(List.dropLast_concat_getLast hne).symm⟩
  have hd := numG_dig h
  have hdd := isDig_le (hd d (by simp))
  rw [decV_append,decV_cons,decV_nil]
  by_cases hv : v = []
  ·subst hv
   rw [decV_nil,decDigits_small (by omega)]
   show [_] = [d]
   congr 1
   apply UInt8.toNat_inj.1
   rw [UInt8.toNat_ofNat',Nat.mod_eq_of_lt (by omega)]; omega
  ·obtain ⟨x,l,rfl⟩ : ∃ x l,v = x :: l := by
    cases v with
    | nil => exact absurd rfl hv
    | cons x l => exact ⟨x,l,rfl⟩
   have hx0 : x ≠ 48 := fun e => by
    subst e
    unfold numG at h
    simp at h
   have hx := isDig_le (hd x (by simp))
   have hx1 : 49 ≤ x.toNat := by
    rcases Nat.lt_or_ge 48 x.toNat with g | g
    ·exact g
    ·exact absurd (UInt8.toNat_inj.1 (show x.toNat = (48 : UInt8).toNat by show x.toNat = 48; omega)) hx0
   have hg : numG (x :: l) = true := by
    unfold numG
    have ha : (x :: l).all isDig = true := List.all_eq_true.2 fun b hb => hd b (List.mem_append_left _ hb)
    rw [ha]
    have : ¬ ((x :: l).head? = some 48) := by simp [hx0]
    simp [hx0]
   have h1 : 1 ≤ decV 0 (x :: l) := by
    rw [decV_cons]
    exact Nat.le_trans (by omega) (decV_le l _)
   have hlen : (x :: l).length ≤ n := by simp at hn ⊢; omega
   rw [decDigits_big (by omega),show (10 * decV 0 (x :: l) + (d.toNat - 48)) / 10 = decV 0 (x :: l) by omega,show (10 * decV 0 (x :: l) + (d.toNat - 48)) % 10 = d.toNat - 48 by omega,decDigits_decV n hlen hg]
   congr 1
   congr 1
   apply UInt8.toNat_inj.1
   rw [UInt8.toNat_ofNat',Nat.mod_eq_of_lt (by omega)]; omega
theorem numB_some {M x : Nat} {w : List UInt8} (h : numB M w = some x) : numG w = true ∧ x = decV 0 w ∧ x ≤ M ∧ decDigits x = w := by
 unfold numB at h
 split at h
 ·rename_i hc
  injection h with h
  subst h
  exact ⟨hc.1,rfl,hc.2,decDigits_decV _ (Nat.le_refl _) hc.1⟩
 ·cases h
theorem hexL_plain (l : List UInt8) : ∀ b ∈ hexL l,b ≠ 32 ∧ b ≠ 10 := fun b hb => by
 unfold hexL at hb
 obtain ⟨x,_,hb⟩ := List.mem_flatMap.1 hb
 have hx := x.toNat_lt
 have key : ∀ y,y < 16 → dgt y ≠ 32 ∧ dgt y ≠ 10 := by decide
 simp at hb
 rcases hb with rfl | rfl
 ·exact key _ (by omega)
 ·exact key _ (by omega)
theorem dec_plain (u : Nat) : ∀ b ∈ decDigits u,b ≠ 32 ∧ b ≠ 10 := fun b hb => by
 have := isDig_le ((decDigits_facts u u (Nat.le_refl _)).2.1 b hb)
 exact ⟨fun e => by subst e; exact absurd this.1 (by decide),fun e => by subst e; exact absurd this.1 (by decide)⟩
end Go.Proofs.YtccaiiigdfieoaaGreatDoor
namespace Go.Proofs.YtccaiiigdfieoaaGreatDoor
open Go.By Go.Lib
def splA (c : UInt8) (s : List UInt8) : List (List UInt8) := spl c s.length s
theorem spl_more {c : UInt8} {k : Nat} {s : List UInt8} (h : s.length ≤ k) : spl c k s = splA c s := by
 rw [spl_min,Nat.min_eq_right h]; rfl
theorem splA_free {c : UInt8} {s : List UInt8} (h : ∀ b ∈ s,b ≠ c) : splA c s = [s] := by
 have := cutW_all h
 exact spl_none (by rw [this])
theorem splA_cut {c : UInt8} {a : List UInt8} (h : ∀ b ∈ a,b ≠ c) (r : List UInt8) : splA c (a ++ c :: r) = a :: splA c r := by
 have e := cutW_app h r
 unfold splA
 rw [List.length_append,List.length_cons,show a.length + (r.length + 1) = (a.length + r.length) + 1 by omega,spl_some (r := r) (by rw [e]),e,spl_more (by omega)]; rfl
theorem splA_ne (c : UInt8) (s : List UInt8) : splA c s ≠ [] := fun e => by
 have := (spl_len c s.length s).1
 rw [show spl c s.length s = [] from e] at this
 simp at this
end Go.Proofs.YtccaiiigdfieoaaGreatDoor
namespace Go.By
open Go.RowKit
theorem one_cellI {w : World} {v : Value} {T g : Nat} (hg : g = w.heap.size) : ∀ (j : Nat) (u : Value),[v][j]? = some u → (w.alloc (.cells #[v] T)).cell? ((⟨g,0,none⟩ : Addr).add j) = some u := by
 intro j u hj
 rw [Addr.add_lit,Nat.zero_add,cell_of_row _ _ j _ _ _ (hnew hg)]
 match j with
 | 0 => simpa using hj
 | j + 1 => simp at hj
end Go.By
namespace Go.Proofs.YtccaiiigdfieoaaGreatDoor
open Go.RowKit Go.By
def OptB (w : World) (r : Option (List UInt8)) (e : Ending) (w' : World) : Prop := ∃ q n c,e = .returned (.tuple #[.slice q n c,.bool r.isSome]) ∧ Fresh 5 w.heap.size w' q n c (r.getD []) ∧ Below w.heap.size w w'
theorem OptB.no {w w' : World} {r : Option (List UInt8)} (h : r = none) (hb : Below w.heap.size w w') : OptB w r (.returned (.tuple #[.slice none 0 0,.bool false])) w' := by subst h; exact ⟨none,0,0,rfl,Fresh.none _ _ _,hb⟩
theorem OptB.yes {w w' : World} {r : Option (List UInt8)} {xs : List UInt8} {q : Option Addr} {n c : Nat} (h : r = some xs) (ho : w'.ownsRow w.heap.size 5 1 (.slice q n c) n (xs.map B8)) (hb : Below w.heap.size w w') : OptB w r (.returned (.tuple #[.slice q n c,.bool true])) w' := by subst h; exact ⟨q,n,c,rfl,Fresh.of_owns ho,hb⟩
def unhexO (s : List UInt8) : Option (List UInt8) := if s = [] then none else unhexP s
end Go.Proofs.YtccaiiigdfieoaaGreatDoor
namespace Go.Proofs.YtccaiiigdfieoaaGreatDoor
open Go.RowKit Go.By
end Go.Proofs.YtccaiiigdfieoaaGreatDoor
