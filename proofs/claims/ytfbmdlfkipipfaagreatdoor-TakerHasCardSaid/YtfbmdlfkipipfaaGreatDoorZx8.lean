/- A sender while others turn; two takers beside each other. Of a plan that may not be there is no gate, no taker, no relay; a plan that may be as numbers. A region that draws its order, by shapes, by what holds of the world as operations run, and by ties between slots. Two slices of headers, each grown by one in a region that draws its order. A plan of an object; ranks of combinations; rows of headers of new bytes while others turn. Chapter 19: the law's awake. A sender and a taker in memory, carried along. The contracts of the document's sum: Put, Sum (bit by bit). Plain law: a packet of which one stretch of four bytes has turned is not let in. What TakerHas, TripRuns, TripArrives carry: rows of bytes that grow; a sender that may refuse. Arguments that came in, as bytes and slices of bytes. Slices of structs of two slices of bytes, that came in. Sources that came in: a slice of structs of a byte, bytes and a number, opened. What the laws of the packets ask first: few bytes, small plans. -/
import Derived.Test.YtfbmdlfkipipfaaGreatDoorZx7
import Derived.OpenShut
import Derived.Lib.SmallJoins
namespace Go.By
open Go.RowKit Go.Maps Go.Proofs.YtfbmdlfkipipfaaGreatDoor
section
variable {w w' : World} {base gt be L t k D N : Nat} {M v : Value} {C : DataW Unit} {K : List Rw} {st : Nat}
theorem TChg.owns (h : TChg w w' gt be v) (hT : Tkr w base gt be L t k D N M v C K st) {b2 T e n : Nat} {v2 : Value} {ys : List Value} (ho : w.ownsRow b2 T e v2 n ys) (h1 : T ≠ 126) (h2 : T ≠ 201) (h3 : ∀ g, v2.ownBlock = some g → v.ownBlock ≠ some g) : w'.ownsRow b2 T e v2 n ys := by
  refine owns_same ho h.size fun g2 hg2 => ?_
  rcases ho.2 with ⟨e1, _⟩ | ⟨g', cap, cur, e1, _, hh, _⟩
  · rw [e1] at hg2; cases hg2
  · have h4 := h3 g2 hg2
    rw [e1] at hg2; cases hg2
    refine h.block _ (lt_of_block hh) (fun e => ?_) (fun e => ?_) h4
    · have := hT.box; rw [← e, hh] at this; injection this with this; injection this with _ this _; exact h1 this
    · have := hT.elm.box; rw [← e, hh] at this; injection this with this; injection this with _ this _; exact h2 this
theorem tkr_owns_ne {b2 T e n : Nat} {v2 : Value} {ys : List Value} (hT : Tkr w base gt be L t k D N M v C K st) (ho : w.ownsRow b2 T e v2 n ys) (h : 139 ≠ T) : ∀ g, v2.ownBlock = some g → v.ownBlock ≠ some g := by
  intro g hg
  rcases ho.2 with ⟨e1, _⟩ | ⟨g', cap, cur, e1, _, hh, _⟩
  · rw [e1] at hg; cases hg
  · rw [e1] at hg; cases hg
    exact hT.elm.rows.ne_box hh h
theorem TChg.bw (h : TChg w w' gt be v) (hT : Tkr w base gt be L t k D N M v C K st) {b : Nat} {u : Value} {xs : List UInt8} (hu : Bw 5 w b u xs) : Bw 5 w' b u xs := by
  obtain ⟨q, m, c, e, l, o⟩ := hu
  exact ⟨q, m, c, e, l, h.owns hT o (by decide) (by decide) (tkr_owns_ne hT o (by decide))⟩
theorem TChg.rwl (h : TChg w w' gt be v) (hT : Tkr w base gt be L t k D N M v C K st) {b2 n2 : Nat} {v2 : Value} {K2 : List Rw} (h2 : RwL 139 5 w b2 v2 n2 K2) (hne : ∀ g, v2.ownBlock = some g → v.ownBlock ≠ some g) : RwL 139 5 w' b2 v2 n2 K2 := by
  obtain ⟨vs, a, b, o, r⟩ := h2
  exact ⟨vs, a, b, h.owns hT o (by decide) (by decide) hne, fun j u hj => by obtain ⟨x, hk, g1, g2⟩ := r j u hj; exact ⟨x, hk, h.bw hT g1, h.bw hT g2⟩⟩
theorem TChg.cnt (h : TChg w w' gt be v) (hT : Tkr w base gt be L t k D N M v C K st) {M2 : Value} {N2 : Nat} {C2 : DataW Unit} (hc : CntM w M2 N2 C2) : CntM w' M2 N2 C2 := by
  refine ⟨?_, hc.small⟩
  rcases hc.at_ with h1 | ⟨b, e, ho⟩
  · exact .inl h1
  · refine .inr ⟨b, e, ?_⟩
    have hlt := ho.lt
    obtain ⟨es, clock, h1, F, hs, hD⟩ := ho
    refine ⟨es, clock, (h.block b hlt (fun e => ?_) (fun e => ?_) (fun e => ?_)).trans h1, F, hs, hD⟩
    · have := hT.box; rw [← e, h1] at this; cases this
    · have := hT.elm.box; rw [← e, h1] at this; cases this
    · obtain ⟨vs, _, _, o, _⟩ := hT.elm.rows
      rcases o.2 with ⟨e1, _⟩ | ⟨g', cap, cur, e1, _, hh, _⟩
      · rw [e1] at e; cases e
      · rw [e1] at e; cases e
        rw [h1] at hh; cases hh
end
theorem sl_gchg {w w' : World} {q : Option Addr} {n c g T : Nat} {ys : List UInt8} {cs : Array Value} {fr : Nat × Nat} (h : Sl B8 w q n c ys) (hg : w.heap[g]? = some (.cells cs T fr)) (hno : ∀ (j : Nat) (x : UInt8), cs[j]? ≠ some (B8 x)) (hc : GChg w g w') : Sl B8 w' q n c ys :=
  ⟨h.len, h.le, h.max, h.nil, fun j hj => by
    obtain ⟨b, o, e, hcl⟩ := h.rs j hj
    refine ⟨b, o, e, ?_⟩
    have hne : b ≠ g := fun e1 => by
      rw [e1, cell_of_row _ _ (o + j) _ _ _ hg] at hcl
      exact hno _ _ hcl
    exact (World.cell?_of_block (a := ⟨b, o + j, none⟩) (hc.block b (lt_of_cell hcl) hne)).trans hcl⟩
theorem sl2_gchg {w w' : World} {q : Option Addr} {n c g T : Nat} {yss : List (List UInt8)} {cs : Array Value} {fr : Nat × Nat} (h : Sl2 w q n c yss) (hq : ∀ a, q = some a → a.block ≠ g) (hg : w.heap[g]? = some (.cells cs T fr)) (hno : ∀ (j : Nat) (x : UInt8), cs[j]? ≠ some (B8 x)) (hc : GChg w g w') : Sl2 w' q n c yss :=
  ⟨h.len, h.le, h.max, h.nil, fun j ys hj => by
    obtain ⟨b, o, q', c', e, hcl, hs⟩ := h.rs j ys hj
    exact ⟨b, o, q', c', e, (World.cell?_of_block (a := ⟨b, o + j, none⟩) (hc.block b (lt_of_cell hcl) (hq _ e))).trans hcl, sl_gchg hs hg hno hc⟩⟩
theorem GChg.trans {w a b : World} {g : Nat} (h : GChg w g a) (h2 : GChg a g b) : GChg w g b :=
  ⟨h2.os.trans h.os, h2.tape.trans h.tape, h2.output.trans h.output, Nat.le_trans h.size h2.size, fun i hi hg => (h2.block i (Nat.lt_of_lt_of_le hi h.size) hg).trans (h.block i hi hg)⟩
theorem GChg.then {w a b : World} {g B : Nat} (h : GChg w g a) (h2 : Below B a b) (hB : w.heap.size ≤ B) : GChg w g b :=
  ⟨h2.os.trans h.os, h2.tape.trans h.tape, h2.output.trans h.output, Nat.le_trans h.size h2.size, fun i hi hg => (h2.block i (Nat.lt_of_lt_of_le hi hB)).trans (h.block i hi hg)⟩
end Go.By
namespace Go.Proofs.YtfbmdlfkipipfaaGreatDoor
open Go.RowKit Go.By Go.Maps
/-- a sender, seen from the world in which it was made -/
structure SndO (w0 w : World) (gs L t k D nx : Nat) (xss : List (List UInt8)) : Prop where
  ok : POK L t k D
  mem : ∃ q c n0, w0.heap[gs]? = some (.cells #[.int .i64 (L : Nat), .int .i64 (t : Nat), .int .i64 (k : Nat), .int .u32 (D : Nat), .slice q k c, .int .u64 (n0 : Nat)] 153 (0, 0)) ∧ w.heap[gs]? = some (.cells #[.int .i64 (L : Nat), .int .i64 (t : Nat), .int .i64 (k : Nat), .int .u32 (D : Nat), .slice q k c, .int .u64 (nx : Nat)] 153 (0, 0)) ∧ Sl2 w0 q k c xss ∧ ∀ a, q = some a → a.block ≠ gs
  fit : ∀ xs, xs ∈ xss → xs.length = t
  chg : GChg w0 gs w
theorem SndO.start {w : World} {gs L t k D nx : Nat} {xss : List (List UInt8)} (h : Snd w gs L t k D nx xss) : SndO w w gs L t k D nx xss := by
  obtain ⟨q, c, h1, h2, h3⟩ := h.mem
  exact ⟨h.ok, ⟨q, c, nx, h1, h1, h2, h3⟩, h.fit, ⟨rfl, rfl, rfl, Nat.le_refl _, fun _ _ _ => rfl⟩⟩
theorem SndO.snd {w0 w : World} {gs L t k D nx : Nat} {xss : List (List UInt8)} (h : SndO w0 w gs L t k D nx xss) : Snd w gs L t k D nx xss := by
  obtain ⟨q, c, n0, h1, h2, h3, h4⟩ := h.mem
  exact ⟨h.ok, ⟨q, c, h2, sl2_gchg h3 h4 h1 noByte6 h.chg, h4⟩, h.fit⟩
theorem SndO.lt {w0 w : World} {gs L t k D nx : Nat} {xss : List (List UInt8)} (h : SndO w0 w gs L t k D nx xss) : gs < w0.heap.size := by
  obtain ⟨q, c, n0, h1, h2, h3, h4⟩ := h.mem
  exact lt_of_block h1
theorem SndO.keep {w0 w w' : World} {gs L t k D nx B : Nat} {xss : List (List UInt8)} (h : SndO w0 w gs L t k D nx xss) (hb : Below B w w') (hB : w0.heap.size ≤ B) : SndO w0 w' gs L t k D nx xss := by
  have hl := h.lt
  obtain ⟨q, c, n0, h1, h2, h3, h4⟩ := h.mem
  exact ⟨h.ok, ⟨q, c, n0, h1, (hb.block _ (Nat.lt_of_lt_of_le hl hB)).trans h2, h3, h4⟩, h.fit, h.chg.then hb hB⟩
theorem SndO.sent {w0 w w' : World} {gs L t k D nx nx' : Nat} {xss : List (List UInt8)} {ys : List UInt8} {code : Int} {e : Ending} (h : SndO w0 w gs L t k D nx xss) (hs : SdRetQ w gs L t k D xss ys nx nx' code e w') : SndO w0 w' gs L t k D nx' xss := by
  obtain ⟨q, c, n0, h1, h2, h3, h4⟩ := h.mem
  obtain ⟨⟨_, _, _, _, _, _, hg⟩, hq⟩ := hs
  exact ⟨h.ok, ⟨q, c, n0, h1, hq q c h2, h3, h4⟩, h.fit, h.chg.trans hg⟩
set_option maxRecDepth 100000 in
set_option maxHeartbeats 1000000 in
/-- of a source that does not fit nothing is sent -/
theorem SSend_bad (gs L t k D nx : Nat) (xss : List (List UInt8)) (m : UInt8) (p : Option Addr) (j c s : Nat) (xs : List UInt8) (w : World) (hS : Snd w gs L t k D nx xss) (hnx : nx < 4294967296) (hm : srcC m j k ≠ 0) (h : Sl B8 w p j c xs) (hr : Room j) :
    Calls Tryz.prog 31 #[.pointer (some ⟨gs, 0, none⟩), SVal m p j c s] w fun e w' => e = .returned (.tuple #[.slice none 0 0, .int .i64 (srcC m j k)]) ∧ Below w.heap.size w w' := by
  obtain ⟨qs, cs, hbox, hsx, hqs⟩ := hS.mem
  have hV : Hid (∀ w, Sl B8 w p j c xs → Calls Tryz.prog 32 #[SVal m p j c s, .int .i64 (k : Nat)] w (SRet w (if srcC m j k = 0 then vecS m xs s k else []) (srcC m j k))) := fun w h => SVector_any m p j c s k xs hS.ok.k1 hS.ok.k2 w h hr
  have e0 : ((nx : Int) == 4294967296) = false := beq_eq_false_iff_ne.2 (by omega)
  have hz : (srcC m j k != 0) = true := bne_iff_ne.2 hm
  generalize srcC m j k = R at *
  generalize (if R = 0 then vecS m xs s k else []) = V at *
  have H := Lib.hid h
  have HBOX := Lib.hid hbox
  have a0 : ∀ o', (w.alloc o').cell? ⟨gs, 5, none⟩ = some (.int .u64 (nx : Nat)) := fun _ => calloc (cells_six hbox).2.2.2.2.2
  clear hS h hm hsx hqs hbox hr hnx
  go_enter Tryz.func31, Tryz.ntmps31
  go_wp2_with fail
  have hgs := lt_of_block HBOX.out
  have B0 : Hid (Below w.heap.size w (w.alloc (.cells #[B8 m, .slice p j c, .int .u64 (s : Nat)] 66 (0, 0)))) := al (Below.refl _ _) (Nat.le_refl _)
  have k1 : (w.alloc (.cells #[B8 m, .slice p j c, .int .u64 (s : Nat)] 66 (0, 0))).heap[w.heap.size]? = some (.cells #[B8 m, .slice p j c, .int .u64 (s : Nat)] 66 (0, 0)) := hnew rfl
  have k2 := (B0.out.block _ hgs).trans HBOX.out
  generalize w.alloc (.cells #[B8 m, .slice p j c, .int .u64 (s : Nat)] 66 (0, 0)) = w1 at *
  have H1 := Lib.hid (H.out.keep B0.out)
  obtain ⟨b0, b1, b2⟩ := cells_three k1
  obtain ⟨c0, c1, c2, c3, c4, c5⟩ := cells_six k2
  refine wp_region_shapes (fun ix => ([.val (.agg #[B8 m, .slice p j c, .int .u64 (s : Nat)]), .val (.pointer (some ⟨gs, 0, none⟩)), .val (.pointer (some ⟨gs, 0, none⟩)), .val (.pointer (some ⟨gs, 0, none⟩)), .val (.pointer (some ⟨gs, 2, none⟩)), .val (.int .i64 (k : Nat)), ShSR (V) (R), ShSR (V) (R), .bytes (V), .val (.int .i64 (R)), .bytes (V), .val (.int .i64 (R))][ix]?).getD (.any)) 79 rfl (by kernel_rfl) (by decide) (by decide) (by decide) ?_ ?_
  · refine ⟨?_, ?_, ?_, ?_, ?_, ?_, ?_, ?_, ?_, ?_, ?_, ?_, trivial⟩
    · intro a W hb0 hs hp hi; have hb := undrew hb0; clear hb0
      have tt : sl a 3 = .pointer (some ⟨w.heap.size, 0, none⟩) := hi 3 (by decide)
      have dd0 := (hb.cell (p := ⟨w.heap.size, 0, none⟩) (lt_of_cell b0)).trans b0
      have dd1 := (hb.cell (p := ⟨w.heap.size, 1, none⟩) (lt_of_cell b1)).trans b1
      have dd2 := (hb.cell (p := ⟨w.heap.size, 2, none⟩) (lt_of_cell b2)).trans b2
      refine ite_y rfl (wp_val (.agg #[B8 m, .slice p j c, .int .u64 (s : Nat)]) ?_ ?_)
      · simp only [execOp, eval_tmp, tt]; simp [go_sem, dd0, dd1, dd2]
      · exact ⟨_, rfl, Below.refl _ _, rfl⟩
    · intro a W hb0 hs hp hi; have hb := undrew hb0; clear hb0
      have t0 : sl a 0 = .pointer (some ⟨gs, 0, none⟩) := hi 0 (by decide)
      exact ite_y rfl (wp_val (sl a 0) rfl ⟨_, rfl, Below.refl _ _, t0⟩)
    · intro a W hb0 hs hp hi; have hb := undrew hb0; clear hb0
      have tt : sl a 20 = .pointer (some ⟨gs, 0, none⟩) := hp 1 (by decide)
      refine ite_y rfl (wp_val (.pointer (some ⟨gs, 0, none⟩)) ?_ ?_)
      · simp only [execOp, eval_tmp, tt]; simp [go_sem]
      · exact ⟨_, rfl, Below.refl _ _, rfl⟩
    · intro a W hb0 hs hp hi; have hb := undrew hb0; clear hb0
      have tt : sl a 21 = .pointer (some ⟨gs, 0, none⟩) := hp 2 (by decide)
      refine ite_y rfl (wp_val (.pointer (some ⟨gs, 0, none⟩)) ?_ ?_)
      · simp only [execOp, eval_tmp, tt]; simp [go_sem]
      · exact ⟨_, rfl, Below.refl _ _, rfl⟩
    · intro a W hb0 hs hp hi; have hb := undrew hb0; clear hb0
      have tt : sl a 22 = .pointer (some ⟨gs, 0, none⟩) := hp 3 (by decide)
      refine ite_y rfl (wp_val (.pointer (some ⟨gs, 2, none⟩)) ?_ ?_)
      · simp only [execOp, eval_tmp, tt]; simp [go_sem]
      · exact ⟨_, rfl, Below.refl _ _, rfl⟩
    · intro a W hb0 hs hp hi; have hb := undrew hb0; clear hb0
      have tt : sl a 23 = .pointer (some ⟨gs, 2, none⟩) := hp 4 (by decide)
      have dd := (hb.cell (p := ⟨gs, 2, none⟩) (lt_of_cell c2)).trans c2
      refine ite_y rfl (wp_val (.int .i64 (k : Nat)) ?_ ?_)
      · simp only [execOp, eval_tmp, tt]; simp [go_sem, dd]
      · exact ⟨_, rfl, Below.refl _ _, rfl⟩
    · intro a W hb0 hs hp hi; have hb := undrew hb0; clear hb0
      have t19 : sl a 19 = .agg #[B8 m, .slice p j c, .int .u64 (s : Nat)] := hp 0 (by decide)
      have t24 : sl a 24 = .int .i64 (k : Nat) := hp 5 (by decide)
      refine ite_y rfl (wp_enter 32 #[SVal m p j c s, .int .i64 (k : Nat)] ?_ (hV.out _ (H1.out.keep hb)) ?_)
      · simp only [execOp, resolve, List.map_toArray, List.map, eval_tmp, eval_func, eval_const, t19, t24]; simp [go_sem]
      · rintro e W' ⟨q5, n5, g5, rfl, o5, hw⟩; exact ⟨_, rfl, _, rfl, hw, q5, n5, g5, rfl, o5⟩
    · intro a W hb0 hs hp hi; have hb := undrew hb0; clear hb0
      exact ite_y rfl (wp_val (sl a 25) rfl ⟨_, rfl, Below.refl _ _, hp 6 (by decide)⟩)
    · intro a W hb0 hs hp hi; have hb := undrew hb0; clear hb0
      have tt : SRT (V) (R) (sl a 18) W := hp 7 (by decide)
      obtain ⟨q5, n5, g5, tt, z5⟩ := tt
      refine ite_y rfl (wp_val (.slice q5 n5 g5) ?_ ?_)
      · simp only [execOp, eval_tmp, tt]; rfl
      · exact ⟨_, rfl, Below.refl _ _, q5, n5, g5, rfl, z5⟩
    · intro a W hb0 hs hp hi; have hb := undrew hb0; clear hb0
      have tt : SRT (V) (R) (sl a 18) W := hp 7 (by decide)
      obtain ⟨q5, n5, g5, tt, z5⟩ := tt
      refine ite_y rfl (wp_val (.int .i64 (R)) ?_ ?_)
      · simp only [execOp, eval_tmp, tt]; rfl
      · exact ⟨_, rfl, Below.refl _ _, rfl⟩
    · intro a W hb0 hs hp hi; have hb := undrew hb0; clear hb0
      exact ite_y rfl (wp_val (sl a 26) rfl ⟨_, rfl, Below.refl _ _, hp 8 (by decide)⟩)
    · intro a W hb0 hs hp hi; have hb := undrew hb0; clear hb0
      have t27 : sl a 27 = .int .i64 (R) := hp 9 (by decide)
      exact ite_y rfl (wp_val (sl a 27) rfl ⟨_, rfl, Below.refl _ _, t27⟩)
  intro a w2 hb hs hd hI ht
  have ha := act_is [19, 20, 21, 22, 23, 24, 25, 18, 26, 27, 6, 7] hs hd ht (by decide)
  have t7 : sl a 7 = .int .i64 (R) := hI 11 (by decide)
  have y6 := hI 10 (by decide)
  obtain ⟨q6, n6, c6, t6, z6⟩ := y6
  simp only [List.foldl, t7, t6] at ha
  generalize sl a 19 = u19 at ha
  generalize sl a 20 = u20 at ha
  generalize sl a 21 = u21 at ha
  generalize sl a 22 = u22 at ha
  generalize sl a 23 = u23 at ha
  generalize sl a 24 = u24 at ha
  generalize sl a 25 = u25 at ha
  generalize sl a 18 = u18 at ha
  generalize sl a 26 = u26 at ha
  generalize sl a 27 = u27 at ha
  simp only [Act.put, List.setIfInBounds_toArray, List.set_cons_zero, List.set_cons_succ] at ha
  rw [ha]
  clear ha hI ht
  have HB2 := Lib.hid (bl B0.out hb B0.out.size)
  clear hb z6 k1 k2 b0 b1 b2 c0 c1 c2 c3 c4 c5 H1
  go_wp2
  go_ret2
  exact ⟨rfl, HB2.out⟩
end Go.Proofs.YtfbmdlfkipipfaaGreatDoor
namespace Go.Proofs.YtfbmdlfkipipfaaGreatDoor
open Go.RowKit Go.By Go.Maps
theorem pok_of {l s n d : Int} (hl : l ≤ 9223372036854775807) (hc : checkS l s n = 0) (h0 : 0 ≤ d) (h1 : d < 4294967296) : ∃ L t k D : Nat, l = L ∧ s = t ∧ n = k ∧ d = D ∧ POK L t k D := by
  have hf : fitS l s = 0 ∧ n = needS l s := by
    unfold checkS at hc
    by_cases hf : fitS l s = 0
    · rw [if_pos hf] at hc
      refine ⟨hf, ?_⟩
      by_cases hn : n = needS l s
      · exact hn
      · rw [if_neg hn] at hc; omega
    · rw [if_neg hf] at hc; exact absurd hc hf
  obtain ⟨hf, hn⟩ := hf
  have hs : 0 ≤ l ∧ 1 ≤ s ∧ s ≤ 65535 ∧ needS l s ≤ 4096 := by
    unfold fitS at hf
    split at hf
    · omega
    · split at hf
      · omega
      · split at hf
        · omega
        · omega
  obtain ⟨g1, g2⟩ := needS_pos hs.1 hs.2.1
  refine ⟨l.toNat, s.toNat, n.toNat, d.toNat, by omega, by omega, by omega, by omega, ⟨?_, by omega, by omega, by omega, by omega, by omega, by omega⟩⟩
  rw [show ((l.toNat : Nat) : Int) = l by omega, show ((s.toNat : Nat) : Int) = s by omega, show ((n.toNat : Nat) : Int) = n by omega]
  exact hc
end Go.Proofs.YtfbmdlfkipipfaaGreatDoor
namespace Go.By
open Go.RowKit
section
variable {P : Program} {ops : Array Oper} {Q : Exit → Act → World → Prop}
end
end Go.By
namespace Go.By
open Go.RowKit
theorem Hdr.keep {T base i : Nat} {w1 w w' : World} {v : Value} {xss : List (List UInt8)} (h : Hdr T w1 base w v i xss) (hb : Below w.heap.size w w') : Hdr T w1 base w' v i xss := by
  obtain ⟨vs, o, hl, hr⟩ := h
  exact ⟨vs, owns_keepv o hb, hl, hr⟩
section
variable {T : Nat} {wz W w w' : World} {va vb : Value} {n i4 i9 i : Nat} {A B : List (List UInt8)} {dn : Nat → Bool}
end
end Go.By
namespace Go.Proofs.YtfbmdlfkipipfaaGreatDoor
open Go.RowKit Go.By Gf Go.Maps
/-- an object that a plan fits -/
structure ObjP (n t k D : Nat) : Prop where
  ok : POK n t k D
  fit : ∀ i : Nat, i < k → i * t ≤ n
  le : n ≤ k * t
theorem of_obj {n : Nat} {s d : Int} (hf : fitS n s = 0) (hn : (n : Int) ≤ 9223372036854775807) (d0 : 0 ≤ d) (d1 : d < 4294967296) :
    ∃ t k D : Nat, s = t ∧ d = D ∧ ObjP n t k D ∧ ofS n s d = .tuple #[PVal n t k D, .int .i64 0] := by
  have hc : checkS (n : Int) s (needS n s) = 0 := by unfold checkS; rw [if_pos hf, if_pos rfl]
  obtain ⟨L, t, k, D, e1, e2, e3, e4, hP⟩ := pok_of hn hc d0 d1
  have e1' : L = n := by omega
  subst e1'
  subst e2
  subst e4
  refine ⟨t, k, D, rfl, rfl, ⟨hP, ?_, ?_⟩, ?_⟩
  · intro i hi
    by_cases h0 : (L : Int) = 0
    · have : needS L t = 1 := by unfold needS; rw [if_pos h0]
      have : i = 0 := by omega
      subst this; omega
    · have h5 := (needS_spec (l := L) (s := t) (by omega) (by have := hP.t1; omega)).1
      rw [e3] at h5
      have h6 : (i : Int) * t ≤ ((k : Int) - 1) * t := Int.mul_le_mul_of_nonneg_right (by omega) (by omega)
      have h7 : ((i * t : Nat) : Int) ≤ (L : Int) := by rw [Int.natCast_mul]; exact Int.le_of_lt (Int.lt_of_le_of_lt h6 h5)
      omega
  · by_cases h0 : (L : Int) = 0
    · have : L = 0 := by omega
      subst this; omega
    · have h5 := (needS_spec (l := L) (s := t) (by omega) (by have := hP.t1; omega)).2
      rw [e3] at h5
      have h7 : (L : Int) ≤ ((k * t : Nat) : Int) := by rw [Int.natCast_mul]; exact h5
      omega
  · unfold ofS; rw [if_pos hf, e3]
theorem of_none {n : Nat} {s d : Int} (hf : fitS n s ≠ 0) : ofS n s d = .tuple #[.agg #[.int .i64 0, .int .i64 0, .int .i64 0, .int .u32 0], .int .i64 (fitS n s)] := by
  unfold ofS; rw [if_neg hf]
end Go.Proofs.YtfbmdlfkipipfaaGreatDoor
namespace Go.By
open Go.RowKit Go.Maps Go.Proofs.YtfbmdlfkipipfaaGreatDoor
theorem fresh_same {T : TypeId} {B : Nat} {w w' : World} {q : Option Addr} {n c : Nat} {xs : List UInt8} (h : Fresh T B w q n c xs) (hp : ∀ (b : Nat) (cs : Array Value) (fr : Nat × Nat), w.heap[b]? = some (.cells cs T fr) → w'.heap[b]? = w.heap[b]?) : Fresh T B w' q n c xs := by
  have hd : ∀ a, q = some a → w'.heap[a.block]? = w.heap[a.block]? := fun a ha => by
    obtain ⟨cs, fr, e⟩ := h.ty a ha; exact hp _ cs fr e
  refine ⟨⟨h.sl.len, h.sl.le, h.sl.max, h.sl.nil, fun i hi => ?_⟩, h.new, fun a ha => ?_⟩
  · obtain ⟨b, o, e, hc⟩ := h.sl.rs i hi
    exact ⟨b, o, e, (World.cell?_of_block (a := ⟨b, o + i, none⟩) (show w'.heap[b]? = w.heap[b]? from hd ⟨b, o, none⟩ e)).trans hc⟩
  · obtain ⟨cs, fr, e⟩ := h.ty a ha
    exact ⟨cs, fr, (hd a ha).trans e⟩
theorem GChg.same {w w' : World} {g T' : Nat} {old : Array Value} {fr : Nat × Nat} (h : GChg w g w') (hg : w.heap[g]? = some (.cells old T' fr)) {T : TypeId} (hne : T' ≠ T) : ∀ (b : Nat) (cs : Array Value) (fr : Nat × Nat), w.heap[b]? = some (.cells cs T fr) → w'.heap[b]? = w.heap[b]? := fun b cs fr hb =>
  (h.blk hg hb hne).trans hb.symm
theorem TChg.same {w w' : World} {base gt be L t k D N : Nat} {M v : Value} {C : DataW Unit} {K : List Rw} {st : Nat} (h : TChg w w' gt be v) (hT : Tkr w base gt be L t k D N M v C K st) {T : TypeId} (h1 : T ≠ 126) (h2 : T ≠ 201) (h3 : 139 ≠ T) : ∀ (b : Nat) (cs : Array Value) (fr : Nat × Nat), w.heap[b]? = some (.cells cs T fr) → w'.heap[b]? = w.heap[b]? := fun b cs fr hb =>
  (h.blk hT hb h1 h2 h3).trans hb.symm
/-- headers of bytes in new memory -/
def HdrF (T2 T1 : TypeId) (B : Nat) (w : World) (v : Value) (n : Nat) (xss : List (List UInt8)) : Prop :=
  ∃ vs, w.ownsRow B T2 1 v n vs ∧ xss.length = n ∧ ∀ (j : Nat) (u : Value), vs[j]? = some u → ∃ q m c xs, u = .slice q m c ∧ xss[j]? = some xs ∧ Fresh T1 B w q m c xs
theorem HdrF.nil (T2 T1 B : Nat) (w : World) : HdrF T2 T1 B w (.slice none 0 0) 0 [] := ⟨[], World.ownsRow_nil _ _ _ _, rfl, fun j u h => by simp at h⟩
theorem HdrF.shape {T2 T1 B n : Nat} {w : World} {v : Value} {xss : List (List UInt8)} (h : HdrF T2 T1 B w v n xss) : ∃ q c, v = .slice q n c := by
  obtain ⟨vs, o, _⟩ := h; exact owns_shape o
theorem HdrF.len {T2 T1 B n : Nat} {w : World} {v : Value} {xss : List (List UInt8)} (h : HdrF T2 T1 B w v n xss) : xss.length = n := by
  obtain ⟨vs, o, l, _⟩ := h; exact l
theorem HdrF.keep {T2 T1 B n : Nat} {w w' : World} {v : Value} {xss : List (List UInt8)} (h : HdrF T2 T1 B w v n xss) (hb : Below w.heap.size w w') : HdrF T2 T1 B w' v n xss := by
  obtain ⟨vs, o, l, r⟩ := h
  refine ⟨vs, owns_keepv o hb, l, fun j u hj => ?_⟩
  obtain ⟨q, m, c, xs, e, hx, hf⟩ := r j u hj
  exact ⟨q, m, c, xs, e, hx, hf.keep hb⟩
theorem HdrF.same {T2 T1 B n : Nat} {w w' : World} {v : Value} {xss : List (List UInt8)} (h : HdrF T2 T1 B w v n xss) (hs : w.heap.size ≤ w'.heap.size) (h2 : ∀ (b : Nat) (cs : Array Value) (fr : Nat × Nat), w.heap[b]? = some (.cells cs T2 fr) → w'.heap[b]? = w.heap[b]?) (h1 : ∀ (b : Nat) (cs : Array Value) (fr : Nat × Nat), w.heap[b]? = some (.cells cs T1 fr) → w'.heap[b]? = w.heap[b]?) : HdrF T2 T1 B w' v n xss := by
  obtain ⟨vs, o, l, r⟩ := h
  refine ⟨vs, owns_same o hs fun g hg => ?_, l, fun j u hj => ?_⟩
  · rcases o.2 with ⟨e1, _⟩ | ⟨g', cap, cur, e1, _, hh, _⟩
    · rw [e1] at hg; cases hg
    · rw [e1] at hg; cases hg
      exact h2 _ _ _ hh
  · obtain ⟨q, m, c, xs, e, hx, hf⟩ := r j u hj
    exact ⟨q, m, c, xs, e, hx, fresh_same hf h1⟩
theorem HdrF.sl2 {T2 T1 B n : Nat} {w : World} {q : Option Addr} {c : Nat} {xss : List (List UInt8)} (h : HdrF T2 T1 B w (.slice q n c) n xss) : Sl2 w q n c xss := by
  obtain ⟨vs, o, l, r⟩ := h
  have hd : Hdr T2 w B w (.slice q n c) n xss := ⟨vs, o, l, fun j u hj => by
    obtain ⟨q, m, c, xs, e, hx, hf⟩ := r j u hj
    exact ⟨q, m, c, xs, e, hx, hf.sl⟩⟩
  exact hd.sl2 (Below.refl _ _)
/-- one more -/
theorem HdrF.push {T2 T1 B n : Nat} {w w' : World} {v v' : Value} {xss : List (List UInt8)} {vs : List Value} {q : Option Addr} {m c : Nat} {xs : List UInt8} (ho : w'.ownsRow B T2 1 v' (n + 1) (vs ++ [.slice q m c])) (hvl : vs.length = n) (hl : xss.length = n)
    (hr : ∀ (j : Nat) (u : Value), vs[j]? = some u → ∃ q m c xs, u = .slice q m c ∧ xss[j]? = some xs ∧ Fresh T1 B w q m c xs) (hx : Fresh T1 B w q m c xs) (hp : ∀ (b : Nat) (cs : Array Value) (fr : Nat × Nat), w.heap[b]? = some (.cells cs T1 fr) → w'.heap[b]? = w.heap[b]?) : HdrF T2 T1 B w' v' (n + 1) (xss ++ [xs]) := by
  refine ⟨_, ho, by simp [hl], fun j u hj => ?_⟩
  by_cases h : j < vs.length
  · rw [List.getElem?_append_left h] at hj
    obtain ⟨q, m, c, ys, e, hy, hf⟩ := r_of hr hj
    exact ⟨q, m, c, ys, e, by rw [List.getElem?_append_left (by omega)]; exact hy, fresh_same hf hp⟩
  · rw [List.getElem?_append_right (by omega)] at hj
    by_cases h0 : j - vs.length = 0
    · rw [h0] at hj
      simp at hj
      refine ⟨q, m, c, xs, hj.symm, ?_, fresh_same hx hp⟩
      rw [List.getElem?_append_right (by omega), show j - xss.length = 0 by omega]; rfl
    · rw [List.getElem?_eq_none (by simp; omega)] at hj; cases hj
where
  r_of {T1 B : Nat} {w : World} {vs : List Value} {xss : List (List UInt8)} {j : Nat} {u : Value} (hr : ∀ (j : Nat) (u : Value), vs[j]? = some u → ∃ q m c xs, u = .slice q m c ∧ xss[j]? = some xs ∧ Fresh T1 B w q m c xs) (hj : vs[j]? = some u) := hr j u hj
end Go.By
namespace Go.Proofs.YtfbmdlfkipipfaaGreatDoor
open Go.RowKit Go.By Go.Maps
theorem pok131 : POK 3 3 1 0 := ⟨by decide, by decide, by decide, by decide, by decide, by decide, by decide⟩
theorem of33 : ofS 3 3 0 = .tuple #[PVal 3 3 1 0, .int .i64 0] := by
  have h : fitS 3 3 = 0 := by decide
  have h2 : needS 3 3 = 1 := by decide
  unfold ofS; rw [if_pos h, h2]; rfl
def pkt9a : List UInt8 := pktB 0 0 0 [0] 0 [0, 0, 0]
def pkt9b : List UInt8 := pktB 0 0 1 [7] 0 (combS [7] [[1, 2, 3]]).1
theorem comb9a : (combS [0] [[1, 2, 3]]).1 = [0, 0, 0] := by decide +kernel
theorem put9a : putK [] ([0], [0, 0, 0]) = [] ∧ nextS [] ([0], [0, 0, 0]) 1 = 0 := by decide +kernel
theorem put9b : putK [] ([7], (combS [7] [[1, 2, 3]]).1) = [([1], [1, 2, 3])] ∧ nextS [] ([7], (combS [7] [[1, 2, 3]]).1) 1 = 1 := by decide +kernel
theorem len9c : (combS [7] [[1, 2, 3]]).1.length = 3 := by decide +kernel
theorem read9a : readC 1 3 0 pkt9a = 0 ∧ eqX 1 3 pkt9a = ([0], [0, 0, 0]) := by
  obtain ⟨h1, h2, h3, h4, h5, h6⟩ := read_write (m := 0) (D := 0) (n := 0) (s := 0) (k := 1) (t := 3) (xs := [0]) (ys := [0, 0, 0]) rfl (fun _ => rfl) rfl (by decide) (by decide)
  refine ⟨h1, ?_⟩
  unfold eqX
  rw [show pktM pkt9a = 0 from h2, show pktX 1 pkt9a = [0] from h4, show pktY 1 3 pkt9a = [0, 0, 0] from h6]
  rfl
theorem read9b : readC 1 3 0 pkt9b = 0 ∧ eqX 1 3 pkt9b = ([7], (combS [7] [[1, 2, 3]]).1) := by
  obtain ⟨h1, h2, h3, h4, h5, h6⟩ := read_write (m := 0) (D := 0) (n := 1) (s := 0) (k := 1) (t := 3) (xs := [7]) (ys := (combS [7] [[1, 2, 3]]).1) rfl (fun _ => rfl) len9c (by decide) (by decide)
  refine ⟨h1, ?_⟩
  unfold eqX
  rw [show pktM pkt9b = 0 from h2, show pktX 1 pkt9b = [7] from h4, show pktY 1 3 pkt9b = (combS [7] [[1, 2, 3]]).1 from h6]
  rfl
theorem take9a : takeK 1 3 0 [] 0 pkt9a = [] ∧ takeS 1 3 0 [] 0 pkt9a = 0 := by
  unfold takeK takeS
  rw [if_pos ⟨read9a.1, rfl⟩, if_pos ⟨read9a.1, rfl⟩, read9a.2]
  exact put9a
theorem take9b : takeK 1 3 0 [] 0 pkt9b = [([1], [1, 2, 3])] ∧ takeS 1 3 0 [] 0 pkt9b = 1 := by
  unfold takeK takeS
  rw [if_pos ⟨read9b.1, rfl⟩, if_pos ⟨read9b.1, rfl⟩, read9b.2]
  exact put9b
theorem len9a : pkt9a.length = 18 := by simp [pkt9a, pktB, bodyP, headB, srcB, put4_len]
theorem len9b : pkt9b.length = 18 := by simp [pkt9b, pktB, bodyP, headB, srcB, put4_len, len9c]
theorem pieces9 : (List.range 1).map (pieceS [1, 2, 3] 3) = [[1, 2, 3]] := by decide
theorem join9 : joinS 3 3 1 (([([1], [1, 2, 3])] : List Rw).map (fun x : Rw => x.2)) = ([1, 2, 3], 0) := by decide +kernel
set_option maxRecDepth 100000 in
set_option maxHeartbeats 8000000 in
theorem awake19 (w : World) (hT : HalfT w) : Calls Tryz.prog 28 #[] w fun e w' => e = .returned (.bool true) ∧ Below w.heap.size w w' := by
  have HT := Lib.hid hT
  have HOf : Hid (∀ w, Calls Tryz.prog 24 #[.int .i64 3, .int .i64 3, .int .u32 0] w fun e w' => e = .returned (.tuple #[PVal 3 3 1 0, .int .i64 0]) ∧ Below w.heap.size w w') := fun w => by have := POf_any 3 3 0 w (by decide); rw [of33] at this; exact this
  have HSm : Hid (∀ xs p1 p2 n1 n2 c1 c2 w, Sl B8 w p1 n1 c1 xs → Sl B8 w p2 n2 c2 xs → Calls Tryz.prog 36 #[.slice p1 n1 c1, .slice p2 n2 c2] w fun e w' => e = .returned (.bool true) ∧ Below w.heap.size w w') := fun xs p1 p2 n1 n2 c1 c2 w h1 h2 => by
    have := Same_any p1 p2 n1 n2 c1 c2 xs xs w h1 h2
    rw [decide_eq_true rfl] at this
    exact this
  clear hT
  go_enter Tryz.func28, Tryz.ntmps28
  go_wp2_with fail
  refine Calls.mono (HOf.out w) ?_
  rintro e w1 ⟨rfl, hb1⟩
  have HB1 := Lib.hid hb1
  clear hb1
  go_wp2_with fail
  refine Calls.mono (SNew_ok 3 3 1 0 _ 3 3 [1, 2, 3] _ pok131 (sl_block [1, 2, 3] 3 (hnew (by simp)) rfl rfl (by simp [maxLen])) (fun i hi => by omega) rfl) ?_
  rintro e w2 ⟨gs, rfl, hgs, hsn, hb⟩
  rw [pieces9] at hsn
  obtain ⟨hb2, kp, -, hs2⟩ := two_of hb
  have HB2 := Lib.hid (bl HB1.out hb2 HB1.out.size)
  have HSn := Lib.hid hsn
  have HGS : Hid (w.heap.size ≤ gs) := by have := HB1.out.size; show w.heap.size ≤ gs; simp at hgs; omega
  clear hb hb2 hsn hgs hs2
  obtain ⟨p0, p1, p2, p3⟩ := cells_four kp
  go_wp2_with fail
  refine Calls.mono (TNew_ok 3 3 1 0 w2 pok131) ?_
  rintro e w3 ⟨gt, be, v, rfl, ht, hb⟩
  have HB3 := Lib.hid (bl HB2.out hb HB2.out.size)
  have HT3 := Lib.hid ht
  have HSn3 := Lib.hid (HSn.out.keep hb)
  clear hb ht HSn kp p0 p1 p2 p3
  go_wp2_with fail
  have ba := al (o := .cells #[.int .u8 0] 5 (0, 0)) (Below.refl w3.heap.size w3) (Nat.le_refl _)
  have HT4 := Lib.hid (HT3.out.keep ba)
  have HSn4 := Lib.hid (HSn3.out.keep ba)
  have HB4 := Lib.hid (bl HB3.out ba HB3.out.size)
  have HX4 : Hid (Sl B8 (w3.alloc (.cells #[.int .u8 0] 5 (0, 0))) (some ⟨w3.heap.size, 0, none⟩) 1 1 [0]) := sl_block [0] 1 (hnew rfl) rfl rfl (by simp [maxLen])
  clear ba HT3 HSn3
  refine Calls.mono (SExplicit_ok gs 3 3 1 0 0 [[1, 2, 3]] _ 1 1 [0] _ HSn4.out (by decide) rfl HX4.out (HT.out.keep HB4.out)) ?_
  rintro e w5 ⟨ql, nl, cl, rfl, hl, hsn, hg⟩
  rw [comb9a] at hl
  obtain ⟨_, _, hbx, -⟩ := HSn4.out.mem
  have HL := Lib.hid hl
  have HSn5 := Lib.hid hsn
  have HT5 := Lib.hid (hg.tkr hbx HT4.out (by decide) (by decide) (by decide) (by decide))
  have HB5 := Lib.hid (HB4.out.trans (hg.below HGS.out HB4.out.size))
  have hnl : nl = 18 := by rw [← hl.len]; exact len9a
  have HNL := Lib.hid hnl
  clear hg hbx hl hsn HT4 HSn4 HB4 HX4 hnl
  go_wp2_with fail
  have ba := al (o := .cells #[.int .u8 7] 5 (0, 0)) (Below.refl w5.heap.size w5) (Nat.le_refl _)
  have HT6 := Lib.hid (HT5.out.keep ba)
  have HSn6 := Lib.hid (HSn5.out.keep ba)
  have HL6 := Lib.hid (HL.out.keep ba)
  have HB6 := Lib.hid (bl HB5.out ba HB5.out.size)
  have HX6 : Hid (Sl B8 (w5.alloc (.cells #[.int .u8 7] 5 (0, 0))) (some ⟨w5.heap.size, 0, none⟩) 1 1 [7]) := sl_block [7] 1 (hnew rfl) rfl rfl (by simp [maxLen])
  clear ba HT5 HSn5 HL
  refine Calls.mono (SExplicit_okF gs 3 3 1 0 1 [[1, 2, 3]] _ 1 1 [7] _ HSn6.out (by decide) rfl HX6.out (HT.out.keep HB6.out)) ?_
  rintro e w7 ⟨⟨qm, nm, cm, rfl, hl⟩, _, _, _, -, -, -, hg⟩
  obtain ⟨_, _, hbx, -⟩ := HSn6.out.mem
  have HM := Lib.hid hl
  have HL7 := Lib.hid (sl_gchg HL6.out hbx noByte6 hg)
  have HT7 := Lib.hid (hg.tkr hbx HT6.out (by decide) (by decide) (by decide) (by decide))
  have HB7 := Lib.hid (HB6.out.trans (hg.below HGS.out HB6.out.size))
  have hnm : nm = 18 := by rw [← hl.sl.len]; exact len9b
  have HNM := Lib.hid hnm
  clear hg hbx hl HT6 HSn6 HB6 HX6 hnm HL6
  go_wp2_with fail
  refine Calls.mono (TTake_any _ gt be 3 3 1 0 0 (.map none) v (.map []) [] 0 ql nl cl pkt9a w7 HT7.out (HT.out.keep HB7.out) (by decide) HL7.out (by rw [HNL.out]; show 18 ≤ 140737488355328; decide)) ?_
  rintro e w8 ⟨he, M8, v8, hT8, hc8, -⟩
  rw [read9a.1] at he
  subst he
  rw [take9a.1, take9a.2] at hT8
  have HT8 := Lib.hid hT8
  have HM8 : Hid (Sl B8 w8 qm nm cm pkt9b) := (fresh_same HM.out (hc8.same HT7.out (by decide) (by decide) (by decide))).sl
  have HB8 := Lib.hid (HB7.out.trans (hc8.below HT7.out HB2.out.size HB7.out.size))
  clear hT8 hc8 HT7 HB7 HL7 HNL HM
  go_wp2_with fail
  refine Calls.mono (TStatus_any _ gt be 3 3 1 0 _ M8 v8 _ [] 0 w8 HT8.out) ?_
  rintro e w9 ⟨rfl, rfl⟩
  go_wp2_with fail
  refine Calls.mono (TTake_any _ gt be 3 3 1 0 1 M8 v8 _ [] 0 qm nm cm pkt9b w8 HT8.out (HT.out.keep HB8.out) (by decide) HM8.out (by rw [HNM.out]; show 18 ≤ 140737488355328; decide)) ?_
  rintro e w9 ⟨he, M9, v9, hT9, hc9, -⟩
  rw [read9b.1] at he
  subst he
  rw [take9b.1, take9b.2] at hT9
  have HT9 := Lib.hid hT9
  have HB9 := Lib.hid (HB8.out.trans (hc9.below HT8.out HB2.out.size HB8.out.size))
  clear hT9 hc9 HT8 HB8 HM8 HNM
  go_wp2_with fail
  have hob := TObject_done _ gt be 3 3 1 0 _ M9 v9 _ _ w9 HT9.out rfl
  rw [show joinS ((3 : Nat) : Int) ((3 : Nat) : Int) ((1 : Nat) : Int) (([([1], [1, 2, 3])] : List Rw).map (fun x : Rw => x.2)) = ([1, 2, 3], 0) from join9] at hob
  refine Calls.mono hob ?_
  rintro e wA ⟨qo, no, co, rfl, ho, hb⟩
  have HO := Lib.hid ho
  have HTA := Lib.hid (HT9.out.keep hb)
  have HBA := Lib.hid (bl HB9.out hb HB9.out.size)
  clear hob hb ho HT9 HB9
  go_wp2_with fail
  refine Calls.mono (TStatus_any _ gt be 3 3 1 0 _ M9 v9 _ _ 1 wA HTA.out) ?_
  rintro e wB ⟨rfl, rfl⟩
  go_wp2_with fail
  refine Calls.mono (HSm.out [1, 2, 3] _ _ _ _ _ _ _ (HO.out.keep (al (Below.refl _ _) (Nat.le_refl _))) (sl_block [1, 2, 3] 3 (hnew rfl) rfl rfl (by simp [maxLen]))) ?_
  rintro e wC ⟨rfl, hb⟩
  have HBC := Lib.hid (bl HBA.out (one_of hb).1 HBA.out.size)
  clear hb
  go_wp2
  go_ret
  exact ⟨rfl, HBC.out⟩
end Go.Proofs.YtfbmdlfkipipfaaGreatDoor
namespace Go.By
open Go.RowKit Go.Maps Go.Proofs.YtfbmdlfkipipfaaGreatDoor
/-- what stays of other types -/
def OthS (T : TypeId) : Prop := T ≠ 126 ∧ T ≠ 201 ∧ 139 ≠ T ∧ 153 ≠ T
structure KeepS (w w' : World) : Prop where
  size : w.heap.size ≤ w'.heap.size
  same : ∀ T, OthS T → ∀ (b : Nat) (cs : Array Value) (fr : Nat × Nat), w.heap[b]? = some (.cells cs T fr) → w'.heap[b]? = w.heap[b]?
theorem KeepS.of {w w' : World} (h : Below w.heap.size w w') : KeepS w w' := ⟨h.size, fun _ _ b _ _ hb => h.block b (lt_of_block hb)⟩
theorem KeepS.trans {w a b : World} (h : KeepS w a) (h2 : KeepS a b) : KeepS w b :=
  ⟨Nat.le_trans h.size h2.size, fun T hT i cs fr hi => (h2.same T hT i cs fr ((h.same T hT i cs fr hi).trans hi)).trans (h.same T hT i cs fr hi)⟩
theorem KeepS.blk {w w' : World} (h : KeepS w w') {T b : Nat} {cs : Array Value} {fr : Nat × Nat} (hT : OthS T) (hb : w.heap[b]? = some (.cells cs T fr)) : w'.heap[b]? = some (.cells cs T fr) := (h.same T hT b cs fr hb).trans hb
theorem KeepS.fresh {w w' : World} (h : KeepS w w') {T B n c : Nat} {q : Option Addr} {xs : List UInt8} (hT : OthS T) (hf : Fresh T B w q n c xs) : Fresh T B w' q n c xs := fresh_same hf (h.same T hT)
theorem KeepS.hdr {w w' : World} (h : KeepS w w') {T2 T1 B n : Nat} {v : Value} {xss : List (List UInt8)} (h2 : OthS T2) (h1 : OthS T1) (hf : HdrF T2 T1 B w v n xss) : HdrF T2 T1 B w' v n xss := hf.same h.size (h.same T2 h2) (h.same T1 h1)
theorem KeepS.owns {w w' : World} (h : KeepS w w') {b2 T e n : Nat} {v : Value} {ys : List Value} (hT : OthS T) (ho : w.ownsRow b2 T e v n ys) : w'.ownsRow b2 T e v n ys :=
  owns_same ho h.size fun g hg => by
    rcases ho.2 with ⟨e1, _⟩ | ⟨g', cap, cur, e1, _, hh, _⟩
    · rw [e1] at hg; cases hg
    · rw [e1] at hg; cases hg
      exact h.same T hT _ _ _ hh
theorem os_u8 : OthS 5 := ⟨by decide, by decide, by decide, by decide⟩
theorem os_rows : OthS 22 := ⟨by decide, by decide, by decide, by decide⟩
theorem os_plan : OthS 27 := ⟨by decide, by decide, by decide, by decide⟩
theorem TChg.keepS {w w' : World} {base gt be L t k D N : Nat} {M v : Value} {C : DataW Unit} {K : List Rw} {st : Nat} (h : TChg w w' gt be v) (hT : Tkr w base gt be L t k D N M v C K st) : KeepS w w' :=
  ⟨h.size, fun T hO => h.same hT hO.1 hO.2.1 hO.2.2.1⟩
theorem GChg.keepSS {w w' : World} {g : Nat} {cs : Array Value} {fr : Nat × Nat} (h : GChg w g w') (hg : w.heap[g]? = some (.cells cs 153 fr)) : KeepS w w' :=
  ⟨h.size, fun T hO => h.same hg hO.2.2.2⟩
end Go.By
namespace Go.Proofs.YtfbmdlfkipipfaaGreatDoor
open Go.RowKit Go.By Gf Go.Maps
/-- a sender and a taker, in memory; wI: the world ahead, w0: the world in which the sender was made -/
structure ST (wI w0 w : World) (gs gt be base L t k D : Nat) (FX : List (List UInt8)) (nx N : Nat) (v : Value) (K : List Rw) (st : Nat) : Prop where
  bel : Below wI.heap.size wI w
  i0 : wI.heap.size ≤ w0.heap.size
  le : w0.heap.size ≤ w.heap.size
  b1 : w0.heap.size ≤ base
  gs0 : wI.heap.size ≤ gs
  snd : SndO w0 w gs L t k D nx FX
  tk : ∃ M C, Tkr w base gt be L t k D N M v C K st
section
variable {wI w0 w w' : World} {gs gt be base L t k D nx N st : Nat} {FX : List (List UInt8)} {v : Value} {K : List Rw}
theorem ST.keep (h : ST wI w0 w gs gt be base L t k D FX nx N v K st) (hb : Below w.heap.size w w') : ST wI w0 w' gs gt be base L t k D FX nx N v K st := by
  obtain ⟨M, C, h1⟩ := h.tk
  exact ⟨bl h.bel hb h.bel.size, h.i0, Nat.le_trans h.le hb.size, h.b1, h.gs0, h.snd.keep hb h.le, ⟨M, C, h1.keep hb⟩⟩
theorem ST.sbox (h : ST wI w0 w gs gt be base L t k D FX nx N v K st) : ∃ cs fr, w.heap[gs]? = some (.cells cs 153 fr) := by
  obtain ⟨q, c, n0, h1, h2, h3, h4⟩ := h.snd.mem
  exact ⟨_, _, h2⟩
/-- an owned row of another type grew -/
theorem ST.grown (h : ST wI w0 w gs gt be base L t k D FX nx N v K st) {T e n : Nat} {u : Value} {ys : List Value} (ho : w.ownsRow w0.heap.size T e u n ys) (hg : w.grownBy w' u.ownBlock) (h1 : T ≠ 201) (h2 : T ≠ 139) (h3 : T ≠ 5) (h4 : T ≠ 126) :
    ST wI w0 w' gs gt be base L t k D FX nx N v K st ∧ (∀ T', T ≠ T' → ∀ (b : Nat) (cs : Array Value) (fr : Nat × Nat), w.heap[b]? = some (.cells cs T' fr) → w'.heap[b]? = w.heap[b]?) := by
  rcases ho.2 with ⟨e1, _⟩ | ⟨g, cap, cur, e1, hgb, hh, _⟩
  · have hb : Below w.heap.size w w' := ⟨hg.os, hg.tape, hg.output, hg.size, fun b hb => hg.block b hb (fun e => by rw [e1] at e; cases e)⟩
    exact ⟨h.keep hb, fun T' _ b cs fr hc => hb.block b (lt_of_block hc)⟩
  · have hc : GChg w g w' := ⟨hg.os, hg.tape, hg.output, hg.size, fun b hb hne => hg.block b hb (fun e => by rw [e1] at e; cases e; exact hne rfl)⟩
    obtain ⟨M, C, t1⟩ := h.tk
    exact ⟨⟨h.bel.trans (hc.below (Nat.le_trans h.i0 hgb) h.bel.size), h.i0, Nat.le_trans h.le hc.size, h.b1, h.gs0, h.snd.keep (hc.below hgb h.le) (Nat.le_refl _), ⟨M, C, hc.tkr hh t1 h1 h2 h3 h4⟩⟩, fun T' hne => hc.same hh hne⟩
/-- the sender sent -/
theorem ST.sent (h : ST wI w0 w gs gt be base L t k D FX nx N v K st) {ys : List UInt8} {nx' : Nat} {code : Int} {e : Ending} (hs : SdRetQ w gs L t k D FX ys nx nx' code e w') : ST wI w0 w' gs gt be base L t k D FX nx' N v K st ∧ KeepS w w' := by
  obtain ⟨cs, fr, hbx⟩ := h.sbox
  obtain ⟨M, C, t1⟩ := h.tk
  have hS := h.snd.sent hs
  obtain ⟨⟨_, _, _, _, _, _, hg⟩, -⟩ := hs
  exact ⟨⟨h.bel.trans (hg.below h.gs0 h.bel.size), h.i0, Nat.le_trans h.le hg.size, h.b1, h.gs0, hS, ⟨M, C, hg.tkr hbx t1 (by decide) (by decide) (by decide) (by decide)⟩⟩, hg.keepSS hbx⟩
/-- the taker took -/
theorem ST_take (h : ST wI w0 w gs gt be base L t k D FX nx N v K st) (hT : HalfT wI) (hN : N < 1000000) {p : Option Addr} {n c : Nat} {xs : List UInt8} (hs : Sl B8 w p n c xs) (hn : Room n) :
    Calls Tryz.prog 19 #[.pointer (some ⟨gt, 0, none⟩), .slice p n c] w fun e w' => e = .returned (.int .i64 (readC k t D xs)) ∧ ∃ v', ST wI w0 w' gs gt be base L t k D FX nx (N + 1) v' (takeK k t D K st xs) (takeS k t D K st xs) ∧ KeepS w w' := by
  obtain ⟨M, C, h1⟩ := h.tk
  refine Calls.mono (TTake_any base gt be L t k D N M v C K st p n c xs w h1 (hT.keep h.bel) hN hs hn) ?_
  rintro e w1 ⟨rfl, M', v', hT', hc', ho⟩
  have hB := hc'.below h1 h.b1 h.le
  exact ⟨rfl, v', ⟨h.bel.trans (hc'.below h1 (Nat.le_trans h.i0 h.b1) h.bel.size), h.i0, Nat.le_trans h.le hc'.size, h.b1, h.gs0, h.snd.keep hB (Nat.le_refl _), ⟨M', _, hT'⟩⟩, hc'.keepS h1⟩
/-- the sender sends by a source that fits -/
theorem ST_send (h : ST wI w0 w gs gt be base L t k D FX nx N v K st) (hT : HalfT wI) (hnx : nx < 4294967296) {m : UInt8} {p : Option Addr} {j c s : Nat} {xs : List UInt8} (hm : srcC m j k = 0) (hs : Sl B8 w p j c xs) (hr : Room j) :
    Calls Tryz.prog 31 #[.pointer (some ⟨gs, 0, none⟩), SVal m p j c s] w fun e w' => ∃ q n c', e = .returned (.tuple #[.slice q n c', .int .i64 0]) ∧ Fresh 5 w.heap.size w' q n c' (pktB m D nx xs s (combS (vecS m xs s k) FX).1) ∧ ST wI w0 w' gs gt be base L t k D FX (nx + 1) N v K st ∧ KeepS w w' := by
  refine Calls.mono (SSend_okF gs L t k D nx FX m p j c s xs w h.snd.snd hnx hm hs hr (hT.keep h.bel)) ?_
  rintro e w1 ⟨⟨q, n, c', he, hf⟩, hq⟩
  obtain ⟨g1, g2⟩ := h.sent hq
  exact ⟨q, n, c', he, hf, g1, g2⟩
theorem ST_status (h : ST wI w0 w gs gt be base L t k D FX nx N v K st) : Calls Tryz.prog 23 #[.pointer (some ⟨gt, 0, none⟩)] w fun e w' => e = .returned (.int .i64 (st : Nat)) ∧ w = w' := by
  obtain ⟨M, C, h1⟩ := h.tk
  exact TStatus_any base gt be L t k D N M v C K st w h1
theorem ST_rank (h : ST wI w0 w gs gt be base L t k D FX nx N v K st) : Calls Tryz.prog 18 #[.pointer (some ⟨gt, 0, none⟩)] w fun e w' => e = .returned (.int .i64 (K.length : Nat)) ∧ w = w' := by
  obtain ⟨M, C, h1⟩ := h.tk
  exact TRank_any base gt be L t k D N M v C K st w h1
theorem ST_rows (h : ST wI w0 w gs gt be base L t k D FX nx N v K st) : Calls Tryz.prog 20 #[.pointer (some ⟨gt, 0, none⟩)] w fun e w' => ∃ v', e = .returned v' ∧ RwL 139 5 w' w.heap.size v' K.length K ∧ Below w.heap.size w w' := by
  obtain ⟨M, C, h1⟩ := h.tk
  exact TRows_any base gt be L t k D N M v C K st w h1
end
/-- made anew -/
theorem ST.start {wI w0 w1 : World} {gs gt be L t k D nx : Nat} {FX : List (List UInt8)} {v M : Value} {C : DataW Unit} (hB : Below wI.heap.size wI w0) (hgs : wI.heap.size ≤ gs) (hs : Snd w0 gs L t k D nx FX) (ht : Tkr w1 w0.heap.size gt be L t k D 0 M v C [] 0) (hb : Below w0.heap.size w0 w1) : ST wI w0 w1 gs gt be w0.heap.size L t k D FX nx 0 v [] 0 :=
  ⟨bl hB hb hB.size, hB.size, hb.size, Nat.le_refl _, hgs, (SndO.start hs).keep hb (Nat.le_refl _), ⟨M, C, ht⟩⟩
end Go.Proofs.YtfbmdlfkipipfaaGreatDoor
namespace Go.By
theorem crcBit_lt {r : Nat} (h : r < 4294967296) : crcBit r < 4294967296 := by
  unfold crcBit
  have h2 : r / 2 < 2 ^ 32 := by omega
  split
  · exact Nat.xor_lt_two_pow h2 (by decide)
  · omega
/-- some bits shifted out -/
def crcBits : Nat → Nat → Nat
  | 0, r => r
  | j + 1, r => crcBit (crcBits j r)
theorem crcBits_lt {r : Nat} (h : r < 4294967296) : ∀ j, crcBits j r < 4294967296
  | 0 => h
  | j + 1 => crcBit_lt (crcBits_lt h j)
theorem crcBits_eight (r : Nat) (b : UInt8) : crcBits 8 (r ^^^ b.toNat) = crcByte r b := by
  rw [crc_byte]; rfl
end Go.By
namespace Go.Proofs.YtfbmdlfkipipfaaGreatDoor
open Go.RowKit Go.By
end Go.Proofs.YtfbmdlfkipipfaaGreatDoor
namespace Go.By
theorem crcBit_top {r : Nat} (h : r < 4294967296) : (crcBit r).testBit 31 = decide (r % 2 = 1) := by
  have h1 : (r / 2).testBit 31 = false := Nat.testBit_lt_two_pow (by omega)
  unfold crcBit
  by_cases ho : r % 2 = 1
  · rw [if_pos ho, Nat.testBit_xor, h1, decide_eq_true ho]; rfl
  · rw [if_neg ho, h1, decide_eq_false ho]
theorem xor_canc {a b c : Nat} (h : a ^^^ c = b ^^^ c) : a = b := by
  have := congrArg (· ^^^ c) h
  simpa [Nat.xor_assoc] using this
theorem crcBit_inj {r s : Nat} (hr : r < 4294967296) (hs : s < 4294967296) (h : crcBit r = crcBit s) : r = s := by
  have e := congrArg (fun x => x.testBit 31) h
  simp only [crcBit_top hr, crcBit_top hs] at e
  have hp : r % 2 = s % 2 := by
    have := decide_eq_decide.1 e
    omega
  have h2 : r / 2 = s / 2 := by
    unfold crcBit at h
    by_cases ho : r % 2 = 1
    · rw [if_pos ho, if_pos (by omega)] at h
      exact xor_canc h
    · rwa [if_neg ho, if_neg (by omega)] at h
  omega
theorem crcBits_inj {r s : Nat} (hr : r < 4294967296) (hs : s < 4294967296) : ∀ n, crcBits n r = crcBits n s → r = s
  | 0, h => h
  | n + 1, h => crcBits_inj hr hs n (crcBit_inj (crcBits_lt hr n) (crcBits_lt hs n) h)
theorem crcBits_xor (r s : Nat) : ∀ n, crcBits n (r ^^^ s) = crcBits n r ^^^ crcBits n s
  | 0 => rfl
  | n + 1 => by show crcBit _ = crcBit _ ^^^ crcBit _; rw [crcBits_xor r s n, crcBit_xor]
theorem crcBits_shift (s : Nat) : ∀ n, crcBits n (s * 2 ^ n) = s
  | 0 => by simp [crcBits]
  | n + 1 => by
    show crcBit (crcBits n (s * 2 ^ (n + 1))) = s
    rw [Nat.pow_succ, ← Nat.mul_assoc, Nat.mul_right_comm, crcBits_shift (s * 2) n]
    unfold crcBit
    rw [if_neg (by omega)]
    omega
theorem crcBits_add (r m : Nat) : ∀ n, crcBits (m + n) r = crcBits n (crcBits m r)
  | 0 => rfl
  | n + 1 => by show crcBit (crcBits (m + n) r) = crcBit _; rw [crcBits_add r m n]
/-- some bytes as a number, the least first -/
def leN : List UInt8 → Nat
  | [] => 0
  | b :: l => b.toNat + 256 * leN l
theorem leN_lt : ∀ l : List UInt8, leN l < 2 ^ (8 * l.length)
  | [] => by simp [leN]
  | b :: l => by
    have h := leN_lt l
    have hb := b.toNat_lt
    rw [List.length_cons, Nat.mul_add, Nat.pow_add]
    show b.toNat + 256 * leN l < _
    omega
theorem leN_inj : ∀ {l m : List UInt8}, l.length = m.length → leN l = leN m → l = m
  | [], [], _, _ => rfl
  | b :: l, c :: m, hl, h => by
    have h : b.toNat + 256 * leN l = c.toNat + 256 * leN m := h
    have hb := b.toNat_lt; have hc := c.toNat_lt
    have e1 : b.toNat = c.toNat := by omega
    have e2 : leN l = leN m := by omega
    rw [UInt8.toNat_inj.1 e1, leN_inj (by simpa using hl) e2]
theorem low_xor8 (q t : Nat) (h : t < 256) : t + 256 * q = t ^^^ (q * 256) := by
  refine Nat.eq_of_testBit_eq fun i => ?_
  rw [show t + 256 * q = 2 ^ 8 * q + t by omega, Nat.testBit_two_pow_mul_add _ (by simpa using h), Nat.testBit_xor, show q * 256 = 2 ^ 8 * q by omega, Nat.testBit_two_pow_mul]
  by_cases hi : i < 8
  · rw [if_pos hi, decide_eq_false (by omega)]; simp
  · rw [if_neg hi, decide_eq_true (by omega), Nat.testBit_lt_two_pow (x := t) (i := i) (Nat.lt_of_lt_of_le h (by rw [show 256 = 2 ^ 8 from rfl]; exact Nat.pow_le_pow_right (by decide) (by omega)))]; simp
theorem crcRun_bits : ∀ (l : List UInt8) (s : Nat), crcRun s l = crcBits (8 * l.length) (s ^^^ leN l)
  | [], s => by simp [crcRun, crcBits, leN]
  | b :: l, s => by
    have h1 : crcRun s (b :: l) = crcRun (crcByte s b) l := rfl
    have h2 : leN (b :: l) = b.toNat ^^^ (leN l * 256) := low_xor8 _ _ b.toNat_lt
    have h3 : crcBits 8 (leN l * 256) = leN l := crcBits_shift (leN l) 8
    rw [h1, crcRun_bits l, h2, List.length_cons, show 8 * (l.length + 1) = 8 + 8 * l.length by omega, crcBits_add, ← Nat.xor_assoc, crcBits_xor (s ^^^ b.toNat) (leN l * 256) 8, crcBits_eight, h3]
theorem crcBits_zero : ∀ n, crcBits n 0 = 0
  | 0 => rfl
  | n + 1 => by show crcBit (crcBits n 0) = 0; rw [crcBits_zero n]; rfl
theorem sub_xor32 {r : Nat} (h : r < 4294967296) : 4294967295 - r = 4294967295 ^^^ r := by
  refine Nat.eq_of_testBit_eq fun i => ?_
  have e := Nat.testBit_two_pow_sub_succ (x := r) (n := 32) h i
  rw [show 2 ^ 32 - (r + 1) = 4294967295 - r by omega] at e
  rw [e, Nat.testBit_xor, show 4294967295 = 2 ^ 32 - 1 from rfl, Nat.testBit_two_pow_sub_one]
  by_cases hi : i < 32
  · rw [decide_eq_true hi]; simp
  · rw [decide_eq_false hi, Nat.testBit_lt_two_pow (x := r) (i := i) (Nat.lt_of_lt_of_le (show r < 2 ^ 32 from h) (Nat.pow_le_pow_right (by decide) (by omega)))]; simp
end Go.By
namespace Go.Proofs.YtfbmdlfkipipfaaGreatDoor
open Go.RowKit Go.By
theorem get4_le {l : List UInt8} (h : l.length = 4) : get4 l = leN l := by
  match l, h with
  | [a, b, c, d], _ => simp [get4, leN]; omega
/-- what reads has a sum that fits -/
theorem read_run {k t D : Nat} {xs : List UInt8} (h : readC k t D xs = 0) : crcRun 4294967295 xs = crcBits 32 4294967295 := by
  have hh : headC xs = 0 := by
    unfold readC at h
    by_cases e : headC xs = 0
    · exact e
    · rw [if_pos e] at h; exact absurd h e
  have hl : 10 ≤ xs.length := by
    unfold headC at hh
    by_cases e : xs.length < 10
    · rw [if_pos e] at hh; exact absurd hh (by decide)
    · omega
  have hs : get4 ((xs.drop (xs.length - 4)).take 4) = crcS (xs.take (xs.length - 4)) := by
    unfold readC at h
    rw [if_neg (by simp [hh])] at h
    by_cases e1 : xs.length ≠ lenP (xs.getD 1 0) k t
    · rw [if_pos e1] at h; exact absurd h (by decide)
    rw [if_neg e1] at h
    by_cases e2 : get4 ((xs.drop (xs.length - 4)).take 4) ≠ crcS (xs.take (xs.length - 4))
    · rw [if_pos e2] at h; exact absurd h (by decide)
    · exact Classical.not_not.1 e2
  rw [List.take_of_length_le (by simp; omega), get4_le (by simp; omega)] at hs
  have e : xs = xs.take (xs.length - 4) ++ xs.drop (xs.length - 4) := (List.take_append_drop _ _).symm
  rw [e, crcRun_append, crcRun_bits (xs.drop (xs.length - 4)), hs]
  have hr : crcRun 4294967295 (xs.take (xs.length - 4)) < 4294967296 := crcRun_lt (by decide)
  unfold crcS
  rw [sub_xor32 hr, Nat.xor_comm 4294967295, ← Nat.xor_assoc, Nat.xor_self, Nat.zero_xor]
  congr 1
  simp; omega
/-- bits turned within 32 in a row are found -/
theorem burst_found {k t D : Nat} {xs ys : List UInt8} (hl : xs.length = ys.length) (h1 : readC k t D xs = 0) (h2 : readC k t D ys = 0) {x s : Nat} (hx : x < 4294967296) (e : leN xs ^^^ leN ys = x * 2 ^ s) : xs = ys := by
  have e1 := read_run h1
  have e2 := read_run h2
  rw [crcRun_bits] at e1 e2
  have e3 : crcBits (8 * xs.length) (leN xs ^^^ leN ys) = 0 := by
    have h3 : crcBits (8 * xs.length) (4294967295 ^^^ leN xs) ^^^ crcBits (8 * xs.length) (4294967295 ^^^ leN ys) = 0 := by
      rw [e1, hl, e2, Nat.xor_self]
    rw [← crcBits_xor] at h3
    rwa [show (4294967295 ^^^ leN xs) ^^^ (4294967295 ^^^ leN ys) = leN xs ^^^ leN ys by
      rw [Nat.xor_comm 4294967295 (leN xs), Nat.xor_assoc, ← Nat.xor_assoc 4294967295, Nat.xor_self, Nat.zero_xor]] at h3
  rw [e] at e3
  have h0 : x = 0 := by
    by_cases hs : s ≤ 8 * xs.length
    · have h4 : crcBits (8 * xs.length) (x * 2 ^ s) = crcBits (8 * xs.length - s) x := by
        conv => lhs; rw [show 8 * xs.length = s + (8 * xs.length - s) by omega]
        rw [crcBits_add, crcBits_shift]
      rw [h4] at e3
      exact crcBits_inj hx (by decide) _ (e3.trans (crcBits_zero _).symm)
    · have h5 : x * 2 ^ s < 2 ^ (8 * xs.length) := by
        rw [← e]
        exact Nat.xor_lt_two_pow (leN_lt xs) (by rw [hl]; exact leN_lt ys)
      have h6 : 2 ^ (8 * xs.length) ≤ 2 ^ s := Nat.pow_le_pow_right (by decide) (by omega)
      rcases Nat.eq_zero_or_pos x with h | h
      · exact h
      · have : 2 ^ s ≤ x * 2 ^ s := Nat.le_mul_of_pos_left _ h
        omega
  rw [h0, Nat.zero_mul] at e
  have : leN xs = leN ys := by
    have := congrArg (· ^^^ leN ys) e
    simpa [Nat.xor_assoc] using this
  exact leN_inj hl this
/-- one byte turned -/
theorem leN_set (c : UInt8) : ∀ (xs : List UInt8) (i : Nat) (h : i < xs.length), leN xs ^^^ leN (xs.set i (xs[i] ^^^ c)) = c.toNat * 2 ^ (8 * i)
  | b :: l, 0, h => by
    have h2 : leN (b :: l) = b.toNat ^^^ (leN l * 256) := low_xor8 _ _ b.toNat_lt
    have h3 : leN ((b ^^^ c) :: l) = (b ^^^ c).toNat ^^^ (leN l * 256) := low_xor8 _ _ (b ^^^ c).toNat_lt
    show leN (b :: l) ^^^ leN ((b ^^^ c) :: l) = c.toNat * 2 ^ (8 * 0)
    rw [h2, h3, UInt8.toNat_xor, Nat.xor_comm b.toNat (leN l * 256), Nat.xor_assoc, Nat.xor_comm (leN l * 256), ← Nat.xor_assoc b.toNat, ← Nat.xor_assoc b.toNat, Nat.xor_self, Nat.zero_xor, Nat.xor_assoc, Nat.xor_self, Nat.xor_zero]
    simp
  | b :: l, i + 1, h => by
    have ih := leN_set c l i (by simpa using h)
    have h2 : leN (b :: l) = b.toNat ^^^ (leN l * 256) := low_xor8 _ _ b.toNat_lt
    have h3 : leN (b :: l.set i (l[i]'(by simpa using h) ^^^ c)) = b.toNat ^^^ (leN (l.set i (l[i]'(by simpa using h) ^^^ c)) * 256) := low_xor8 _ _ b.toNat_lt
    show leN (b :: l) ^^^ leN (b :: l.set i (l[i]'(by simpa using h) ^^^ c)) = c.toNat * 2 ^ (8 * (i + 1))
    have h4 : ∀ u v : Nat, (u * 256) ^^^ (v * 256) = (u ^^^ v) * 256 := fun u v => by
      have := Nat.shiftLeft_xor_distrib (a := u) (b := v) (i := 8)
      simp [Nat.shiftLeft_eq] at this
      exact this.symm
    rw [h2, h3, Nat.xor_comm b.toNat (leN l * 256), Nat.xor_assoc, ← Nat.xor_assoc b.toNat, Nat.xor_self, Nat.zero_xor, h4, ih, Nat.mul_add 8, Nat.pow_add, Nat.mul_assoc]
theorem turned_found {k t D : Nat} {xs : List UInt8} {c : UInt8} {i : Nat} (hi : i < xs.length) (hc : c ≠ 0) (h1 : readC k t D xs = 0) : readC k t D (xs.set i (xs[i] ^^^ c)) ≠ 0 := fun h2 => by
  have e := burst_found (by simp) h1 h2 (Nat.lt_trans c.toNat_lt (by decide)) (leN_set c xs i hi)
  have e2 := congrArg (fun l => l[i]?) e
  simp only [List.getElem?_eq_getElem hi, List.getElem?_set_self hi] at e2
  injection e2 with e2
  apply hc
  have e3 : xs[i] ^^^ (xs[i] ^^^ c) = xs[i] ^^^ xs[i] := by rw [← e2]
  rwa [← UInt8.xor_assoc, UInt8.xor_self, UInt8.zero_xor] at e3
end Go.Proofs.YtfbmdlfkipipfaaGreatDoor
namespace Go.By
open Go.RowKit Go.Maps Go.Proofs.YtfbmdlfkipipfaaGreatDoor
/-- two rows that lie apart -/
def Dj (v u : Value) : Prop := ∀ g, v.ownBlock = some g → u.ownBlock ≠ some g
theorem Dj.symm {v u : Value} (h : Dj v u) : Dj u v := fun g h1 h2 => h g h2 h1
theorem Dj.nil (u : Value) : Dj (.slice none 0 0) u := fun g h => by cases h
/-- one that grew -/
theorem Dj.grew {v u v' : Value} {n : Nat} (h : Dj v u) (hv : v'.ownBlock = v.ownBlock ∨ v'.ownBlock = some n) (hu : ∀ g, u.ownBlock = some g → g < n) : Dj v' u := fun g h1 h2 => by
  rcases hv with e | e
  · exact h g (e ▸ h1) h2
  · rw [e] at h1; cases h1; exact absurd (hu _ h2) (Nat.lt_irrefl _)
theorem HdrF.lt {T2 T1 B n : Nat} {w : World} {v : Value} {xss : List (List UInt8)} (h : HdrF T2 T1 B w v n xss) : ∀ g, v.ownBlock = some g → g < w.heap.size := by
  obtain ⟨vs, o, _⟩ := h
  exact fun g hg => (o.lt g hg).2
theorem HdrF.other {T2 T1 B n : Nat} {w w' : World} {v : Value} {row : Option Nat} {xss : List (List UInt8)} (h : HdrF T2 T1 B w v n xss) (hg : w.grownBy w' row) (hne : ∀ g, v.ownBlock = some g → row ≠ some g) (h1 : ∀ (b : Nat) (cs : Array Value) (fr : Nat × Nat), w.heap[b]? = some (.cells cs T1 fr) → w'.heap[b]? = w.heap[b]?) : HdrF T2 T1 B w' v n xss := by
  obtain ⟨vs, o, l, r⟩ := h
  refine ⟨vs, owns_same o hg.size fun g hg2 => ?_, l, fun j u hj => ?_⟩
  · exact hg.block g (o.lt g hg2).2 (fun e => hne g hg2 e.symm)
  · obtain ⟨q, m, c, xs, e, hx, hf⟩ := r j u hj
    exact ⟨q, m, c, xs, e, hx, fresh_same hf h1⟩
theorem HdrF.at {T2 T1 B n : Nat} {w : World} {q : Option Addr} {c : Nat} {xss : List (List UInt8)} (h : HdrF T2 T1 B w (.slice q n c) n xss) {j : Nat} (hj : j < n) : ∃ b o p m d xs, q = some ⟨b, o, none⟩ ∧ w.cell? ⟨b, o + j, none⟩ = some (.slice p m d) ∧ Hid (xss[j]? = some xs) ∧ Fresh T1 B w p m d xs := by
  obtain ⟨b, o, p, m, d, xs, e, hc, _, hx⟩ := h.sl2.at j hj
  obtain ⟨vs, ow, l, r⟩ := h
  have hl : vs.length = n := owns_len ow
  obtain ⟨p', m', d', xs', e1, hx', hf⟩ := r j vs[j] (List.getElem?_eq_getElem (by omega))
  have hx := hx.out
  rw [hx'] at hx; cases hx
  refine ⟨b, o, p, m, d, xs, e, hc, hx', ?_⟩
  have hc2 : w.cell? ⟨b, o + j, none⟩ = some (.slice p' m' d') := by
    rcases ow.2 with ⟨h2, _⟩ | ⟨g, cap, cur, hv, _⟩
    · cases h2; cases e
    · cases hv; cases e
      have h3 := ow.cellAt j (by omega)
      rw [Nat.zero_add, h3, List.getElem?_eq_getElem (by omega), e1]
  rw [hc2] at hc; cases hc
  exact hf
/-- a slice of so many -/
def LenIs (n : Nat) (v : Value) (_w : World) : Prop := ∃ q c, v = .slice q n c
def ShLen (n : Nat) : Shp := ⟨LenIs n, fun _ _ _ h _ => h⟩
/-- an owned row of bytes of which one is written -/
theorem own_set {w : World} {base T g n c i : Nat} {xs : List UInt8} (h : w.ownsRow base T 1 (.slice (some ⟨g, 0, none⟩) n c) n (xs.map B8)) (hi : i < n) (x : UInt8) :
    w.cell? ⟨g, i, none⟩ = some (B8 (xs.getD i 0)) ∧ w.frozen? ⟨g, i, none⟩ = false ∧ Sl B8 (w.setCell ⟨g, i, none⟩ (B8 x)) (some ⟨g, 0, none⟩) n c (xs.set i x) ∧ base ≤ g := by
  have hl : xs.length = n := by simpa using h.1
  have hc := h.cellAt i (by omega)
  rcases h.2 with ⟨h2, _⟩ | ⟨g', cap, cur, hv, hb, hh, h3, h4, h5, h6⟩
  · cases h2
  · cases hv
    refine ⟨?_, frozen_of_row _ _ i _ _ hh, ⟨by simp [hl], h3, h4, fun e => (by cases e), fun j hj => ⟨g, 0, rfl, ?_⟩⟩, hb⟩
    · rw [hc, List.getElem?_map, List.getD_eq_getElem?_getD, List.getElem?_eq_getElem (by omega)]; rfl
    · rw [Nat.zero_add, cell_of_row _ _ j _ _ _ (hss (i := i) (v := B8 x) hh)]
      have hjn : j < n := by simpa [hl] using hj
      rw [Array.getElem?_setIfInBounds]
      by_cases e : i = j
      · subst e
        rw [if_pos rfl, if_pos (by omega)]; simp
      · rw [if_neg e]
        have h7 : cur[j]? = (xs.map B8)[j]? := by
          rw [← h6, List.getElem?_take_of_lt (by omega)]; simp
        rw [h7, List.getElem?_map, List.getElem?_eq_getElem (by omega)]
        simp [List.getElem_set, e]
theorem os_src : OthS 66 := ⟨by decide, by decide, by decide, by decide⟩
end Go.By
namespace Go.Proofs.YtfbmdlfkipipfaaGreatDoor
open Go.RowKit Go.By Gf Go.Maps
def OwnsH (W : World) (B T : Nat) (v : Value) (n : Nat) : Prop := ∃ ys, W.ownsRow B T 1 v n ys
/-- append(rows, x) -/
theorem wpList_hdr {ops : Array Oper} {rest : List Oper} {o : Oper} {a : Act} {W : World} {Q : Exit → Act → World → Prop} (hgd : o.guard = none) (s x : Operand) (ho : o.op = .call { callee := .builtin .append, args := #[s, x], argTypes := #[31, 31] })
    (B n : Nat) (v : Value) (xss : List (List UInt8)) (hs : a.eval s = v) (hH : HdrF 22 5 B W v n xss) (hn : n ≤ 1000000) (hB : B ≤ W.heap.size)
    (g : Nat) (hx : a.eval x = .slice (some ⟨g, 0, none⟩) 1 1) (q : Option Addr) (m c : Nat) (fr : Nat × Nat) (xs : List UInt8) (hg : W.heap[g]? = some (.cells #[.slice q m c] 22 fr)) (hF : Fresh 5 B W q m c xs)
    (h : ∀ v' W', HdrF 22 5 B W' v' (n + 1) (xss ++ [xs]) → OwnsH W B 22 v n → W.grownBy W' v.ownBlock → (v'.ownBlock = v.ownBlock ∨ v'.ownBlock = some W.heap.size) → wpList Tryz.prog ops Q rest (a.put o.dst v') W') : wpList Tryz.prog ops Q (o :: rest) a W := by
  obtain ⟨i0, hi0, hz0, hz1, hz2⟩ := info_parts info_bytesC
  obtain ⟨vs, ho1, hl, hr⟩ := hH
  refine wpList_append_where W hgd s x 31 ho B 22 i0 (.slice none 0 0) 1 24 Tryz.underlying31 hi0 hz0 hz1 hz2 rfl (by decide) v n vs hs ho1 ⟨g, 0, none⟩ 1 1 [.slice q m c] hx rfl (news_one hg) ones_one (by unfold maxLen; omega) (by omega) hB (by decide) ?_
  intro v' W' h1 h2 h3
  refine h v' W' (HdrF.push (v := v) h1 (by simpa using ho1.1) hl hr hF fun b cs fr hb => ?_) ⟨vs, ho1⟩ h2 h3
  rcases ho1.2 with ⟨e1, _⟩ | ⟨g', cap, cur, e1, _, hh, _⟩
  · exact h2.block b (lt_of_block hb) (fun e => by rw [e1] at e; cases e)
  · refine h2.block b (lt_of_block hb) (fun e => ?_)
    rw [e1] at e; cases e
    rw [hh] at hb; injection hb with hb; injection hb with _ hb _; exact absurd hb (by decide)
/-- what was sent by a source, and its vector: nothing, or a packet of the object -/
def SentV (k t D : Nat) (FX : List (List UInt8)) (x y : List UInt8) : Prop := (x = [] ∧ y = []) ∨ (readC k t D x = 0 ∧ eqX k t x = rowC t FX y ∧ y.length = k)
/-- what is sent by a source -/
def sentX (D nx : Nat) (k : Nat) (FX : List (List UInt8)) (m : UInt8) (j s : Nat) (xs : List UInt8) : List UInt8 := if srcC m j k = 0 then pktB m D nx xs s (combS (vecS m xs s k) FX).1 else []
def vecX (k : Nat) (m : UInt8) (j s : Nat) (xs : List UInt8) : List UInt8 := if srcC m j k = 0 then vecS m xs s k else []
def nextX (nx k : Nat) (m : UInt8) (j : Nat) : Nat := if srcC m j k = 0 then nx + 1 else nx
theorem nextX_le (nx k : Nat) (m : UInt8) (j : Nat) : nextX nx k m j ≤ nx + 1 := by unfold nextX; split <;> omega
theorem sentX_ok {k t D nx s j : Nat} {m : UInt8} {xs : List UInt8} {FX : List (List UInt8)} (hF : ∀ x, x ∈ FX → x.length = t) (hk : FX.length = k) (k1 : 1 ≤ k) (hj : xs.length = j) (hs : s < 18446744073709551616) (hD : D < 4294967296) (hn : nx < 4294967296) : SentV k t D FX (sentX D nx k FX m j s xs) (vecX k m j s xs) := by
  unfold sentX vecX
  by_cases hm : srcC m j k = 0
  · rw [if_pos hm, if_pos hm]
    have := sent_eq (k := k) (t := t) (D := D) (n := nx) (s := s) (m := m) (xs := xs) hF hk k1 (by rw [hj]; exact hm) hs hD hn
    exact .inr ⟨this.1, this.2, vecS_len hm hj⟩
  · rw [if_neg hm, if_neg hm]; exact .inl ⟨rfl, rfl⟩
section
variable {wI w0 w w' : World} {gs gt be base L t k D nx N st : Nat} {FX : List (List UInt8)} {v : Value} {K : List Rw}
/-- the sender is asked to send by a source -/
theorem ST_sendA (h : ST wI w0 w gs gt be base L t k D FX nx N v K st) (hT : HalfT wI) (hnx : nx < 4294967296) {m : UInt8} {p : Option Addr} {j c s : Nat} {xs : List UInt8} (hs : Sl B8 w p j c xs) (hr : Room j) :
    Calls Tryz.prog 31 #[.pointer (some ⟨gs, 0, none⟩), SVal m p j c s] w fun e w' => ∃ q n c', e = .returned (.tuple #[.slice q n c', .int .i64 (srcC m j k)]) ∧ Fresh 5 w.heap.size w' q n c' (sentX D nx k FX m j s xs) ∧ ST wI w0 w' gs gt be base L t k D FX (nextX nx k m j) N v K st ∧ KeepS w w' := by
  unfold sentX nextX
  by_cases hm : srcC m j k = 0
  · rw [if_pos hm, if_pos hm, hm]
    exact ST_send h hT hnx hm hs hr
  · rw [if_neg hm, if_neg hm]
    refine Calls.mono (SSend_bad gs L t k D nx FX m p j c s xs w h.snd.snd hnx hm hs hr) ?_
    rintro e w1 ⟨rfl, hb⟩
    exact ⟨none, 0, 0, rfl, Fresh.none _ _ _, h.keep hb, KeepS.of hb⟩
end
/-- a take of a packet of the object, or of nothing -/
theorem OneObj.takeV {k t D : Nat} {FX : List (List UInt8)} {X K : List Rw} {x y : List UInt8} (h : OneObj k t FX X K) (hF : ∀ x, x ∈ FX → x.length = t) (hk : FX.length = k) (hr : readC k t D x = 0) (he : eqX k t x = rowC t FX y) (hy : y.length = k) :
    OneObj k t FX (X ++ [rowC t FX y]) (takeK k t D K (stF K k) x) ∧ takeS k t D K (stF K k) x = stF (takeK k t D K (stF K k) x) k := by
  obtain ⟨e3, e4⟩ := rowC_ok (k := k) hF hk hy
  have e3' := e3; have e4' := e4
  rw [← he] at e3' e4'
  obtain ⟨t1, t2⟩ := h.take e3' e4' hr
  rw [t1, t2, he]
  exact ⟨h.put e3 e4, rfl⟩
end Go.Proofs.YtfbmdlfkipipfaaGreatDoor
namespace Go.By
open Go.RowKit
theorem byte_of_wf {a : Int} (h : (Lit.int .u8 a).wf = true) : ∃ x : UInt8, Value.int .u8 a = B8 x ∧ a = (x.toNat : Int) := by
  have hb := bounds_u8 h
  have e : a = ((UInt8.ofNat a.toNat).toNat : Int) := by simp; omega
  exact ⟨UInt8.ofNat a.toNat, B8_congr e, e⟩
theorem sl_of_row {w : World} {a : Option Addr} {len cap : Nat} {zs : List Int}
    (h : (a = none ∧ len = 0 ∧ cap = 0 ∧ zs = []) ∨ ∃ x, a = some x ∧ len ≤ cap ∧ cap ≤ maxLen ∧ zs.length = cap ∧ (∀ i, i < zs.length → w.cell? (x.add i) = some (.int .u8 (zs.getD i 0))) ∧ ∀ n ∈ zs, (Lit.int .u8 n).wf = true) :
    ∃ xs, Sl B8 w a len cap xs := by
  rcases h with ⟨rfl, rfl, rfl, _⟩ | ⟨x, rfl, hl, hm, hz, hc, hw⟩
  · exact ⟨[], Sl.nil0 _ _⟩
  · refine ⟨(zs.take len).map fun z => UInt8.ofNat z.toNat, ⟨by simp; omega, hl, hm, fun h => by simp at h, ?_⟩⟩
    intro i hi
    have hi' : i < zs.length := by simp at hi; omega
    obtain ⟨b, o, hx, hc'⟩ := ints_at hc (by omega)
    refine ⟨b, o, by rw [hx], ?_⟩
    have hh := hc i hi'
    rw [hx, Addr.add_lit] at hh
    rw [hh]
    have e : zs.getD i 0 = zs[i] := by simp [hi']
    rw [e]
    have hb := bounds_u8 (hw _ (List.getElem_mem hi'))
    simp
    omega
end Go.By
namespace Go.Proofs.YtfbmdlfkipipfaaGreatDoor
open Go.RowKit Go.By Go.ChangeShapes Go.WideShapes Go.Deep
section
variable {H : Type} {enc : TypeId × Value → H} {P : Program} {w : World} {base : Nat} {held : Bool}
theorem open_bytes1 {t q : TypeId} {fuel : Nat} {c4 : Value} {x : DataW H × List MemPlace} (h4 : P.underlying t = some (.slice q)) (hq : P.underlying q = some (.int .u8)) (cq : P.cellsOf q = 1) (g4 : DataW.trod enc P w base (fun _ => true) held fuel t [c4] = some x) : ∃ p m c bs, c4 = .slice p m c ∧ Sl B8 w p m c bs := by
  rcases open_ints h4 hq cq g4 with ⟨hcs, _⟩ | ⟨x, l, c, zs, hcs, _, hl, hm, hz, _, hcell, hwz⟩
  · simp at hcs
    exact ⟨none, 0, 0, [], hcs, Sl.nil0 _ _⟩
  · simp at hcs
    obtain ⟨xs, hx⟩ := sl_of_row (.inr ⟨_, rfl, hl, hm, by simpa using hz, hcell, hwz⟩)
    exact ⟨_, _, _, xs, hcs, hx⟩
end
end Go.Proofs.YtfbmdlfkipipfaaGreatDoor
namespace Go.By
open Go.RowKit
/-- a source -/
structure SrcD where
  m : UInt8
  xs : List UInt8
  s : Nat
/-- sources in memory -/
structure SlS (w : World) (p : Option Addr) (n c : Nat) (by_ : List SrcD) : Prop where
  len : by_.length = n
  max : c ≤ maxLen
  le : n ≤ c
  rs : ∀ k a, by_[k]? = some a → ∃ b o q j c', p = some ⟨b, o, none⟩ ∧ w.cell? ⟨b, o + k * 3, none⟩ = some (B8 a.m) ∧ w.cell? ⟨b, o + k * 3 + 1, none⟩ = some (.slice q j c') ∧ w.cell? ⟨b, o + k * 3 + 2, none⟩ = some (.int .u64 (a.s : Nat)) ∧ Sl B8 w q j c' a.xs ∧ a.s < 18446744073709551616
theorem SlS.keep {w w' : World} {p : Option Addr} {n c : Nat} {l : List SrcD} (h : SlS w p n c l) (hb : Below w.heap.size w w') : SlS w' p n c l :=
  ⟨h.len, h.max, h.le, fun k a hk => by
    obtain ⟨b, o, q, j, c', hp, h0, h1, h2, h3, h4⟩ := h.rs k a hk
    have hlt := lt_of_cell h0
    exact ⟨b, o, q, j, c', hp, (hb.cell (p := ⟨b, o + k * 3, none⟩) hlt).trans h0, (hb.cell (p := ⟨b, o + k * 3 + 1, none⟩) hlt).trans h1, (hb.cell (p := ⟨b, o + k * 3 + 2, none⟩) hlt).trans h2, h3.keep hb, h4⟩⟩
theorem SlS.bound {w : World} {p : Option Addr} {n c : Nat} {l : List SrcD} (h : SlS w p n c l) : n ≤ 9223372036854775807 := by have := h.le; have := h.max; unfold maxLen at this; omega
theorem SlS.at {w : World} {p : Option Addr} {n c : Nat} {l : List SrcD} (h : SlS w p n c l) {i : Nat} (hi : i < n) : ∃ b o q j c' a, p = some ⟨b, o, none⟩ ∧ Hid (l[i]? = some a) ∧ w.cell? ⟨b, o + i * 3, none⟩ = some (B8 a.m) ∧ w.cell? ⟨b, o + i * 3 + 1, none⟩ = some (.slice q j c') ∧ w.cell? ⟨b, o + i * 3 + 2, none⟩ = some (.int .u64 (a.s : Nat)) ∧ Sl B8 w q j c' a.xs ∧ a.s < 18446744073709551616 := by
  have e : l[i]? = some (l[i]'(by rw [h.len]; exact hi)) := List.getElem?_eq_getElem _
  obtain ⟨b, o, q, j, c', hp, r⟩ := h.rs i _ e
  exact ⟨b, o, q, j, c', _, hp, e, r⟩
end Go.By
namespace Go.Proofs.YtfbmdlfkipipfaaGreatDoor
open Go.RowKit Go.By Go.ChangeShapes Go.WideShapes Go.Deep
section
variable {H : Type} {enc : TypeId × Value → H} {P : Program} {w : World} {base : Nat} {held : Bool}
theorem trod_struct3 {t : TypeId} {f0 f1 f2 : Field} {fuel : Nat} {cs : List Value} {x : DataW H × List MemPlace} {spare : Nat → Bool} (ht : P.underlying t = some (.struct #[f0, f1, f2])) (h : DataW.trod enc P w base spare held fuel t cs = some x) :
    ∃ y0 y1 y2 n, cs.length = P.cellsOf t ∧ DataW.trod enc P w base spare held n f0.type ((cs.drop f0.offset).take (P.cellsOf f0.type)) = some y0 ∧
      DataW.trod enc P w base spare held n f1.type ((cs.drop f1.offset).take (P.cellsOf f1.type)) = some y1 ∧ DataW.trod enc P w base spare held n f2.type ((cs.drop f2.offset).take (P.cellsOf f2.type)) = some y2 := by
  obtain ⟨xs, n, _, rfl, hl, hlen, hf⟩ := DataW.trod_struct ht h
  match xs, hlen with
  | [y0, y1, y2], _ => exact ⟨y0, y1, y2, n, hl, by simpa using hf 0 f0 rfl, by simpa using hf 1 f1 rfl, by simpa using hf 2 f2 rfl⟩
theorem list3 {α : Type} {cs : List α} (h : cs.length = 3) : ∃ c0 c1 c2, cs = [c0, c1, c2] := by
  match cs, h with
  | [c0, c1, c2], _ => exact ⟨c0, c1, c2, rfl⟩
/-- one source, cell by cell -/
theorem open_src {t q : TypeId} {f0 f1 f2 : Field} {fuel : Nat} {cs : List Value} {x : DataW H × List MemPlace} (ht : P.underlying t = some (.struct #[f0, f1, f2])) (hone : oneCellFields P #[f0, f1, f2] = true) (hC : P.cellsOf t = 3)
    (h0 : P.underlying f0.type = some (.int .u8)) (h1 : P.underlying f1.type = some (.slice q)) (h2 : P.underlying f2.type = some (.int .u64)) (hq : P.underlying q = some (.int .u8)) (cq : P.cellsOf q = 1)
    (h : DataW.trod enc P w base (fun _ => true) held fuel t cs = some x) :
    ∃ (a : SrcD) (p : Option Addr) (m c : Nat), cs = [B8 a.m, .slice p m c, .int .u64 (a.s : Nat)] ∧ Sl B8 w p m c a.xs ∧ a.s < 18446744073709551616 := by
  obtain ⟨y0, y1, y2, n, hl, g0, g1, g2⟩ := trod_struct3 ht h
  obtain ⟨c0, c1, c2, rfl⟩ := list3 (hl.trans hC)
  obtain ⟨o0, k0⟩ := hone_of hone 0 f0 rfl
  obtain ⟨o1, k1⟩ := hone_of hone 1 f1 rfl
  obtain ⟨o2, k2⟩ := hone_of hone 2 f2 rfl
  rw [o0, k0] at g0; rw [o1, k1] at g1; rw [o2, k2] at g2
  obtain ⟨d, e0, -, w0⟩ := DataW.trod_int h0 g0
  obtain ⟨p, m, c, bs, e1, hs⟩ := open_bytes1 h1 hq cq g1
  obtain ⟨s, e2, -, w2⟩ := DataW.trod_int h2 g2
  have b0 : 0 ≤ d ∧ d ≤ 255 := by
    simp [Lit.wf, IntKind.min, IntKind.max, IntKind.signed, IntKind.bits] at w0
    omega
  have b2 : 0 ≤ s ∧ s ≤ 18446744073709551615 := by
    simp [Lit.wf, IntKind.min, IntKind.max, IntKind.signed, IntKind.bits] at w2
    omega
  obtain ⟨sn, rfl⟩ := Int.eq_ofNat_of_zero_le b2.1
  obtain ⟨xd, hxd, -⟩ := byte_of_wf w0
  simp at e0 e2
  subst e0; subst e1; subst e2

  exact ⟨⟨xd, bs, sn⟩, p, m, c, by show [_, _, _] = [B8 xd, _, _]; rw [hxd], hs, by show sn < 18446744073709551616; have := b2.2; omega⟩
theorem open_srcs {t e q : TypeId} {f0 f1 f2 : Field} {fuel : Nat} {cs : List Value} {x : DataW H × List MemPlace} (ht : P.underlying t = some (.slice e)) (he : P.underlying e = some (.struct #[f0, f1, f2])) (hone : oneCellFields P #[f0, f1, f2] = true) (hC : P.cellsOf e = 3)
    (h0 : P.underlying f0.type = some (.int .u8)) (h1 : P.underlying f1.type = some (.slice q)) (h2 : P.underlying f2.type = some (.int .u64)) (hq : P.underlying q = some (.int .u8)) (cq : P.cellsOf q = 1)
    (h : DataW.trod enc P w base (fun _ => true) held fuel t cs = some x) : ∃ p n c l, cs = [.slice p n c] ∧ SlS w p n c l := by
  rcases open_slice ht h with ⟨hcs, _⟩ | ⟨a, len, cap, m, n, D, Pl, rfl, hb, hl, hm, hmm, rfl, hx⟩
  · exact ⟨none, 0, 0, [], hcs, ⟨rfl, by simp [maxLen], Nat.le_refl _, fun k a hk => by simp at hk⟩⟩
  simp only [if_true] at hmm
  have hmm' := hmm.symm
  subst hmm'
  have hsp : 0 < len → a.spot = none := fun h => by
    obtain ⟨cs', hc, htr⟩ := hx 0 (by omega)
    obtain ⟨y, p, m', c', rfl, -⟩ := open_src he hone hC h0 h1 h2 hq cq htr
    obtain ⟨_, _, hcell⟩ := World.cells?_some hc
    have z0 := hcell 0 (by omega)
    simpa [Addr.add] using World.cell?_spot (z0.trans rfl)
  have each : ∀ k, k < len → ∃ y : SrcD, ∃ b o q j c', a = ⟨b, o, none⟩ ∧ w.cell? ⟨b, o + k * 3, none⟩ = some (B8 y.m) ∧ w.cell? ⟨b, o + k * 3 + 1, none⟩ = some (.slice q j c') ∧ w.cell? ⟨b, o + k * 3 + 2, none⟩ = some (.int .u64 (y.s : Nat)) ∧ Sl B8 w q j c' y.xs ∧ y.s < 18446744073709551616 := by
    intro k hk
    obtain ⟨cs', hc, htr⟩ := hx k (by omega)
    obtain ⟨y, p, m', c', rfl, hs, hb1⟩ := open_src he hone hC h0 h1 h2 hq cq htr
    obtain ⟨_, _, hcell⟩ := World.cells?_some hc
    rw [hC] at hcell
    obtain ⟨b, o, spot⟩ := a
    have z0 := hcell 0 (by omega)
    have hspot : spot = none := hsp (by omega)
    subst hspot
    have z1 := hcell 1 (by omega); have z2 := hcell 2 (by omega)
    simp only [add_plain] at z0 z1 z2
    exact ⟨y, b, o, p, m', c', rfl, z0, z1, z2, hs, hb1⟩
  obtain ⟨f, hf⟩ : ∃ f : Nat → SrcD, ∀ k, k < len → ∃ b o q j c', a = ⟨b, o, none⟩ ∧ w.cell? ⟨b, o + k * 3, none⟩ = some (B8 (f k).m) ∧ w.cell? ⟨b, o + k * 3 + 1, none⟩ = some (.slice q j c') ∧ w.cell? ⟨b, o + k * 3 + 2, none⟩ = some (.int .u64 ((f k).s : Nat)) ∧ Sl B8 w q j c' (f k).xs ∧ (f k).s < 18446744073709551616 :=
    ⟨fun k => if hk : k < len then Classical.choose (each k hk) else ⟨0, [], 0⟩, fun k hk => by simp only [dif_pos hk]; exact Classical.choose_spec (each k hk)⟩
  refine ⟨some a, len, cap, (List.range len).map f, rfl, ⟨by simp, hm, hl, fun k y hk => ?_⟩⟩
  rw [List.getElem?_map] at hk
  cases hr : (List.range len)[k]? with
  | none => rw [hr] at hk; simp at hk
  | some k' =>
    rw [hr] at hk
    obtain ⟨hk1, hk2⟩ := List.getElem?_eq_some_iff.1 hr
    simp at hk1 hk2 hk
    subst hk2; subst hk
    obtain ⟨b, o, q, j, c', e, r⟩ := hf k hk1
    exact ⟨b, o, q, j, c', by rw [e], r⟩
end
end Go.Proofs.YtfbmdlfkipipfaaGreatDoor
namespace Go.Proofs.YtfbmdlfkipipfaaGreatDoor
open Go.RowKit Go.By
/-- a plan is gone through here: none that may be, or a small one -/
def small19 (l s n : Int) : Bool := if checkS l s n = 0 then decide (n ≤ 12) && decide (s ≤ 20) else true
set_option maxRecDepth 100000 in
set_option maxHeartbeats 1000000 in
theorem Small19_any (l s n d : Int) (w : World) (hl2 : l ≤ 9223372036854775807) :
    Calls Tryz.prog 29 #[.agg #[.int .i64 l, .int .i64 s, .int .i64 n, .int .u32 d]] w fun e w' => e = .returned (.bool (small19 l s n)) ∧ Below w.heap.size w w' := by
  have HC := Lib.hid (fun w => Check_any l s n d w hl2)
  have HS : Hid (small19 l s n = if checkS l s n = 0 then decide (n ≤ 12) && decide (s ≤ 20) else true) := rfl
  generalize small19 l s n = R at *
  generalize checkS l s n = C at *
  by_cases hc : C = 0
  · subst hc
    by_cases hn : n ≤ 12
    · by_cases hs : s ≤ 20
      · have HR : Hid (R = true) := by show _ = _; rw [HS.out, if_pos rfl, decide_eq_true hn, decide_eq_true hs]; rfl
        clear HS
        go_enter Tryz.func29, Tryz.ntmps29
        go_wp2_with fail
        refine Calls.mono (HC.out _) ?_
        rintro e w1 ⟨rfl, hb⟩
        obtain ⟨hb1, h1, hsz⟩ := one_of hb
        obtain ⟨c0, c1, c2, c3⟩ := cells_four h1
        have HB := Lib.hid hb1
        clear hb hb1
        go_wp2
        go_ret
        exact ⟨by rw [HR.out]; first | rfl | (simp only [decide_eq_true hs]; rfl), HB.out⟩
      · have hs' : ¬ s ≤ 20 := by omega
        have HR : Hid (R = false) := by show _ = _; rw [HS.out, if_pos rfl, decide_eq_true hn, decide_eq_false hs']; rfl
        clear HS
        go_enter Tryz.func29, Tryz.ntmps29
        go_wp2_with fail
        refine Calls.mono (HC.out _) ?_
        rintro e w1 ⟨rfl, hb⟩
        obtain ⟨hb1, h1, hsz⟩ := one_of hb
        obtain ⟨c0, c1, c2, c3⟩ := cells_four h1
        have HB := Lib.hid hb1
        clear hb hb1
        go_wp2
        go_ret
        exact ⟨by rw [HR.out]; first | rfl | (simp only [show decide (s ≤ 20) = false from decide_eq_false (by omega)]; rfl), HB.out⟩
    · have HR : Hid (R = false) := by show _ = _; rw [HS.out, if_pos rfl, decide_eq_false hn]; rfl
      clear HS
      go_enter Tryz.func29, Tryz.ntmps29
      go_wp2_with fail
      refine Calls.mono (HC.out _) ?_
      rintro e w1 ⟨rfl, hb⟩
      obtain ⟨hb1, h1, hsz⟩ := one_of hb
      obtain ⟨c0, c1, c2, c3⟩ := cells_four h1
      have HB := Lib.hid hb1
      clear hb hb1
      go_wp2
      go_ret
      exact ⟨by rw [HR.out]; rfl, HB.out⟩
  · have hz : (C != 0) = true := bne_iff_ne.2 hc
    have HR : Hid (R = true) := by show _ = _; rw [HS.out, if_neg hc]
    clear HS hc
    go_enter Tryz.func29, Tryz.ntmps29
    go_wp2_with fail
    refine Calls.mono (HC.out _) ?_
    rintro e w1 ⟨rfl, hb⟩
    obtain ⟨hb1, h1, hsz⟩ := one_of hb
    have HB := Lib.hid hb1
    clear hb hb1
    go_wp2
    go_ret
    exact ⟨by rw [HR.out]; rfl, HB.out⟩
end Go.Proofs.YtfbmdlfkipipfaaGreatDoor
