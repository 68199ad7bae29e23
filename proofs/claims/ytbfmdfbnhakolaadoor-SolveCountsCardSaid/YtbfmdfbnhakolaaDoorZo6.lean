/- The contract of the reference's Known of chapter 8. The law's Same and Fit of chapter 8. A system's Rows and Clone. A system's Clone. A system's Solve. What a system's Put leaves as it is; Put of an equation that fits, and the reference's, whatever comes of it. Plain laws of GridTells: rows and what they are joined; a unit's bytes. GridTells: the walk, no unit. The walk of the grid's Inverse. Plain laws of GridReckons: rows and their vectors, products, columns, the inverse. The contract of the reference's Mul. GridTells: the walk, no grid, a unit. GridTells: the walk, a grid, a unit. GridTells: the walk, whole. What the laws of grids carry along from call to call. The contract of the reference's without. The contract of the reference's Det. Plain laws of GridRanks: ranks of turned grids and products, determinants, inverses of inverses. Plain law of ElimSolves: equations that symbols solve. Where equations first clash: plain law. Numbers by their digits: plain laws of layer 6. Numbers by their digits: one digit more, one digit set, sums and products step by step, which is greater. Numbers as texts of base 16, and as trimmed bytes: plain laws. Numbers told by texts of base 16, by bytes, by words: plain laws. One step of a product by hand; texts cut into words. How many bytes a number needs; trimmed bytes: plain laws. Numbers in memory; made, Of. -/
import Derived.Test.YtbfmdfbnhakolaaDoorZo5
import Derived.OpenShut
import Derived.WalkKit
import Derived.Lib.ItoaNum
import Derived.Test.YtbfmdfbnhakolaaDoorProg
import Derived.BigQuiet
import Derived.Deep.QuietTactic
import Derived.WalkLawsBesides
import Derived.WalkSpells
import Derived.Lib.Hide
import Derived.Shelf.Abstract
import Derived.Laws.ResultCell
import Derived.Laws.Rows
namespace Go.By
open Go.RowKit
/-- how many bytes are not 0 -/
def cntS (v : List UInt8) : Nat := v.countP (fun x => decide (x ≠ 0))
theorem cnt_take {v : List UInt8} {j : Nat} {b : UInt8} (h : v[j]? = some b) : cntS (v.take (j + 1)) = cntS (v.take j) + if b ≠ 0 then 1 else 0 := by
  unfold cntS
  rw [List.take_add_one, h, List.countP_append]
  show _ + List.countP _ [b] = _
  rw [List.countP_singleton]
  simp only [decide_eq_true_eq]
theorem cnt_le (v : List UInt8) (j : Nat) : cntS (v.take j) ≤ j := Nat.le_trans List.countP_le_length (by rw [List.length_take]; exact Nat.min_le_left _ _)
theorem cnt_one {v : List UInt8} {l : Nat} {a : UInt8} (h : v[l]? = some a) (ha : a ≠ 0) (hc : cntS v = 1) {j : Nat} {b : UInt8} (hj : v[j]? = some b) (hne : j ≠ l) : b = 0 := by
  obtain ⟨hl, e⟩ := List.getElem?_eq_some_iff.1 h
  have hv : v = v.take l ++ a :: v.drop (l + 1) := by rw [← e, List.getElem_cons_drop hl, List.take_append_drop]
  have h2 : List.countP (fun x : UInt8 => decide (x ≠ 0)) (v.take l) + (List.countP (fun x : UInt8 => decide (x ≠ 0)) (v.drop (l + 1)) + 1) = 1 := by
    have h3 := hc
    unfold cntS at h3
    rw [hv, List.countP_append, List.countP_cons, if_pos (by simpa using ha)] at h3
    exact h3
  have h0 : ∀ x, x ∈ v.take l ∨ x ∈ v.drop (l + 1) → x = 0 := fun x hx => by
    rcases hx with hx | hx
    · have := List.countP_eq_zero.1 (show List.countP (fun x : UInt8 => decide (x ≠ 0)) (v.take l) = 0 by omega) x hx
      simpa using this
    · have := List.countP_eq_zero.1 (show List.countP (fun x : UInt8 => decide (x ≠ 0)) (v.drop (l + 1)) = 0 by omega) x hx
      simpa using this
  refine h0 b ?_
  rcases Nat.lt_or_ge j l with g | g
  · exact .inl (List.mem_of_getElem? (i := j) (by rw [List.getElem?_take, if_pos g]; exact hj))
  · exact .inr (List.mem_of_getElem? (i := j - (l + 1)) (by rw [List.getElem?_drop, show l + 1 + (j - (l + 1)) = j by omega]; exact hj))
end Go.By
namespace Go.Proofs.YtbfmdfbnhakolaaDoor
open Go.RowKit Go.By
theorem cnt_unit (n i : Nat) (hi : i < n) : cntS ((List.replicate n 0).set i 1) = 1 := by
  unfold cntS
  rw [List.set_eq_take_append_cons_drop, if_pos (by simpa using hi), List.countP_append, List.countP_cons]
  simp [List.countP_replicate]
theorem unit_iff {wd t : Nat} {r : Rw} {i : Nat} (hf : Fit wd t r) (hl : Led r) (hi : i < wd) : (cntS r.1 = 1 ∧ leadS r.1 = (i : Int)) ↔ r.1 = (List.replicate wd 0).set i 1 := by
  obtain ⟨l, e1, e2, e3⟩ := hl
  constructor
  · rintro ⟨hc, hle⟩
    obtain rfl : l = i := by rw [e1] at hle; omega
    apply List.ext_getElem?
    intro j
    by_cases hj : j < wd
    · obtain ⟨b, hb⟩ : ∃ b, r.1[j]? = some b := ⟨_, List.getElem?_eq_getElem (by rw [hf.1]; exact hj)⟩
      rw [List.getElem?_set]
      by_cases e : l = j
      · subst e; rw [if_pos rfl, if_pos (by simpa using hj)]; exact e2
      · rw [if_neg e, List.getElem?_replicate, if_pos hj, hb, cnt_one e2 (by decide) hc hb (fun h => e h.symm)]
    · rw [List.getElem?_eq_none (by rw [hf.1]; omega), List.getElem?_eq_none (by simp; omega)]
  · intro h
    refine ⟨by rw [h]; exact cnt_unit wd i hi, ?_⟩
    rw [e1]
    have h1 : r.1[i]? = some 1 := by rw [h, List.getElem?_set, if_pos rfl, if_pos (by simpa using hi)]
    have : ¬ i < l := fun hil => by have := e3 i 1 hil h1; exact absurd this (by decide)
    have : ¬ l < i := fun hli => by
      have h2 : r.1[l]? = some 0 := by rw [h, List.getElem?_set, if_neg (by omega), List.getElem?_replicate, if_pos (by omega)]
      rw [h2] at e2; cases e2
    omega
/-- is this the row that tells symbol i? -/
def mtS (i : Int) (r : Rw) : Bool := decide (cntS r.1 = 1) && decide (leadS r.1 = i)
theorem known_find {wd t : Nat} {K : List Rw} (hK : ∀ k, k ∈ K → Fit wd t k ∧ Led k) (hw : wd ≤ 65536) (i : Int) : knownS wd K i = match K.find? (mtS i) with
    | some r => (r.2, true)
    | none => ([], false) := by
  unfold knownS unitS
  by_cases hi : i < 0 ∨ (wd : Int) ≤ i
  · rw [if_pos (show (wd : Int) < 0 ∨ (65536 : Int) < (wd : Int) ∨ i < 0 ∨ (wd : Int) ≤ i by omega)]
    have : K.find? (mtS i) = none := List.find?_eq_none.2 fun r hr => by
      obtain ⟨hf, l, e1, -⟩ := hK r hr
      have hl : l < wd := by obtain ⟨-, l', hl'⟩ := hK r hr; have := hl'.lt hf; have e := hl'.1; rw [e1] at e; omega
      unfold mtS
      rw [e1, decide_eq_false (show ¬ ((l : Int) = i) by omega)]
      simp
    rw [this]; rfl
  · rw [if_neg (show ¬ ((wd : Int) < 0 ∨ (65536 : Int) < (wd : Int) ∨ i < 0 ∨ (wd : Int) ≤ i) by omega)]
    obtain ⟨n, rfl⟩ := Int.eq_ofNat_of_zero_le (show 0 ≤ i by omega)
    have hn : n < wd := by omega
    have e : K.find? (fun r => decide (r.1 = (List.replicate wd 0).set n 1)) = K.find? (mtS n) := by
      have : ∀ (L : List Rw), (∀ k, k ∈ L → Fit wd t k ∧ Led k) → L.find? (fun r => decide (r.1 = (List.replicate wd 0).set n 1)) = L.find? (mtS n) := by
        intro L
        induction L with
        | nil => intro _; rfl
        | cons a L ih =>
          intro h
          rw [List.find?_cons, List.find?_cons, ih (fun k hk => h k (by simp [hk]))]
          have hu := unit_iff (h a (by simp)).1 (h a (by simp)).2 hn
          have : mtS n a = decide (a.1 = (List.replicate wd 0).set n 1) := by
            unfold mtS
            by_cases hx : a.1 = (List.replicate wd 0).set n 1
            · rw [decide_eq_true hx, decide_eq_true (hu.2 hx).1, decide_eq_true (hu.2 hx).2]; rfl
            · rw [decide_eq_false hx]
              by_cases h1 : cntS a.1 = 1
              · rw [decide_eq_false (fun h2 => hx (hu.1 ⟨h1, h2⟩))]; simp
              · rw [decide_eq_false h1]; simp
          rw [this]
      exact this K hK
    simp only [ne_eq, not_true_eq_false, if_false, Int.toNat_natCast]
    rw [e]
    all_goals (cases K.find? (mtS n) <;> rfl)
end Go.Proofs.YtbfmdfbnhakolaaDoor
namespace Go.By
open Go.RowKit
/-- bytes in a block of their own -/
def shpBy (T B n : Nat) : Shp := ⟨fun v W => ∃ g, v = .slice (some ⟨g, 0, none⟩) n n ∧ B ≤ g ∧ ∃ bs : List UInt8, bs.length = n ∧ W.heap[g]? = some (.cells (bs.map B8).toArray T (0, 0)), fun _ _ _ ⟨g, e, h, bs, hl, hh⟩ hb => ⟨g, e, h, bs, hl, (hb.block _ (blk_lt hh)).trans hh⟩⟩
theorem eval_tmp' {a : Act} {t : Nat} {v : Value} (h : sl a t = v) : a.eval (.tmp t) = v := h
theorem wp_make_bytes {P : Program} (w : World) {o : Oper} {a : Act} {K : Act → World → Prop} {Q : Exit → Act → World → Prop} (hg : o.guard = none) (l c : Operand) (t : TypeId) (hop : o.op = Op.makeSlice t l c)
    (e : TypeId) (i : TypeInfo) (h1 : P.underlying t = some (.slice e)) (h2 : P.info? e = some i) (h3 : i.zero = some (.int .u8 0)) (h4 : i.size = 1) (h5 : i.bytes = 1) (n : Nat) (hl : a.eval l = .int .i64 n) (hc : a.eval c = .int .i64 n) (hn : n ≤ 65536)
    (hK : ∀ w' g, g = w.heap.size → w'.heap[g]? = some (.cells ((List.replicate n (0 : UInt8)).map B8).toArray e (0, 0)) → Below w.heap.size w w' → K (a.put o.dst (.slice (some ⟨g, 0, none⟩) n n)) w') : o.wp P a w K Q := by
  have _ := hg
  obtain ⟨w', hrun, r1, r2⟩ := run_make_full (P := P) w w.heap.size t e i (.int .u8 0) 1 h1 h2 h3 h4 .i64 .i64 n (by rw [h5]; omega) (by unfold maxLen; omega) (Nat.le_refl _)
  unfold Oper.wp
  simp [execOp, hop, hl, hc, hrun, Result.andThen]
  refine hK w' _ rfl ?_ ((Below.refl _ _).grown r2 (Nat.le_refl _) (by simp))
  have e1 : (madeCells #[Value.int .u8 0] n).toList = List.replicate n (B8 0) := toList_madeCells_one _ _
  have r3 : w'.ownsRow w.heap.size e 1 (.slice (some ⟨w.heap.size, 0, none⟩) n n) n (List.replicate n (B8 0)) := by rw [← e1]; have r4 := r1; simp only [Nat.mul_one] at r4; exact r4
  rw [List.map_replicate]
  exact heap_of_owns r3
/-- a copy of bytes into a block known whole -/
def fillS (bs src : List UInt8) : List UInt8 := src.take bs.length ++ bs.drop src.length
theorem fillS_len (bs src : List UInt8) : (fillS bs src).length = bs.length := by unfold fillS; rw [List.length_append, List.length_take, List.length_drop]; omega
theorem wpList_copy_bytes {P : Program} (w : World) {ops : Array Oper} {rest : List Oper} {o : Oper} {a : Act} {Q : Exit → Act → World → Prop} (hgd : o.guard = none) (d s : Operand) (dT sT : TypeId)
    (ho : o.op = .call { callee := .builtin .copy, args := #[d, s], argTypes := #[dT, sT] }) (elem : TypeId) (hu : P.underlying dT = some (.slice elem)) (hsz : (P.info? elem).map (·.size) = some 1)
    (g n : Nat) (sp : Option Addr) (m c : Nat) (hd : a.eval d = .slice (some ⟨g, 0, none⟩) n n) (hs : a.eval s = .slice sp m c) (bs src : List UInt8) (T : TypeId) (hg : w.heap[g]? = some (.cells (bs.map B8).toArray T (0, 0))) (hl : bs.length = n) (hS : Sl B8 w sp m c src)
    (h : ∀ w' z, w'.heap[g]? = some (.cells ((fillS bs src).map B8).toArray T (0, 0)) → w.grownBy w' (some g) → wpList P ops Q rest (a.put o.dst (goInt z)) w') : wpList P ops Q (o :: rest) a w := by
  have hm := hS.len
  by_cases h0 : Nat.min m n = 0
  · refine wpList_copy_nothing hgd d s dT sT ho elem hu hsz _ sp n n m c hd hs h0 ?_
    refine h w 0 ?_ (World.grownBy.refl _ _)
    have e : fillS bs src = bs := by
      unfold fillS
      rcases Nat.eq_zero_or_pos m with h1 | h1
      · have : src = [] := List.length_eq_zero_iff.1 (by omega)
        subst this; simp
      · have h2 : n = 0 := by have h3 : min m n = 0 := h0; omega
        have : bs = [] := List.length_eq_zero_iff.1 (by omega)
        subst this; simp
    rw [e]; exact hg
  · have h1 : 0 < m ∧ 0 < n := by have h3 : ¬ min m n = 0 := h0; omega
    obtain ⟨b, o', rfl, -⟩ := hS.rs 0 (by omega)
    refine wpList_copy_own hgd d s dT sT ho elem hu hsz g 0 n n ⟨b, o', none⟩ m c hd hs _ T hg ((src.take n).map B8) ?_ ?_ ?_ ?_ ?_
    · rw [List.length_map, List.length_take, hm, Nat.min_comm]
    · intro j v hj
      rw [List.getElem?_map, List.getElem?_take] at hj
      have hjl : j < n ∧ j < src.length := by
        split at hj
        · rename_i hjn
          refine ⟨hjn, ?_⟩
          rcases Nat.lt_or_ge j src.length with g | g
          · exact g
          · rw [List.getElem?_eq_none g] at hj; cases hj
        · cases hj
      obtain ⟨b2, o2, e, hc⟩ := hS.rs j hjl.2
      cases e
      rw [if_pos hjl.1, List.getElem?_eq_getElem hjl.2] at hj
      rw [Addr.add_lit, hc]; exact hj
    · rw [List.length_map, List.length_take]; simp; omega
    · intro v hv
      obtain ⟨y, _, rfl⟩ := List.mem_map.1 hv
      rfl
    · refine h _ _ ?_ (grownBy_setRow w g _)
      rw [hrs hg]
      congr 3
      unfold fillS
      rw [hl, List.map_append, List.map_drop]
      simp only [List.take_zero, List.nil_append, Nat.zero_add, List.toList_toArray, List.length_map, List.length_take]
      congr 1
      rcases Nat.lt_or_ge n src.length with g | g
      · rw [Nat.min_eq_left (by omega), List.drop_eq_nil_of_le (by simp [hl]), List.drop_eq_nil_of_le (by simp [hl]; omega)]
      · rw [Nat.min_eq_right g]
end Go.By
namespace Go.Proofs.YtbfmdfbnhakolaaDoor
open Go.RowKit Go.By
set_option maxRecDepth 100000 in
set_option maxHeartbeats 4000000 in
theorem Fit8_any (k t : Nat) (p1 p2 : Option Addr) (n1 c1 n2 c2 : Nat) (x : Rw) (w : World) (s1 : Sl B8 w p1 n1 c1 x.1) (s2 : Sl B8 w p2 n2 c2 x.2) (hk : k ≤ 65535) (ht : t ≤ 65535) :
    Calls Tryd.prog 28 #[.agg #[.slice p1 n1 c1, .slice p2 n2 c2], .int .i64 k, .int .i64 t] w fun e w' => ∃ q1 d1 q2 d2 xs ys, e = .returned (.agg #[.slice q1 k d1, .slice q2 t d2]) ∧ Sl B8 w' q1 k d1 xs ∧ Sl B8 w' q2 t d2 ys ∧ Below w.heap.size w w' := by
  have hinfo : (Tryd.prog.info? 54).map (·.size) = some 2 := by kernel_rfl
  obtain ⟨i0, hi0, hz0, hz1, hz2⟩ := info_parts info_u8
  have S1 := Lib.hid s1; have S2 := Lib.hid s2
  clear s1 s2
  go_enter Tryd.func28, Tryd.ntmps28
  go_wp2
  have b0 : Below w.heap.size w ((w.alloc (.cells #[.slice p1 n1 c1, .slice p2 n2 c2] 54)).alloc (.cells #[.slice none 0 0, .slice none 0 0] 54)) := al (al (Below.refl _ _) (Nat.le_refl _)) (by simp)
  have x0 : ((w.alloc (.cells #[.slice p1 n1 c1, .slice p2 n2 c2] 54)).alloc (.cells #[.slice none 0 0, .slice none 0 0] 54)).heap[w.heap.size]? = some (.cells #[.slice p1 n1 c1, .slice p2 n2 c2] 54 (0, 0)) := hal (hnew rfl)
  have z0 : ((w.alloc (.cells #[.slice p1 n1 c1, .slice p2 n2 c2] 54)).alloc (.cells #[.slice none 0 0, .slice none 0 0] 54)).heap[w.heap.size + 1]? = some (.cells #[.slice none 0 0, .slice none 0 0] 54 (0, 0)) := hnew (by simp)
  generalize (w.alloc (.cells #[.slice p1 n1 c1, .slice p2 n2 c2] 54)).alloc (.cells #[.slice none 0 0, .slice none 0 0] 54) = w2 at b0 x0 z0 ⊢
  have h12 : w.heap.size + 1 < w2.heap.size := blk_lt z0
  refine wp_region_shapes (fun ix => ([.val (.int .i64 k), (shpBy 5 w2.heap.size k), .val (.int .i64 t), (shpBy 5 w2.heap.size t), (shpBy 5 w2.heap.size k), (shpBy 5 w2.heap.size t)][ix]?).getD (.any)) 24 rfl (by kernel_rfl) (by decide) (by decide) (by decide) ?_ ?_
  · refine ⟨?_, ?_, ?_, ?_, ?_, ?_, trivial⟩
    · intro a W hb0 hs hp hi; have hb := undrew hb0; clear hb0
      have t1 : sl a 1 = .int .i64 k := hi 1 (by decide)
      exact ite_y rfl (wp_val (sl a 1) rfl ⟨_, rfl, Below.refl _ _, t1⟩)
    · intro a W hb0 hs hp hi; have hb := undrew hb0; clear hb0
      have tt : sl a 9 = .int .i64 k := hp 0 (by decide)
      refine ite_y rfl (wp_make_bytes W rfl (.tmp 9) (.tmp 9) 24 rfl 5 i0 Tryd.underlying24 hi0 hz0 hz1 hz2 k (eval_tmp' tt) (eval_tmp' tt) (by omega) ?_)
      intro W' g hg hh hw
      exact ⟨_, rfl, hw, g, rfl, by have := hb.size; omega, List.replicate k 0, by simp, hh⟩
    · intro a W hb0 hs hp hi; have hb := undrew hb0; clear hb0
      have t2 : sl a 2 = .int .i64 t := hi 2 (by decide)
      exact ite_y rfl (wp_val (sl a 2) rfl ⟨_, rfl, Below.refl _ _, t2⟩)
    · intro a W hb0 hs hp hi; have hb := undrew hb0; clear hb0
      have tt : sl a 11 = .int .i64 t := hp 2 (by decide)
      refine ite_y rfl (wp_make_bytes W rfl (.tmp 11) (.tmp 11) 24 rfl 5 i0 Tryd.underlying24 hi0 hz0 hz1 hz2 t (eval_tmp' tt) (eval_tmp' tt) (by omega) ?_)
      intro W' g hg hh hw
      exact ⟨_, rfl, hw, g, rfl, by have := hb.size; omega, List.replicate t 0, by simp, hh⟩
    · intro a W hb0 hs hp hi; have hb := undrew hb0; clear hb0
      exact ite_y rfl (wp_val (sl a 10) rfl ⟨_, rfl, Below.refl _ _, hp 1 (by decide)⟩)
    · intro a W hb0 hs hp hi; have hb := undrew hb0; clear hb0
      exact ite_y rfl (wp_val (sl a 12) rfl ⟨_, rfl, Below.refl _ _, hp 3 (by decide)⟩)
  intro a w3 hb hs hd hI ht
  have ha := act_is [9, 10, 11, 12, 7, 8] hs hd ht (by decide)
  have y7 : (shpBy 5 w2.heap.size k).ok (sl a 7) w3 := hI 4 (by decide)
  obtain ⟨g7, e7, b7, bs7, l7, h7⟩ := y7
  have y8 : (shpBy 5 w2.heap.size t).ok (sl a 8) w3 := hI 5 (by decide)
  obtain ⟨g8, e8, b8, bs8, l8, h8⟩ := y8
  simp only [List.foldl, e7, e8] at ha
  generalize sl a 9 = u9 at ha
  generalize sl a 10 = u10 at ha
  generalize sl a 11 = u11 at ha
  generalize sl a 12 = u12 at ha
  simp only [Act.put, List.setIfInBounds_toArray, List.set_cons_zero, List.set_cons_succ] at ha
  rw [ha]
  clear ha hI ht
  have B3 := Lib.hid (bl b0 hb b0.size)
  have X3 := Lib.hid ((hb.block _ (blk_lt x0)).trans x0); have Z3 := Lib.hid ((hb.block _ (blk_lt z0)).trans z0)
  have S13 := Lib.hid (S1.out.keep B3.out)
  have L7 := Lib.hid l7; have L8 := Lib.hid l8; have H7 := Lib.hid h7; have H8 := Lib.hid h8
  clear b0 x0 z0 hb l7 l8 h7 h8 S1
  obtain ⟨y0, y1⟩ := cells2 X3.out
  go_wp2_with (with_reducible refine wpList_copy_bytes w3 rfl (.tmp 13) (.tmp 15) 24 24 rfl 5 Tryd.underlying24 (by kernel_rfl) g7 k p1 n1 c1 rfl rfl bs7 x.1 5 H7.out L7.out S13.out ?_)
  intro w4 z4 hh4 hg4
  have B4 := Lib.hid (B3.out.grown hg4 (by have := B3.out.size; omega) (fun j hj => by cases hj; omega))
  have ne1 : w.heap.size ≠ g7 := by omega
  have ne2 : w.heap.size + 1 ≠ g7 := by omega
  have X4 := Lib.hid ((hg4.block _ (blk_lt X3.out) (fun e => ne1 (Option.some.inj e))).trans X3.out); have Z4 := Lib.hid ((hg4.block _ (blk_lt Z3.out) (fun e => ne2 (Option.some.inj e))).trans Z3.out)
  have S24 := Lib.hid (S2.out.keep B4.out)
  have H84 : Hid (∃ bs : List UInt8, bs.length = t ∧ w4.heap[g8]? = some (.cells (bs.map B8).toArray 5 (0, 0))) := by
    by_cases e : g8 = g7
    · subst e
      have h2 := H8.out
      rw [H7.out] at h2
      have h3 : (bs7.map B8).toArray.size = (bs8.map B8).toArray.size := by injection h2 with h2; injection h2 with h2; rw [h2]
      have h4 : k = t := by have h5 := L7.out; have h6 := L8.out; simp at h3; omega
      exact ⟨_, by rw [fillS_len, L7.out, h4], hh4⟩
    · exact ⟨bs8, L8.out, (hg4.block _ (blk_lt H8.out) (fun e2 => e (Option.some.inj e2))).trans H8.out⟩
  have H74 : Hid (∃ bs : List UInt8, bs.length = k ∧ w4.heap[g7]? = some (.cells (bs.map B8).toArray 5 (0, 0))) := ⟨_, by rw [fillS_len, L7.out], hh4⟩
  clear X3 Z3 S13 y0 y1 hh4 hg4 H7 H8 L7 L8 B3 S2
  obtain ⟨y0, y1⟩ := cells2 X4.out
  obtain ⟨bs, lb, hb8⟩ := H84.out
  have LB := Lib.hid lb; have HB8 := Lib.hid hb8
  clear lb hb8
  go_wp2_with (with_reducible refine wpList_copy_bytes w4 rfl (.tmp 17) (.tmp 19) 24 24 rfl 5 Tryd.underlying24 (by kernel_rfl) g8 t p2 n2 c2 rfl rfl bs x.2 5 HB8.out LB.out S24.out ?_)
  intro w5 z5 hh5 hg5
  have B5 := Lib.hid (B4.out.grown hg5 (by have := B4.out.size; omega) (fun j hj => by cases hj; omega))
  have ne3 : w.heap.size + 1 ≠ g8 := by omega
  have Z5 := Lib.hid ((hg5.block _ (blk_lt Z4.out) (fun e => ne3 (Option.some.inj e))).trans Z4.out)
  have H75 : Hid (∃ bs : List UInt8, bs.length = k ∧ w5.heap[g7]? = some (.cells (bs.map B8).toArray 5 (0, 0))) := by
    obtain ⟨bs', l', h'⟩ := H74.out
    by_cases e : g7 = g8
    · subst e
      have h2 := HB8.out
      rw [h'] at h2
      have h3 : (bs'.map B8).toArray.size = (bs.map B8).toArray.size := by injection h2 with h2; injection h2 with h2; rw [h2]
      have h4 : k = t := by have h5 := LB.out; simp at h3; omega
      exact ⟨_, by rw [fillS_len, LB.out, h4], hh5⟩
    · exact ⟨bs', l', (hg5.block _ (blk_lt h') (fun e2 => e (Option.some.inj e2))).trans h'⟩
  have H85 : Hid (∃ bs : List UInt8, bs.length = t ∧ w5.heap[g8]? = some (.cells (bs.map B8).toArray 5 (0, 0))) := ⟨_, by rw [fillS_len, LB.out], hh5⟩
  obtain ⟨f0, f1⟩ := cells2 Z5.out
  have v0 := frozen_of_row _ _ 0 _ _ Z5.out
  have v1 := frozen_of_row _ _ 1 _ _ Z5.out
  clear X4 Z4 S24 y0 y1 hh5 hg5 HB8 LB B4 H74 H84
  go_wp2
  obtain ⟨xs, lx, hx⟩ := H75.out
  obtain ⟨ys, ly, hy⟩ := H85.out
  have n7 : g7 ≠ w.heap.size + 1 := by omega
  have n8 : g8 ≠ w.heap.size + 1 := by omega
  refine bodyPost_ret (results_cell_row rfl _ _ _ 54 #[.slice (some ⟨g7, 0, none⟩) k k, .slice (some ⟨g8, 0, none⟩) t t] (0, 0) _ rfl (hss (hss Z5.out)) Tryd.underlying54 rfl hinfo) rfl ⟨some ⟨g7, 0, none⟩, k, some ⟨g8, 0, none⟩, t, xs, ys, rfl, ?_, ?_, (B5.out.setCell (by simp) _).setCell (by simp) _⟩
  · exact sl_block xs k (hsc (hsc hx n7) n7) rfl lx (by unfold maxLen; omega)
  · exact sl_block ys t (hsc (hsc hy n8) n8) rfl ly (by unfold maxLen; omega)
end Go.Proofs.YtbfmdfbnhakolaaDoor
namespace Go.Proofs.YtbfmdfbnhakolaaDoor
open Go.RowKit Go.By
/-- rows made at first: all without bytes -/
theorem RwL.made {w : World} {base g n : Nat} (hh : w.heap[g]? = some (.cells (madeCells #[.slice none 0 0, .slice none 0 0] (n * 2)) 63 (0, 0))) (hb : base ≤ g) (hn : n ≤ maxLen) : RwL 63 5 w base (.slice (some ⟨g, 0, none⟩) n n) n (List.replicate n ([], [])) := by
  have hfl : (madeCells #[.slice none 0 0, .slice none 0 0] (n * 2)).toList = fl2 (List.replicate n ((.slice none 0 0 : Value), (.slice none 0 0 : Value))) := by
    apply List.ext_getElem?
    intro i
    by_cases hi : i < n * 2
    · have e1 : (madeCells #[.slice none 0 0, .slice none 0 0] (n * 2)).toList[i]? = some (.slice none 0 0) := by
        rcases Nat.mod_two_eq_zero_or_one i with h | h <;> simp [madeCells, hi, h]
      have hd : i / 2 < n := by omega
      obtain ⟨f1, f2⟩ := fl2_at (vs := List.replicate n ((.slice none 0 0 : Value), (.slice none 0 0 : Value))) (i := i / 2) (u := (.slice none 0 0, .slice none 0 0)) (by rw [List.getElem?_replicate, if_pos hd])
      rw [e1]
      rcases Nat.mod_two_eq_zero_or_one i with h | h
      · rw [show i / 2 * 2 = i by omega] at f1; exact f1.symm
      · rw [show i / 2 * 2 + 1 = i by omega] at f2; exact f2.symm
    · rw [List.getElem?_eq_none (by simp [madeCells]; omega), List.getElem?_eq_none (by rw [fl2_length, List.length_replicate]; omega)]
  refine ⟨List.replicate n (.slice none 0 0, .slice none 0 0), by simp, by simp, ⟨by rw [fl2_length, List.length_replicate], .inr ⟨g, n, _, rfl, hb, hh, Nat.le_refl _, hn, by simp [madeCells], ?_⟩⟩, ?_⟩
  · rw [hfl, List.take_of_length_le (by rw [fl2_length, List.length_replicate]; omega)]
  · intro j u hj
    obtain ⟨h1, h2⟩ := List.getElem?_eq_some_iff.1 hj
    rw [List.length_replicate] at h1
    simp at h2
    subst h2
    exact ⟨([], []), by rw [List.getElem?_replicate, if_pos h1], ⟨none, 0, 0, rfl, rfl, World.ownsRow_nil _ _ _ _⟩, ⟨none, 0, 0, rfl, rfl, World.ownsRow_nil _ _ _ _⟩⟩
theorem fill_step {α : Type} {K : List α} {j n : Nat} {a z : α} (hj : K[j]? = some a) (hn : K.length = n) : (K.take j ++ List.replicate (n - j) z).set j a = K.take (j + 1) ++ List.replicate (n - (j + 1)) z := by
  have hl := (List.getElem?_eq_some_iff.1 hj).1
  have lj : (K.take j).length = j := by rw [List.length_take]; omega
  rw [List.set_append_right _ _ (by omega), lj, Nat.sub_self, List.take_add_one, hj]
  rw [show n - j = (n - (j + 1)) + 1 by omega, List.replicate_succ]
  simp
theorem heap_owns2 {w : World} {base E g n : Nat} {L : List Value} (h : w.ownsRow base E 2 (.slice (some ⟨g, 0, none⟩) n n) n L) : w.heap[g]? = some (.cells L.toArray E (0, 0)) := by
  rcases h.2 with ⟨h1, _⟩ | ⟨g', cap, cur, hv, _, hh, _, _, hs, ht⟩
  · cases h1
  · cases hv
    rw [hh]
    have : cur = L.toArray := by
      rw [← ht, List.take_of_length_le (by simp [hs])]
    rw [this]
end Go.Proofs.YtbfmdfbnhakolaaDoor
namespace Go.By
open Go.RowKit
theorem RwL.mono {T2 T1 base b2 n : Nat} {w : World} {v : Value} {K : List (List UInt8 × List UInt8)} (h : RwL T2 T1 w base v n K) (hb : b2 ≤ base) : RwL T2 T1 w b2 v n K := by
  obtain ⟨vs, a, b, o, r⟩ := h
  refine ⟨vs, a, b, ?_, fun j u hj => by obtain ⟨k, hk, g1, g2⟩ := r j u hj; exact ⟨k, hk, g1.mono hb, g2.mono hb⟩⟩
  obtain ⟨q, c, rfl⟩ := owns_shape o
  exact owns_mono o hb
end Go.By
namespace Go.Proofs.YtbfmdfbnhakolaaDoor
open Go.RowKit Go.By
def shpRL (B n : Nat) (K : List Rw) : Shp := ⟨fun v W => RwL 63 5 W B v n K, fun _ _ _ h hb => h.keep hb⟩
def shpRB (B n k t : Nat) (K : List Rw) : Shp := ⟨fun v W => ∃ u, v = .agg #[.int .i64 k, .int .i64 t, u] ∧ RwL 63 5 W B u n K, fun _ _ _ ⟨u, e, h⟩ hb => ⟨u, e, h.keep hb⟩⟩
def shpEl (B n k t : Nat) (K : List Rw) : Shp := ⟨fun v W => ∃ b u, v = .pointer (some ⟨b, 0, none⟩) ∧ Elm W B b k t u n K, fun _ _ _ ⟨b, u, e, h⟩ hb => ⟨b, u, e, h.keep hb⟩⟩
end Go.Proofs.YtbfmdfbnhakolaaDoor
namespace Go.By
open Go.RowKit
section
variable {T2 T1 : TypeId} {w w' : World} {base n : Nat} {v : Value} {xss : List (List UInt8)}
theorem Own2.mono {b2 : Nat} (h : Own2 T2 T1 w base v n xss) (hb : b2 ≤ base) : Own2 T2 T1 w b2 v n xss := by
  obtain ⟨vs, a, b, r⟩ := h
  obtain ⟨q, c, rfl⟩ := owns_shape a
  exact ⟨vs, owns_mono a hb, b, fun j u hj => by obtain ⟨xs, q', c', e1, e2, e3⟩ := r j u hj; exact ⟨xs, q', c', e1, e2, owns_mono e3 hb⟩⟩
theorem Own2.made {q : Value} (ho : w.ownsRow base T2 1 q n (madeCells #[Value.slice none 0 0] n).toList) : Own2 T2 T1 w base q n (List.replicate n []) := by
  have e : (madeCells #[Value.slice none 0 0] n).toList = List.replicate n (Value.slice none 0 0) := toList_madeCells_one _ _
  rw [e] at ho
  refine ⟨_, ho, by simp, fun j u hj => ?_⟩
  obtain ⟨h1, h2⟩ := List.getElem?_eq_some_iff.1 hj
  rw [List.length_replicate] at h1
  simp at h2
  exact ⟨[], none, 0, by rw [List.getElem?_replicate, if_pos h1], h2.symm, World.ownsRow_nil _ _ _ _⟩
theorem Own2.put {g c i m c3 : Nat} {q3 : Option Addr} {xs : List UInt8} (h : Own2 T2 T1 w base (.slice (some ⟨g, 0, none⟩) n c) n xss) (hT : T1 ≠ T2) (hi : i < n) (h1 : w.ownsRow base T1 1 (.slice q3 m c3) m (xs.map B8)) :
    Own2 T2 T1 (w.setCell ⟨g, i, none⟩ (.slice q3 m c3)) base (.slice (some ⟨g, 0, none⟩) n c) n (xss.set i xs) := by
  obtain ⟨vs, a, b, r⟩ := h
  have hml : m = xs.length := by have := h1.1; simp at this; exact this.symm
  subst hml
  have hvl : vs.length = n := by simpa using a.1
  have hst := a.stored i (.slice q3 xs.length c3)
  refine ⟨vs.set i (.slice q3 xs.length c3), hst.1, by simp [b], fun j u hj => ?_⟩
  rw [List.getElem?_set] at hj
  by_cases e : i = j
  · subst e
    rw [if_pos rfl, if_pos (by omega)] at hj
    cases hj
    exact ⟨xs, q3, c3, by rw [List.getElem?_set, if_pos rfl, if_pos (by omega)], rfl, owns_kept h1 hst.2 (owns_ne h1 a hT)⟩
  · rw [if_neg e] at hj
    obtain ⟨xs', q', c', e1, e2, e3⟩ := r j u hj
    exact ⟨xs', q', c', by rw [List.getElem?_set, if_neg e]; exact e1, e2, owns_kept e3 hst.2 (owns_ne e3 a hT)⟩
theorem Own2.blk {g c i : Nat} (h : Own2 T2 T1 w base (.slice (some ⟨g, 0, none⟩) n c) n xss) (hi : i < n) : (∃ u, w.cell? ⟨g, i, none⟩ = some u) ∧ w.frozen? ⟨g, i, none⟩ = false ∧ base ≤ g := by
  obtain ⟨vs, a, b, r⟩ := h
  have hvl : vs.length = n := by simpa using a.1
  exact ⟨⟨_, (a.cellAt i (by omega)).trans (List.getElem?_eq_getElem (by omega))⟩, a.frozenAt _, (a.lt g rfl).1⟩
end
end Go.By
namespace Go.Proofs.YtbfmdfbnhakolaaDoor
open Go.RowKit Go.By
theorem snds_step {K : List Rw} {j n : Nat} {r : Rw} (hj : K[j]? = some r) (hn : K.length = n) : ((K.take j).map (fun x : Rw => x.2) ++ List.replicate (n - j) []).set j r.2 = (K.take (j + 1)).map (fun x : Rw => x.2) ++ List.replicate (n - (j + 1)) [] := by
  have e := fill_step (K := K.map (fun x : Rw => x.2)) (j := j) (n := n) (a := r.2) (z := []) (by rw [List.getElem?_map, hj]; rfl) (by rw [List.length_map]; exact hn)
  rw [List.map_take, List.map_take]; exact e
end Go.Proofs.YtbfmdfbnhakolaaDoor
namespace Go.By
open Go.RowKit Go.Proofs.YtbfmdfbnhakolaaDoor
theorem owns_same {w w' : World} {base T k n : Nat} {v : Value} {L : List Value} (h : w.ownsRow base T k v n L) (hs : w.heap.size ≤ w'.heap.size) (hb : ∀ g, v.ownBlock = some g → w'.heap[g]? = w.heap[g]?) : w'.ownsRow base T k v n L := by
  have _ := hs
  refine ⟨h.1, ?_⟩
  rcases h.2 with h1 | ⟨g, cap, cur, e, h1, h2, h3⟩
  · exact .inl h1
  · exact .inr ⟨g, cap, cur, e, h1, (hb g (by rw [e]; rfl)).trans h2, h3⟩
section
variable {w w' : World} {base be k t n : Nat} {v : Value} {K : List Rw}
theorem Chg.blk (h : Chg w w' be v) (hE : Elm w base be k t v n K) {g T : Nat} {cs : Array Value} {fr : Nat × Nat} (hg : w.heap[g]? = some (.cells cs T fr)) (h1 : T ≠ 109) (h2 : v.ownBlock ≠ some g) : w'.heap[g]? = some (.cells cs T fr) := by
  refine (h.block g (blk_lt hg) (fun e => ?_) h2).trans hg
  subst e
  rw [hE.box] at hg; injection hg with hg; injection hg with _ hg _; exact h1 hg.symm
theorem Chg.blk2 (h : Chg w w' be v) (hE : Elm w base be k t v n K) {g T : Nat} {cs : Array Value} {fr : Nat × Nat} (hg : w.heap[g]? = some (.cells cs T fr)) (h1 : T ≠ 109) (h2 : 63 ≠ T) : w'.heap[g]? = some (.cells cs T fr) :=
  h.blk hE hg h1 (hE.rows.ne_box hg h2)
theorem Chg.bw (h : Chg w w' be v) (hE : Elm w base be k t v n K) {b : Nat} {u : Value} {xs : List UInt8} (hu : Bw 5 w b u xs) : Bw 5 w' b u xs := by
  obtain ⟨q, m, c, e, l, o⟩ := hu
  refine ⟨q, m, c, e, l, owns_same o h.size fun g hg => ?_⟩
  rcases o.2 with ⟨e1, _⟩ | ⟨g', cap, cur, e1, _, hh, _⟩
  · rw [e1] at hg; cases hg
  · rw [e1] at hg; cases hg
    rw [h.blk2 hE hh (by decide) (by decide), hh]
theorem Chg.rwl (h : Chg w w' be v) (hE : Elm w base be k t v n K) {b2 n2 : Nat} {v2 : Value} {K2 : List Rw} (h2 : RwL 63 5 w b2 v2 n2 K2) (hne : ∀ g, v2.ownBlock = some g → v.ownBlock ≠ some g) : RwL 63 5 w' b2 v2 n2 K2 := by
  obtain ⟨vs, a, b, o, r⟩ := h2
  refine ⟨vs, a, b, owns_same o h.size fun g hg => ?_, fun j u hj => by obtain ⟨x, hk, g1, g2⟩ := r j u hj; exact ⟨x, hk, h.bw hE g1, h.bw hE g2⟩⟩
  rcases o.2 with ⟨e1, _⟩ | ⟨g', cap, cur, e1, _, hh, _⟩
  · rw [e1] at hg; cases hg
  · have hn := hne g hg
    rw [e1] at hg; cases hg
    rw [h.blk hE hh (by decide) hn, hh]
theorem Chg.elm (h : Chg w w' be v) (hE : Elm w base be k t v n K) {b2 be2 n2 k2 t2 : Nat} {v2 : Value} {K2 : List Rw} (h2 : Elm w b2 be2 k2 t2 v2 n2 K2) (hbe : be2 ≠ be) (hne : ∀ g, v2.ownBlock = some g → v.ownBlock ≠ some g) : Elm w' b2 be2 k2 t2 v2 n2 K2 :=
  ⟨(h.block be2 (blk_lt h2.box) hbe (hE.rows.ne_box h2.box (by decide))).trans h2.box, h.rwl hE h2.rows hne, h2.old⟩
theorem Chg.rwn (h : Chg w w' be v) (hE : Elm w base be k t v n K) {W : World} {q : Option Addr} {m c : Nat} {D : List Rw} (hD : RwN W w 71 q m c D) (hW : W.heap.size ≤ base) : RwN W w' 71 q m c D := by
  obtain ⟨h1, h2, vs, o, h4⟩ := hD
  refine ⟨h1.trans (chg_old h hE.rows hW (Nat.le_trans hW hE.old) h1.size), h2, vs, owns_same o h.size fun g hg => ?_, h4⟩
  rcases o.2 with ⟨e1, _⟩ | ⟨g', cap, cur, e1, _, hh, _⟩
  · rw [e1] at hg; cases hg
  · rw [e1] at hg; cases hg
    rw [h.blk2 hE hh (by decide) (by decide), hh]
end
end Go.By
namespace Go.Proofs.YtbfmdfbnhakolaaDoor
open Go.RowKit Go.By
/-- what comes of an equation that fits -/
def codeF (K : List Rw) (x : Rw) : Int := if leadS (restF K x).1 < 0 then (if zeroS (restF K x).2 = true then 1 else 2) else 0
def putK (K : List Rw) (x : Rw) : List Rw := if leadS (restF K x).1 < 0 then K else putF K x
def putD (K D : List Rw) (x : Rw) : List Rw := if leadS (restF K x).1 < 0 then D else D ++ [x]
theorem EPut_fit (base be k t n : Nat) (v : Value) (K : List Rw) (p1 p2 : Option Addr) (c1 c2 : Nat) (x : Rw) (w : World) (hE : Elm w base be k t v n K) (s1 : Sl B8 w p1 k c1 x.1) (s2 : Sl B8 w p2 t c2 x.2) (hR : Red k t K) (hk : k ≤ 4096) (ht : t ≤ 65535) (hnn : n ≤ 4096) :
    Calls Tryd.prog 42 #[.pointer (some ⟨be, 0, none⟩), .agg #[.slice p1 k c1, .slice p2 t c2]] w fun e w' => e = .returned (.tuple #[.int .i64 (codeF K x), .int .i64 0]) ∧
      ∃ v' n', Elm w' base be k t v' n' (putK K x) ∧ Chg w w' be v ∧ (v'.ownBlock = v.ownBlock ∨ ∀ b, v'.ownBlock = some b → w.heap.size ≤ b) := by
  by_cases hn : leadS (restF K x).1 < 0
  · refine (EPut_zero base be k t n v K p1 p2 c1 c2 x w hE s1 s2 hR.kept.rows hk ht hn).mono ?_
    rintro e w' ⟨rfl, hb⟩
    unfold codeF putK
    rw [if_pos hn, if_pos hn]
    exact ⟨rfl, v, n, hE.keep hb, Chg.of be v hb, .inl rfl⟩
  · refine (EPut_grown base be k t n v K p1 p2 c1 c2 x w hE s1 s2 hR hk ht hn hnn).mono ?_
    rintro e w' ⟨rfl, v', h1, h2, h3⟩
    unfold codeF putK
    rw [if_neg hn, if_neg hn]
    exact ⟨rfl, v', n + 1, h1, h2, h3⟩
theorem Sys.putK {n t : Nat} {D K : List Rw} {x : Rw} (h : Sys n t (kD D) K) (hx : Fit n t x) : Sys n t (kD (putD K D x)) (putK K x) := by
  unfold putD Go.Proofs.YtbfmdfbnhakolaaDoor.putK
  by_cases hn : leadS (restF K x).1 < 0
  · rw [if_pos hn, if_pos hn]; exact h
  · rw [if_neg hn, if_neg hn, kD_snoc]; exact h.put hx hn
theorem RwN.vals {W w : World} {T n c : Nat} {q : Option Addr} {K : List Rw} (h : RwN W w T q n c K) : ∃ vs, w.ownsRow W.heap.size T 2 (.slice q n c) n (fl2 vs) ∧ RwV w q n c vs ∧ vs.length = n ∧ ∀ (j : Nat) (k : Rw), K[j]? = some k → ∃ u, vs[j]? = some u ∧ RwP W u k := by
  obtain ⟨hb, hl, vs, o, hv⟩ := h
  have hvl : vs.length = n := by have := o.1; rw [fl2_length] at this; omega
  refine ⟨vs, o, RwV.of_owns o (fun u hu => ?_), hvl, hv⟩
  obtain ⟨a, ha, hu⟩ := List.mem_flatMap.1 hu
  obtain ⟨j, hj, rfl⟩ := List.getElem_of_mem ha
  obtain ⟨u', hu', q1, m1, c1, q2, m2, c2, e, -⟩ := hv j (K[j]'(by omega)) (List.getElem?_eq_getElem (by omega))
  rw [List.getElem?_eq_getElem hj] at hu'
  injection hu' with hu'
  rw [hu', e] at hu
  simp at hu
  rcases hu with rfl | rfl <;> rfl
theorem incr_ge {l : List Nat} (h : l.Pairwise (· < ·)) : ∀ (i : Nat) (hi : i < l.length), i ≤ l[i]
  | 0, _ => Nat.zero_le _
  | i + 1, hi => by
    have h1 := incr_ge h i (by omega)
    have h2 := List.pairwise_iff_getElem.1 h i (i + 1) (by omega) hi (by omega)
    omega
theorem incr_le {l : List Nat} {B : Nat} (h : l.Pairwise (· < ·)) (hB : ∀ a, a ∈ l → a < B) : ∀ (d i : Nat) (hi : i < l.length), i + d + 1 = l.length → l[i] + d < B
  | 0, i, hi, _ => hB _ (List.getElem_mem hi)
  | d + 1, i, hi, he => by
    have h1 := incr_le h hB d (i + 1) (by omega) (by omega)
    have h2 := List.pairwise_iff_getElem.1 h i (i + 1) hi (by omega) (by omega)
    omega
theorem incr_len {l : List Nat} {B : Nat} (h : l.Pairwise (· < ·)) (hB : ∀ a, a ∈ l → a < B) : l.length ≤ B := by
  rcases Nat.eq_zero_or_pos l.length with h0 | h0
  · omega
  · have h1 := incr_ge h (l.length - 1) (by omega)
    have h2 := hB _ (List.getElem_mem (show l.length - 1 < l.length by omega))
    omega
theorem incr_range {l : List Nat} {B : Nat} (h : l.Pairwise (· < ·)) (hB : ∀ a, a ∈ l → a < B) (hl : l.length = B) : ∀ i, i < B → l[i]? = some i := fun i hi => by
  have hi' : i < l.length := by omega
  have h1 := incr_ge h i hi'
  have h2 := incr_le h hB (B - 1 - i) i hi' (by omega)
  rw [List.getElem?_eq_getElem hi']
  congr 1; omega
/-- a full system: its rows are units -/
theorem full_units {k t : Nat} {K : List Rw} (h : Red k t K) (hl : K.length = k) {i : Nat} {r : Rw} (hr : K[i]? = some r) : r.1 = (List.replicate k 0).set i 1 := by
  have hik : i < k := by have := (List.getElem?_eq_some_iff.1 hr).1; omega
  have hlead : ∀ j, j < k → (K.map leadN)[j]? = some j := incr_range h.leads (B := k) (fun a ha => by
    obtain ⟨x, hx, rfl⟩ := List.mem_map.1 ha
    obtain ⟨hf, hl⟩ := h.kept.rows x hx
    exact hl.at.lt hf) (by rw [List.length_map, hl])
  have hf := (h.kept.rows r (List.mem_of_getElem? hr)).1
  apply List.ext_getElem?
  intro j
  by_cases hj : j < k
  · obtain ⟨s, hs⟩ : ∃ s, K[j]? = some s := ⟨_, List.getElem?_eq_getElem (by omega)⟩
    have hd := h.delta hr hs
    have hls : leadN s = j := by
      have := hlead j hj
      rw [List.getElem?_map, hs] at this
      simpa using this
    rw [hls] at hd
    have e1 := vR_at (x := r) (l := j) hf hj
    rw [hd] at e1
    unfold atS at e1
    rw [if_pos (Int.natCast_nonneg _), Int.toNat_natCast, List.getD_eq_getElem?_getD, List.getElem?_eq_getElem (by rw [hf.1]; exact hj)] at e1
    rw [List.getElem?_eq_getElem (by rw [hf.1]; exact hj), List.getElem?_set]
    by_cases e : i = j
    · rw [if_pos e] at e1
      rw [if_pos e, if_pos (by simpa using hik)]
      simpa using e1
    · rw [if_neg e] at e1
      rw [if_neg e, List.getElem?_replicate, if_pos hj]
      simpa using e1
  · rw [List.getElem?_eq_none (by rw [hf.1]; omega), List.getElem?_eq_none (by simp; omega)]
theorem known_full {k t : Nat} {K : List Rw} (h : Red k t K) (hl : K.length = k) (hk : k ≤ 65536) {i : Nat} {r : Rw} (hr : K[i]? = some r) : knownS k K i = (r.2, true) := by
  rw [known_find h.kept.rows hk]
  have hik : i < k := by have := (List.getElem?_eq_some_iff.1 hr).1; omega
  have hmt : ∀ (j : Nat) (s : Rw), K[j]? = some s → mtS i s = decide (j = i) := fun j s hs => by
    have hjk : j < k := by have := (List.getElem?_eq_some_iff.1 hs).1; omega
    have hu := full_units h hl hs
    obtain ⟨hf, hd⟩ := h.kept.rows s (List.mem_of_getElem? hs)
    have := (unit_iff hf hd hjk).2 hu
    unfold mtS
    rw [this.1, this.2]
    by_cases e : j = i
    · subst e; simp
    · rw [decide_eq_false e, decide_eq_false (show ¬ ((j : Int) = (i : Int)) by omega)]; simp
  have : K.find? (mtS i) = some r := by
    rw [List.find?_eq_some_iff_getElem]
    obtain ⟨hik', e⟩ := List.getElem?_eq_some_iff.1 hr
    refine ⟨by rw [hmt i r hr]; simp, i, hik', e, fun a ha => ?_⟩
    have hak : a < K.length := by omega
    rw [hmt a K[a] (List.getElem?_eq_getElem hak), decide_eq_false (show ¬ a = i by omega)]; rfl
  rw [this]
theorem Red.le {k t : Nat} {K : List Rw} (h : Red k t K) : K.length ≤ k := by
  have := incr_len h.leads (B := k) (fun a ha => by
    obtain ⟨x, hx, rfl⟩ := List.mem_map.1 ha
    obtain ⟨hf, hl⟩ := h.kept.rows x hx
    exact hl.at.lt hf)
  rwa [List.length_map] at this
end Go.Proofs.YtbfmdfbnhakolaaDoor
namespace Go.Proofs.YtbfmdfbnhakolaaDoor
open Go.RowKit Go.By
theorem rowF_cons {wd : Nat} {x : List UInt8} {l : List (List UInt8)} (hx : x.length = wd) (i : Nat) : rowF wd (x :: l).flatten (i + 1) = rowF wd l.flatten i := by
  unfold rowF
  rw [List.flatten_cons, Nat.add_mul, Nat.one_mul, Nat.add_comm, ← List.drop_drop, ← hx, List.drop_left]
theorem rows_flat {wd : Nat} : ∀ {xss : List (List UInt8)}, (∀ x, x ∈ xss → x.length = wd) → (List.range xss.length).map (rowF wd xss.flatten) = xss
  | [], _ => rfl
  | x :: l, h => by
    have hx := h x (by simp)
    rw [List.length_cons, List.range_succ_eq_map, List.map_cons, List.map_map]
    congr 1
    · unfold rowF; rw [Nat.zero_mul, List.drop_zero, List.flatten_cons, ← hx, List.take_left]
    · have e : (rowF wd (x :: l).flatten ∘ Nat.succ) = rowF wd l.flatten := by funext i; exact rowF_cons hx i
      rw [e]; exact rows_flat (fun y hy => h y (by simp [hy]))
theorem flat_rows {wd : Nat} : ∀ (n : Nat) {C : List UInt8}, C.length = n * wd → ((List.range n).map (rowF wd C)).flatten = C
  | 0, C, h => by have : C = [] := List.length_eq_zero_iff.1 (by simpa using h)
                  subst this; rfl
  | n + 1, C, h => by
    rw [List.range_succ_eq_map, List.map_cons, List.map_map, List.flatten_cons]
    have e : (rowF wd C ∘ Nat.succ) = rowF wd (C.drop wd) := by
      funext i; unfold rowF; simp only [Function.comp]
      rw [List.drop_drop, Nat.succ_mul, Nat.add_comm]
    rw [e, flat_rows n (by rw [List.length_drop, h, Nat.add_mul]; omega)]
    unfold rowF
    rw [Nat.zero_mul, List.drop_zero, List.take_append_drop]
theorem unitC_at (n : Nat) : ∀ k, k ≤ n → ∀ a b, a < n → b < n → (unitC n k)[a * n + b]? = some (if a = b ∧ a < k then 1 else 0)
  | 0, _, a, b, ha, hb => by
    have hlt : a * n + b < n * n := by
      have : (a + 1) * n ≤ n * n := Nat.mul_le_mul_right _ ha
      rw [Nat.add_mul, Nat.one_mul] at this; omega
    unfold unitC; rw [List.getElem?_replicate_of_lt hlt]; simp
  | k + 1, hk, a, b, ha, hb => by
    have hlt : a * n + b < n * n := by
      have : (a + 1) * n ≤ n * n := Nat.mul_le_mul_right _ ha
      rw [Nat.add_mul, Nat.one_mul] at this; omega
    have ih := unitC_at n k (by omega) a b ha hb
    unfold unitC
    rw [List.getElem?_set]
    by_cases e : k * n + k = a * n + b
    · have h1 : k = a := by
        have d1 : (k * n + k) / n = k := by rw [Nat.mul_comm, Nat.mul_add_div (by omega), Nat.div_eq_of_lt (by omega)]; rfl
        have d2 : (a * n + b) / n = a := by rw [Nat.mul_comm, Nat.mul_add_div (by omega), Nat.div_eq_of_lt hb]; rfl
        rw [e, d2] at d1; exact d1.symm
      subst h1
      have h2 : k = b := by omega
      subst h2
      rw [if_pos rfl, unitC_len, if_pos hlt, if_pos ⟨rfl, by omega⟩]
    · rw [if_neg e, ih]
      by_cases h1 : a = b
      · subst h1
        have : a ≠ k := fun h => e (by rw [h])
        by_cases h2 : a < k
        · rw [if_pos ⟨rfl, h2⟩, if_pos ⟨rfl, by omega⟩]
        · rw [if_neg (fun h => h2 h.2), if_neg (fun h => h2 (by omega))]
      · rw [if_neg (fun h => h1 h.1), if_neg (fun h => h1 h.1)]
theorem unit_elem {N k j : Nat} {row : List UInt8} {x : UInt8} (hk : k < N) (hrow : ((List.range N).map (rowF N (unitC N N)))[k]? = some row) (hx : row[j]? = some x) (hj : j < N) : x = if k = j then 1 else 0 := by
  rw [List.getElem?_map, List.getElem?_range hk] at hrow
  have e : rowF N (unitC N N) k = row := by simpa using hrow
  rw [← e] at hx
  unfold rowF at hx
  rw [List.getElem?_take, if_pos hj, List.getElem?_drop, unitC_at N N (Nat.le_refl _) k j hk hj] at hx
  have := Option.some.inj hx
  rw [← this]
  by_cases h : k = j
  · rw [if_pos h, if_pos ⟨h, hk⟩]
  · rw [if_neg h, if_neg (fun g => h g.1)]
/-- a grid is a unit just where its rows are -/
theorem unit_same {N wd m : Nat} {xss : List (List UInt8)} (hm : xss.length = m) (h : ∀ x, x ∈ xss → x.length = wd) : decide (wd = N ∧ m = N ∧ xss.flatten = unitC N N) = (decide (wd = N) && decide (xss = (List.range N).map (rowF N (unitC N N)))) := by
  by_cases e : wd = N
  · subst e
    rw [decide_eq_true rfl, Bool.true_and, decide_eq_decide]
    constructor
    · rintro ⟨_, h2, h3⟩
      have := rows_flat h
      rw [hm, h2, h3] at this
      exact this.symm
    · intro h2
      refine ⟨rfl, ?_, ?_⟩
      · rw [← hm, h2]; simp
      · rw [h2]; exact flat_rows wd (unitC_len wd wd)
  · rw [decide_eq_false (fun h => e h.1), decide_eq_false e, Bool.false_and]
end Go.Proofs.YtbfmdfbnhakolaaDoor
namespace Go.Proofs.YtbfmdfbnhakolaaDoor
open Go.RowKit Go.By
end Go.Proofs.YtbfmdfbnhakolaaDoor
namespace Go.Proofs.YtbfmdfbnhakolaaDoor
open Go.RowKit Go.By
/-- the rows and their data, ahead of the columns: so many -/
def fillF (n : Nat) (cells : List UInt8) (k : Nat) : Nat → Rw := fun i => if i < k then (rowF n cells i, rowF n (unitC n n) i) else ([], [])
theorem fillF_step (n : Nat) (cells : List UInt8) (k : Nat) : updF (fillF n cells k) k (rowF n cells k, rowF n (unitC n n) k) = fillF n cells (k + 1) := by
  funext i
  unfold updF fillF
  by_cases h : i = k
  · rw [if_pos h, if_pos (by omega), h]
  · rw [if_neg h]
    by_cases h2 : i < k
    · rw [if_pos h2, if_pos (by omega)]
    · rw [if_neg h2, if_neg (by omega)]
def sqR (n : Nat) (cells : List UInt8) : List Gf.V := (List.range n).map fun i => vf (rowF n cells i)
def flatF (n : Nat) (F : Nat → Rw) : List UInt8 := ((List.range n).map fun i => (F i).2).flatten
/-- what Inverse gives of a square -/
def RetI (w : World) (n : Nat) (cells : List UInt8) (e : Ending) (w' : World) : Prop :=
  ∃ F : Nat → Rw, (GJ n (sqR n cells) F n ∧ RetG2 5 w n n (flatF n F) 0 e w') ∨ ∃ c, c < n ∧ GJ n (sqR n cells) F c ∧ (∀ i, c ≤ i → i < n → vf (F i).1 c = 0) ∧ RetG2 5 w 0 0 [] 19 e w'
theorem unit_row {n i : Nat} (hi : i < n) : vf (rowF n (unitC n n) i) = Gf.unit i := by
  funext j
  show vf (rowF n (unitC n n) i) j = Gf.unit i j
  unfold vf
  rw [List.getD_eq_getElem?_getD]
  by_cases hj : j < n
  · unfold rowF
    rw [List.getElem?_take, if_pos hj, List.getElem?_drop, unitC_at n n (Nat.le_refl _) i j hi hj]
    show (if i = j ∧ i < n then (1 : UInt8) else 0) = if i = j then 1 else 0
    by_cases hij : i = j
    · rw [if_pos ⟨hij, hi⟩, if_pos hij]
    · rw [if_neg (fun h => hij h.1), if_neg hij]
  · rw [List.getElem?_eq_none (by rw [rowF_len2 (unitC_len n n) hi]; omega)]
    show (0 : UInt8) = if i = j then 1 else 0
    rw [if_neg (by omega)]
theorem fill_init (n : Nat) (cells : List UInt8) (hl : cells.length = n * n) : GJ n (sqR n cells) (fillF n cells n) 0 := by
  refine GJ.init (by simp [sqR]) (fun i hi => ?_) (fun i hi => ?_) (fun i hi => ?_)
  · unfold fillF; rw [if_pos hi]
    exact ⟨rowF_len2 hl hi, rowF_len2 (unitC_len n n) hi⟩
  · unfold fillF sqR; rw [if_pos hi, List.getElem?_map, List.getElem?_range hi]; rfl
  · unfold fillF; rw [if_pos hi]; exact unit_row hi
theorem heap_of_owns2 {w : World} {base E g n : Nat} {L : List Value} (h : w.ownsRow base E 2 (.slice (some ⟨g, 0, none⟩) n n) n L) : w.heap[g]? = some (.cells L.toArray E (0, 0)) := by
  rcases h.2 with ⟨h1, _⟩ | ⟨g', cap, cur, hv, _, hh, _, _, hs, ht⟩
  · cases h1
  · cases hv
    rw [hh]
    have : cur = L.toArray := by
      rw [← ht, List.take_of_length_le (by simp [hs])]
    rw [this]
theorem RMem.make {w : World} {g n : Nat} {cells : List UInt8} (h : w.heap[g]? = some (.cells (madeCells #[.slice none 0 0, .slice none 0 0] (n * 2)) 63 (0, 0))) : RMem w g 63 n (fillF n cells 0) := by
  refine ⟨_, h, by simp [madeCells], fun i hi => ⟨.slice none 0 0, .slice none 0 0, ?_, ?_, none, 0, 0, none, 0, 0, rfl, rfl, ?_, ?_, (fun a ha => by cases ha), (fun a ha => by cases ha)⟩⟩
  · have h1 : i * 2 < n * 2 := by omega
    simp [madeCells, h1, Nat.mul_mod_left]
  · have h1 : i * 2 + 1 < n * 2 := by omega
    simp [madeCells, h1, Nat.mul_add_mod]
  · exact Sl.nil0 _ _
  · exact Sl.nil0 _ _
/-- so many rows of the result are put -/
def putC (k : Nat) (F : Nat → List UInt8) (j : Nat) : List UInt8 := ((List.range j).map F).flatten ++ List.replicate ((k - j) * k) 0
theorem put_flat {k : Nat} {F : Nat → List UInt8} (h : ∀ i, i < k → (F i).length = k) : ∀ j, j ≤ k → (((List.range j).map F).flatten).length = j * k
  | 0, _ => by simp
  | j + 1, hj => by
    rw [List.range_succ, List.map_append, List.flatten_append, List.length_append, put_flat h j (by omega), Nat.add_mul]
    simp [h j (by omega)]
theorem putC_step {k j : Nat} {F : Nat → List UInt8} (h : ∀ i, i < k → (F i).length = k) (hj : j < k) : (putC k F j).take (j * k) ++ (F j ++ (putC k F j).drop (j * k + k)) = putC k F (j + 1) := by
  have hl := put_flat h j (by omega)
  unfold putC
  rw [← hl, List.take_left, ← List.drop_drop, List.drop_left, List.drop_replicate]
  rw [List.range_succ, List.map_append, List.flatten_append]
  simp only [List.map_cons, List.map_nil, List.flatten_cons, List.flatten_nil, List.append_nil, List.append_assoc]
  congr 3
  have : (k - j) * k = (k - (j + 1)) * k + k := by rw [← Nat.succ_mul]; congr 1; omega
  omega
theorem putC_zero (k : Nat) (F : Nat → List UInt8) : putC k F 0 = List.replicate (k * k) 0 := by simp [putC]
theorem putC_full (k : Nat) (F : Nat → List UInt8) : putC k F k = ((List.range k).map F).flatten := by simp [putC]
theorem wp_copy_row {P : Program} {w : World} {o : Oper} {a : Act} {K : Act → World → Prop} {Q : Exit → Act → World → Prop} (d s : Operand) (dT sT : TypeId)
    (ho : o.op = .call { callee := .builtin .copy, args := #[d, s], argTypes := #[dT, sT] }) (elem : TypeId) (hu : P.underlying dT = some (.slice elem)) (hsz : (P.info? elem).map (·.size) = some 1)
    (g off dLen dCap : Nat) (ad : Addr) (sLen sCap : Nat) (hd : a.eval d = .slice (some ⟨g, off, none⟩) dLen dCap) (hs : a.eval s = .slice (some ad) sLen sCap)
    (cur : Array Value) (t : TypeId) (hg : w.heap[g]? = some (.cells cur t (0, 0))) (cs : List Value) (hn : cs.length = Nat.min sLen dLen)
    (hsrc : ∀ j v, cs[j]? = some v → w.cell? (ad.add j) = some v) (hfit : off + cs.length ≤ cur.size) (h1 : ∀ v ∈ cs, v.oneCell' = true)
    (h : K (a.put o.dst (goInt cs.length)) (w.setRow g (cur.toList.take off ++ (cs ++ cur.toList.drop (off + cs.length))).toArray)) : o.wp P a w K Q := by
  have hrun := run_copy_row (P := P) w dT sT o.type elem g off dLen dCap ad sLen sCap cur t cs hu hsz hg hn hsrc hfit h1
  unfold Oper.wp
  simp [execOp, ho, resolve, invoke, builtin, hd, hs, hrun, Result.andThen]
  exact h
/-- a row of a grid: where it lies -/
def shpAt (g o m : Nat) : Shp := ⟨fun v _ => ∃ c, v = .slice (some ⟨g, o, none⟩) m c, fun _ _ _ h _ => h⟩
/-- the rows from c on -/
def tailF (F : Nat → Rw) (c n : Nat) : List Rw := (List.range (n - c)).map fun j => F (c + j)
theorem tailF_at (F : Nat → Rw) {c n j : Nat} (h : j < n - c) : (tailF F c n)[j]? = some (F (c + j)) := by
  unfold tailF; rw [List.getElem?_map, List.getElem?_range h]; rfl
theorem RMem.tail {w : World} {g T n c : Nat} {F : Nat → Rw} (h : RMem w g T n F) (hn : n ≤ maxLen) : RwS w (some ⟨g, c * 2, none⟩) (n - c) (n - c) (tailF F c n) := by
  obtain ⟨cs, h1, h2, h3⟩ := h
  refine ⟨by simp [tailF], Nat.le_refl _, by omega, (fun e => by cases e), fun j k hj => ?_⟩
  have hjl := (List.getElem?_eq_some_iff.1 hj).1
  simp [tailF] at hjl
  rw [tailF_at F hjl] at hj
  cases hj
  obtain ⟨u, v, e1, e2, q1, m1, c1, q2, m2, c2, rfl, rfl, a, b, -, -⟩ := h3 (c + j) (by omega)
  refine ⟨g, c * 2, q1, m1, c1, q2, m2, c2, rfl, ?_, ?_, a, b⟩
  · rw [cell_of_row _ _ _ _ _ _ h1, ← e1]; congr 1; omega
  · rw [cell_of_row _ _ _ _ _ _ h1, ← e2]; congr 1; omega
theorem idx_cases (F : Nat → Rw) (c n : Nat) (hc : c ≤ n) (f : Rw → Bool) : (idxf f (tailF F c n) = -1 ∧ ∀ i, c ≤ i → i < n → f (F i) = false) ∨ ∃ j : Nat, idxf f (tailF F c n) = j ∧ c + j < n ∧ f (F (c + j)) = true := by
  unfold idxf
  cases h : (tailF F c n).findIdx? f with
  | none =>
    refine .inl ⟨rfl, fun i h1 h2 => ?_⟩
    have := List.findIdx?_eq_none_iff.1 h (F i) (List.mem_of_getElem? (i := i - c) (by rw [tailF_at F (by omega)]; congr 2; omega))
    exact this
  | some j =>
    refine .inr ⟨j, rfl, ?_⟩
    obtain ⟨h1, h2, -⟩ := List.findIdx?_eq_some_iff_getElem.1 h
    have h3 : j < n - c := by simpa [tailF] using h1
    refine ⟨by omega, ?_⟩
    have h4 := List.getElem?_eq_getElem h1
    rw [tailF_at F h3] at h4
    injection h4 with h4
    rw [h4]; exact h2
end Go.Proofs.YtbfmdfbnhakolaaDoor
namespace Go.Proofs.YtbfmdfbnhakolaaDoor
open Go.RowKit Go.By Gf
theorem vf_comb : ∀ (r : List UInt8) (R : List (List UInt8)) (m : Nat) (z : List UInt8), (∀ x, x ∈ R → x.length = m) → z.length = m → ∀ j, vf (combF z r R) j = vf z j ^^^ comb r (R.map vf) j
  | [], R, m, z, _, _, j => by simp [combF, comb_nil']
  | c :: cs, [], m, z, _, _, j => by simp [combF, comb_nil]
  | c :: cs, x :: l, m, z, h, hz, j => by
    have e : combF z (c :: cs) (x :: l) = combF (axpy c x z) cs l := rfl
    have hx : x.length = z.length := by rw [h x (by simp), hz]
    have hl : (axpy c x z).length = m := by
      have := combF_len [c] [x] m (fun y hy => by simp at hy; rw [hy]; exact h x (by simp)) z hz
      exact this
    rw [e, vf_comb cs l m _ (fun y hy => h y (by simp [hy])) hl j, vf_axpy hx, List.map_cons, comb_cons, UInt8.xor_assoc]
theorem range_vf (r : List UInt8) : (List.range r.length).map (vf r) = r := by
  apply List.ext_getElem?
  intro i
  by_cases hi : i < r.length
  · rw [List.getElem?_map, List.getElem?_range hi, List.getElem?_eq_getElem hi]
    simp [vf, hi]
  · rw [List.getElem?_eq_none (by simpa using hi), List.getElem?_eq_none (by simpa using hi)]
theorem vf_zeros (m j : Nat) : vf (List.replicate m 0) j = 0 := vf_zero (fun x hx => (List.mem_replicate.1 hx).2) j
theorem vf_mul {w2 : Nat} {R : List (List UInt8)} {r : List UInt8} (h : ∀ x, x ∈ R → x.length = w2) (hl : r.length = R.length) : vf (mulR w2 R r) = mulV R.length (R.map vf) (vf r) := by
  funext j
  unfold mulR mulV
  rw [vf_comb r R w2 _ h (by simp) j, vf_zeros, ← hl, range_vf, UInt8.zero_xor]
theorem flat_len {wd : Nat} : ∀ {L : List (List UInt8)}, (∀ x, x ∈ L → x.length = wd) → L.flatten.length = L.length * wd
  | [], _ => by simp
  | x :: l, h => by
    rw [List.flatten_cons, List.length_append, h x (by simp), flat_len (fun y hy => h y (by simp [hy])), List.length_cons, Nat.add_mul]; omega
theorem rows_at {wd m : Nat} {L : List (List UInt8)} (h : ∀ x, x ∈ L → x.length = wd) (hm : L.length = m) : (List.range m).map (rowF wd L.flatten) = L := by rw [← hm]; exact rows_flat h
theorem kF_rank {wd m : Nat} {L : List (List UInt8)} (h : ∀ x, x ∈ L → x.length = wd) (hm : L.length = m) : (kF wd L.flatten m).length = (iK L).length := by
  unfold kF iK; rw [rows_at h hm]; exact rank_same L h
theorem sq_rows {n : Nat} {L : List (List UInt8)} (h : ∀ x, x ∈ L → x.length = n) (hm : L.length = n) : sqR n L.flatten = L.map vf := by
  unfold sqR
  rw [show (fun i => vf (rowF n L.flatten i)) = vf ∘ rowF n L.flatten from rfl, ← List.map_map, rows_at h hm]
theorem getD_row {wd a b : Nat} (C : List UInt8) (hb : b < wd) : (rowF wd C a).getD b 0 = C.getD (a * wd + b) 0 := by
  unfold rowF
  rw [List.getD_eq_getElem?_getD, List.getD_eq_getElem?_getD, List.getElem?_take, if_pos hb, List.getElem?_drop]
theorem turn_eq {wd m : Nat} {L : List (List UInt8)} (h : ∀ x, x ∈ L → x.length = wd) (hm : L.length = m) : turnR m wd L.flatten = turnX wd L := by
  unfold turnR turnX
  apply List.map_congr_left
  intro b hb
  have hbw := List.mem_range.1 hb
  conv => rhs; rw [← rows_at h hm]
  rw [List.map_map]
  apply List.map_congr_left
  intro a _
  exact (getD_row _ hbw).symm
theorem turnX_cols {wd m : Nat} {L : List (List UInt8)} (hm : L.length = m) : (turnX wd L).map vf = cols wd (L.map vf) := by
  unfold turnX cols
  rw [List.map_map]
  apply List.map_congr_left
  intro b _
  funext i
  show (L.map fun row => row.getD b 0).getD i 0 = ((L.map vf).getD i fun _ => 0) b
  rw [List.getD_eq_getElem?_getD, List.getD_eq_getElem?_getD, List.getElem?_map, List.getElem?_map]
  cases L[i]? with
  | none => rfl
  | some r => rfl
/-- what Inverse gives, as rows -/
theorem inv_rank_full {n : Nat} {L : List (List UInt8)} {F : Nat → Rw} (h : ∀ x, x ∈ L → x.length = n) (hm : L.length = n) (g : GJ n (sqR n L.flatten) F n) : (iK L).length = n := by
  rw [sq_rows h hm] at g
  exact g.full (by simp [hm]) (ins_rank L h)
theorem inv_rank_less {n c : Nat} {L : List (List UInt8)} {F : Nat → Rw} (h : ∀ x, x ∈ L → x.length = n) (hm : L.length = n) (hc : c < n) (g : GJ n (sqR n L.flatten) F c) (hz : ∀ i, c ≤ i → i < n → vf (F i).1 c = 0) : (iK L).length < n := by
  rw [sq_rows h hm] at g
  exact g.fail hc hz (ins_rank L h)
def rowsD (n : Nat) (F : Nat → Rw) : List (List UInt8) := (List.range n).map fun i => (F i).2
theorem rowsD_len (n : Nat) (F : Nat → Rw) : (rowsD n F).length = n := by simp [rowsD]
theorem rowsD_wide {n c : Nat} {G : List V} {F : Nat → Rw} (g : GJ n G F c) : ∀ x, x ∈ rowsD n F → x.length = n := fun x hx => by
  obtain ⟨i, hi, rfl⟩ := List.mem_map.1 hx
  exact (g.good i (List.mem_range.1 hi)).1.2
theorem flatF_rows (n : Nat) (F : Nat → Rw) : flatF n F = (rowsD n F).flatten := rfl
theorem units_flat {n : Nat} {P : List (List UInt8)} (h : ∀ x, x ∈ P → x.length = n) (hu : P.map vf = units n) : P.flatten = unitC n n := by
  have hl : P.length = n := by have := congrArg List.length hu; simpa [units] using this
  have e : P = (List.range n).map (rowF n (unitC n n)) := by
    apply List.ext_getElem?
    intro i
    by_cases hi : i < n
    · have hip : i < P.length := by rw [hl]; exact hi
      rw [List.getElem?_map, List.getElem?_range hi, List.getElem?_eq_getElem hip]
      congr 1
      have h1 := congrArg (fun l => l[i]?) hu
      simp only [List.getElem?_map, List.getElem?_eq_getElem hip, units, List.getElem?_range hi, Option.map_some] at h1
      injection h1 with h1
      have hr := rowF_len2 (unitC_len n n) hi
      exact vf_inj (by rw [h _ (List.getElem_mem hip), hr]) (fun j _ => by rw [h1, unit_row hi])
    · rw [List.getElem?_eq_none (by rw [hl]; omega), List.getElem?_eq_none (by simpa using hi)]
  rw [e]; exact flat_rows n (unitC_len n n)
theorem mul_vf {n w2 : Nat} {L D : List (List UInt8)} (hL : ∀ x, x ∈ L → x.length = n) (hD : ∀ x, x ∈ D → x.length = w2) (hd : D.length = n) : (L.map (mulR w2 D)).map vf = (L.map vf).map (mulV n (D.map vf)) := by
  rw [List.map_map, List.map_map]
  apply List.map_congr_left
  intro r hr
  show vf (mulR w2 D r) = mulV n (D.map vf) (vf r)
  rw [vf_mul hD (by rw [hL r hr, hd]), hd]
theorem mul_wide {w2 : Nat} {L D : List (List UInt8)} (hD : ∀ x, x ∈ D → x.length = w2) : ∀ x, x ∈ L.map (mulR w2 D) → x.length = w2 := fun x hx => by
  obtain ⟨r, _, rfl⟩ := List.mem_map.1 hx
  exact mulR_len hD r
theorem vrow_units {n : Nat} {L : List (List UInt8)} {F : Nat → Rw} (h : ∀ x, x ∈ L → x.length = n) (hm : L.length = n) (g : GJ n (sqR n L.flatten) F n) : ((rowsD n F).map vf).map (mulV n (L.map vf)) = units n := by
  have hw := g.whole
  rw [sq_rows h hm] at hw
  have e : (rowsD n F).map vf = (List.range n).map fun i => vf (F i).2 := by unfold rowsD; rw [List.map_map]; rfl
  rw [e]; exact hw
/-- the product with the inverse, from the right -/
theorem inv_right {n : Nat} {L : List (List UInt8)} {F : Nat → Rw} (h : ∀ x, x ∈ L → x.length = n) (hm : L.length = n) (g : GJ n (sqR n L.flatten) F n) : (L.map (mulR n (rowsD n F))).flatten = unitC n n := by
  have hD := rowsD_wide g
  refine units_flat (mul_wide hD) ?_
  rw [mul_vf h hD (rowsD_len n F)]
  exact inv_both (by simp [hm]) (by simp [rowsD]) (fun d hd => by
    obtain ⟨x, hx, rfl⟩ := List.mem_map.1 hd
    have := vf_wide x
    rw [hD x hx] at this; exact this) (vrow_units h hm g)
/-- .. and from the left -/
theorem inv_left {n : Nat} {L : List (List UInt8)} {F : Nat → Rw} (h : ∀ x, x ∈ L → x.length = n) (hm : L.length = n) (g : GJ n (sqR n L.flatten) F n) : ((rowsD n F).map (mulR n L)).flatten = unitC n n := by
  refine units_flat (mul_wide h) ?_
  rw [mul_vf (rowsD_wide g) h hm]
  exact vrow_units h hm g
end Go.Proofs.YtbfmdfbnhakolaaDoor
namespace Go.Proofs.YtbfmdfbnhakolaaDoor
open Go.RowKit Go.By
theorem prog_set {Z S : List UInt8} {i n : Nat} {y : UInt8} (hz : Z.length = n) (hs : S.length = n) (hi : i < n) : ((prog Z S i).set i y).length = n := by rw [List.length_set, prog_length Z S i n hz hs (by omega)]
end Go.Proofs.YtbfmdfbnhakolaaDoor
namespace Go.Proofs.YtbfmdfbnhakolaaDoor
open Go.RowKit Go.By
end Go.Proofs.YtbfmdfbnhakolaaDoor
namespace Go.Proofs.YtbfmdfbnhakolaaDoor
open Go.RowKit Go.By
end Go.Proofs.YtbfmdfbnhakolaaDoor
namespace Go.Proofs.YtbfmdfbnhakolaaDoor
open Go.RowKit Go.By
end Go.Proofs.YtbfmdfbnhakolaaDoor
namespace Go.Proofs.YtbfmdfbnhakolaaDoor
open Go.RowKit Go.By
theorem fit_len {wd : Nat} {xss : List (List UInt8)} : ∀ x, x ∈ xss.map (fitR wd) → x.length = wd := fun x hx => by
  obtain ⟨r, _, rfl⟩ := List.mem_map.1 hx
  exact fitR_len wd r
theorem turnX_len {wd m : Nat} {L : List (List UInt8)} (hm : L.length = m) : ∀ x, x ∈ turnX wd L → x.length = m := fun x hx => by
  obtain ⟨b, _, rfl⟩ := List.mem_map.1 hx
  rw [List.length_map, hm]
theorem turnX_length (wd : Nat) (L : List (List UInt8)) : (turnX wd L).length = wd := by simp [turnX]
/-- what Inverse gives, as rows -/
def RetJ (w : World) (n : Nat) (L : List (List UInt8)) (e : Ending) (w' : World) : Prop :=
  (∃ F : Nat → Rw, GJ n (sqR n L.flatten) F n ∧ (iK L).length = n ∧ RetG2 5 w n n (rowsD n F).flatten 0 e w') ∨ ((iK L).length < n ∧ RetG2 5 w 0 0 [] 19 e w')
end Go.Proofs.YtbfmdfbnhakolaaDoor
namespace Go.Proofs.YtbfmdfbnhakolaaDoor
open Go.RowKit Go.By
/-- a row without a place -/
def cutF (i : Nat) (r : List UInt8) : List UInt8 := r.take i ++ r.drop (i + 1)
theorem cutF_len {i n : Nat} {r : List UInt8} (h : r.length = n) (hi : i < n) : (cutF i r).length = n - 1 := by
  unfold cutF; rw [List.length_append, List.length_take, List.length_drop]; omega
theorem Sl_pre {α : Type} {enc : α → Value} {w : World} {b o n c k : Nat} {xs : List α} (h : Sl enc w (some ⟨b, o, none⟩) n c xs) (hk : k ≤ n) : Sl enc w (some ⟨b, o, none⟩) k c (xs.take k) :=
  ⟨by rw [List.length_take, h.len]; omega, by have := h.le; omega, h.max, (fun e => by cases e), fun j hj => by
    rw [List.length_take] at hj
    obtain ⟨b', o', e, hc⟩ := h.rs j (by omega)
    exact ⟨b', o', e, by rw [hc]; simp⟩⟩
end Go.Proofs.YtbfmdfbnhakolaaDoor
namespace Go.Proofs.YtbfmdfbnhakolaaDoor
open Go.RowKit Go.By Gf
/-- rows in memory, so many -/
def shpRows (n : Nat) (L : List (List UInt8)) : Shp := ⟨fun v W => ∃ q c, v = .slice q n c ∧ Sl2 W q n c L, fun _ _ _ ⟨q, c, e, h⟩ hb => ⟨q, c, e, h.keep hb⟩⟩
def detM (xss : List (List UInt8)) : Nat → V := fun i => vf (xss.getD i [])
theorem cutF_at {i c n : Nat} {r : List UInt8} (h : r.length = n + 1) (hi : i < n + 1) (hc : c < n) : vf (cutF i r) c = vf r (skip i c) := by
  unfold vf cutF skip
  rw [List.getD_eq_getElem?_getD, List.getD_eq_getElem?_getD, List.getElem?_append]
  by_cases hci : c < i
  · rw [if_pos (by rw [List.length_take]; omega), if_pos hci, List.getElem?_take, if_pos hci]
  · rw [if_neg (by rw [List.length_take]; omega), if_neg hci, List.getElem?_drop, List.length_take, h, Nat.min_eq_left (by omega)]
    congr 2; omega
theorem det_cut {n i : Nat} {xss : List (List UInt8)} (hl : xss.length = n + 1) (h : ∀ x, x ∈ xss → x.length = n + 1) (hi : i < n + 1) : det n (detM (xss.tail.map (cutF i))) = det n (minor (detM xss) i) := by
  refine det_congr fun r c hr hc => ?_
  unfold detM minor
  have hx : xss[r + 1]? = some (xss[r + 1]'(by omega)) := List.getElem?_eq_getElem (by omega)
  show vf ((xss.tail.map (cutF i)).getD r []) c = vf (xss.getD (r + 1) []) (skip i c)
  rw [List.getD_eq_getElem?_getD, List.getElem?_map, List.getElem?_tail, hx, List.getD_eq_getElem?_getD, hx]
  exact cutF_at (h _ (List.getElem_mem (by omega))) hi hc
end Go.Proofs.YtbfmdfbnhakolaaDoor
namespace Go.Proofs.YtbfmdfbnhakolaaDoor
open Go.RowKit Go.By Gf
theorem rows_wide {n : Nat} {L : List (List UInt8)} (h : ∀ x, x ∈ L → x.length = n) : ∀ v, v ∈ L.map vf → Wide n v := fun v hv => by
  obtain ⟨x, hx, rfl⟩ := List.mem_map.1 hv
  have := vf_wide x
  rw [h x hx] at this; exact this
theorem rank_high {m : Nat} {L : List (List UInt8)} (hm : L.length = m) : (iK L).length ≤ m := by
  have := iK_len L m
  rwa [List.take_of_length_le (by omega)] at this
theorem rank_wide {wd : Nat} {L : List (List UInt8)} (h : ∀ x, x ∈ L → x.length = wd) : (iK L).length ≤ wd := (ins_rank L h).le_width (rows_wide h)
theorem rank_turn {wd m : Nat} {L : List (List UInt8)} (h : ∀ x, x ∈ L → x.length = wd) (hm : L.length = m) : (iK (turnX wd L)).length = (iK L).length := by
  have h2 := ins_rank (turnX wd L) (turnX_len hm)
  rw [turnX_cols hm] at h2
  exact (cols_rank (rows_wide h) (ins_rank L h) h2).symm
theorem turn_turn {wd m : Nat} {L : List (List UInt8)} (h : ∀ x, x ∈ L → x.length = wd) (hm : L.length = m) : (turnX m (turnX wd L)).flatten = L.flatten := by
  rcases Nat.eq_zero_or_pos wd with h0 | h0
  · subst h0
    have e1 : L.flatten = [] := List.length_eq_zero_iff.1 (by rw [flat_len h, Nat.mul_zero])
    have e2 : (turnX m (turnX 0 L)).flatten = [] := List.length_eq_zero_iff.1 (by rw [flat_len (wd := 0) (turnX_len (turnX_length 0 L)), Nat.mul_zero])
    rw [e1, e2]
  · congr 1
    apply List.ext_getElem?
    intro i
    by_cases hi : i < m
    · have hx : L[i]? = some (L[i]'(by omega)) := List.getElem?_eq_getElem (by omega)
      have hl := h _ (List.getElem_mem (l := L) (n := i) (by omega))
      rw [hx]
      have e : (turnX m (turnX wd L))[i]? = some ((turnX wd L).map fun row => row.getD i 0) := by
        unfold turnX; rw [List.getElem?_map, List.getElem?_range hi]; rfl
      rw [e]
      congr 1
      unfold turnX
      rw [List.map_map]
      apply List.ext_getElem?
      intro j
      by_cases hj : j < wd
      · rw [List.getElem?_map, List.getElem?_range hj, List.getElem?_eq_getElem (by omega)]
        show some ((L.map fun row => row.getD j 0).getD i 0) = _
        rw [List.getD_eq_getElem?_getD, List.getElem?_map, hx]
        show some ((L[i]'(by omega)).getD j 0) = _
        rw [List.getD_eq_getElem?_getD, List.getElem?_eq_getElem (by omega)]; rfl
      · rw [List.getElem?_eq_none (by simpa using hj), List.getElem?_eq_none (by omega)]
    · rw [List.getElem?_eq_none (by rw [turnX_length]; omega), List.getElem?_eq_none (by omega)]
theorem rank_mul {k v : Nat} {L K : List (List UInt8)} (hL : ∀ x, x ∈ L → x.length = k) (hK : ∀ x, x ∈ K → x.length = v) (hk : K.length = k) : (iK (L.map (mulR v K))).length ≤ (iK L).length ∧ (iK (L.map (mulR v K))).length ≤ (iK K).length := by
  have h := ins_rank (L.map (mulR v K)) (mul_wide hK)
  rw [mul_vf hL hK hk] at h
  exact ⟨rank_mul_left h (ins_rank L hL), rank_mul_right (by simp [hk]) h (ins_rank K hK)⟩
/-- a column more, where all rows are independent -/
theorem GJ.more {n c : Nat} {G : List V} {F : Nat → Rw} (h : GJ n G F c) (hc : c < n) (hr : Rk G n) : ∃ F', GJ n G F' (c + 1) := by
  by_cases hz : ∀ i, c ≤ i → i < n → vf (F i).1 c = 0
  · exact absurd (h.fail hc hz hr) (Nat.lt_irrefl n)
  · have : ∃ i, c ≤ i ∧ i < n ∧ vf (F i).1 c ≠ 0 := by
      apply Classical.byContradiction
      intro hne
      exact hz fun i h1 h2 => Classical.byContradiction fun h3 => hne ⟨i, h1, h2, h3⟩
    obtain ⟨i, h1, h2, h3⟩ := this
    have hs := h.swap hc h2 h1
    have hn := hs.norm hc (by rw [swF_at]; exact h3)
    have hm : ∀ k, k ≤ n → ∃ F', GJm n G F' c k := by
      intro k
      induction k with
      | zero => intro _; exact ⟨_, hn⟩
      | succ k ih =>
        intro hk
        obtain ⟨F', hF⟩ := ih (by omega)
        by_cases e : k = c
        · subst e; exact ⟨F', hF.skip⟩
        · exact ⟨_, hF.step hc (by omega) e⟩
    obtain ⟨F', hF⟩ := hm n (Nat.le_refl _)
    exact ⟨F', hF.done⟩
theorem GJ.all {n : Nat} {L : List (List UInt8)} (h : ∀ x, x ∈ L → x.length = n) (hm : L.length = n) (hr : (iK L).length = n) : ∃ F, GJ n (L.map vf) F n := by
  have h0 : GJ n (L.map vf) (fillF n L.flatten n) 0 := by
    have := fill_init n L.flatten (by rw [flat_len h, hm])
    rwa [sq_rows h hm] at this
  have hR : Rk (L.map vf) n := by have := ins_rank L h; rwa [show (L.foldl (fun K r => insF K (r, [])) []).length = n from hr] at this
  have : ∀ c, c ≤ n → ∃ F, GJ n (L.map vf) F c := by
    intro c
    induction c with
    | zero => intro _; exact ⟨_, h0⟩
    | succ c ih => intro hc; obtain ⟨F, hF⟩ := ih (by omega); exact hF.more (by omega) hR
  exact this n (Nat.le_refl _)
theorem detM_eq {n : Nat} {L : List (List UInt8)} (hm : L.length = n) : det n (detM L) = det n (fun i => (L.map vf).getD i fun _ => 0) := by
  refine det_congr fun r c hr hc => ?_
  have hx : L[r]? = some (L[r]'(by omega)) := List.getElem?_eq_getElem (by omega)
  show vf (L.getD r []) c = ((L.map vf).getD r fun _ => 0) c
  rw [List.getD_eq_getElem?_getD, List.getD_eq_getElem?_getD, List.getElem?_map, hx]; rfl
/-- the rank is full just where the determinant isn't 0 -/
theorem det_rank {n : Nat} {L : List (List UInt8)} (h : ∀ x, x ∈ L → x.length = n) (hm : L.length = n) : (iK L).length = n ↔ det n (detM L) ≠ 0 := by
  constructor
  · intro hr
    obtain ⟨F, hF⟩ := GJ.all h hm hr
    rw [detM_eq hm]; exact hF.det
  · intro hd
    have hI : Ind (L.map vf) := by
      apply Classical.byContradiction
      intro hni
      exact hd (by rw [detM_eq hm]; exact det_not_ind (by simp [hm]) hni)
    have h1 := ins_rank L h
    have h2 : Rk (L.map vf) n := ⟨L.map vf, hI, by simp [hm], fun b hb => Sp.mem hb, fun b hb => Sp.mem hb⟩
    exact h1.unique h2
/-- the inverse's inverse -/
theorem inv_back {n : Nat} {L : List (List UInt8)} {F E : Nat → Rw} (h : ∀ x, x ∈ L → x.length = n) (hm : L.length = n) (g : GJ n (sqR n L.flatten) F n) (e : GJ n (sqR n (rowsD n F).flatten) E n) : (rowsD n E).flatten = L.flatten := by
  congr 1
  have hD := rowsD_wide g
  have hE := rowsD_wide e
  have hu := vrow_units h hm g
  have hv := vrow_units hD (rowsD_len n F) e
  apply List.ext_getElem?
  intro i
  by_cases hi : i < n
  · have x1 : L[i]? = some (L[i]'(by omega)) := List.getElem?_eq_getElem (by omega)
    have x2 : (rowsD n E)[i]? = some ((rowsD n E)[i]'(by rw [rowsD_len]; exact hi)) := List.getElem?_eq_getElem (by rw [rowsD_len]; exact hi)
    rw [x1, x2]
    congr 1
    have l1 := h _ (List.getElem_mem (l := L) (n := i) (by omega))
    have l2 := hE _ (List.getElem_mem (l := rowsD n E) (n := i) (by rw [rowsD_len]; exact hi))
    have k := congrArg (fun l => l[i]?) hv
    simp only [List.getElem?_map, x2, Option.map_some, units, List.getElem?_range hi] at k
    injection k with k
    have w := vf_wide ((rowsD n E)[i]'(by rw [rowsD_len]; exact hi))
    rw [l2] at w
    have := inv_row (D := (rowsD n F).map vf) (G := L.map vf) (n := n) (i := i) (b := vf (L[i]'(by omega))) (by simp [hm]) (by simp [rowsD]) hu w (by rw [List.getElem?_map, x1]; rfl) k
    exact vf_inj (by rw [l1, l2]) (fun j _ => by rw [this])
  · rw [List.getElem?_eq_none (by rw [rowsD_len]; omega), List.getElem?_eq_none (by omega)]
theorem inv_full {n : Nat} {L : List (List UInt8)} {F : Nat → Rw} (h : ∀ x, x ∈ L → x.length = n) (hm : L.length = n) (g : GJ n (sqR n L.flatten) F n) : (iK (rowsD n F)).length = n := by
  have hD := rowsD_wide g
  have hI : Ind ((rowsD n F).map vf) := inv_ind (G := L.map vf) (by simp [rowsD]) (vrow_units h hm g)
  exact (ins_rank (rowsD n F) hD).unique ⟨(rowsD n F).map vf, hI, by simp [rowsD], fun b hb => Sp.mem hb, fun b hb => Sp.mem hb⟩
end Go.Proofs.YtbfmdfbnhakolaaDoor
namespace Go.Proofs.YtbfmdfbnhakolaaDoor
open Go.RowKit Go.By Gf
/-- the bytes behind the first k are those that the symbols give -/
def ConsV (k : Nat) (B : List V) (v : V) : Prop := ∀ j, v (k + j) = mulV k B v j
theorem mulV_congr {n : Nat} {B : List V} {u v : V} (h : ∀ i, i < n → u i = v i) : mulV n B u = mulV n B v := by
  unfold mulV
  have : (List.range n).map u = (List.range n).map v := List.map_congr_left fun i hi => h i (List.mem_range.1 hi)
  rw [this]
theorem mulV_nought (n : Nat) (B : List V) : mulV n B (fun _ => 0) = fun _ => 0 := lin_zero (mulV_scale n B)
theorem cons_zero (k : Nat) (B : List V) : ConsV k B (fun _ => 0) := fun j => by rw [mulV_nought]
theorem cons_add {k : Nat} {B : List V} {u v : V} (h : ConsV k B u) (g : ConsV k B v) : ConsV k B (fun j => u j ^^^ v j) := fun j => by
  rw [mulV_add]; show u (k + j) ^^^ v (k + j) = _; rw [h j, g j]
theorem cons_scale {k : Nat} {B : List V} {v : V} (x : UInt8) (h : ConsV k B v) : ConsV k B (fun j => gmul x (v j)) := fun j => by
  rw [mulV_scale]; show gmul x (v (k + j)) = _; rw [h j]
theorem cons_comb {k : Nat} {B : List V} : ∀ (c : List UInt8) (A : List V), (∀ a, a ∈ A → ConsV k B a) → ConsV k B (comb c A)
  | [], A, _ => by
    have : comb [] A = fun _ => 0 := by funext j; exact comb_nil' A j
    rw [this]; exact cons_zero k B
  | c :: cs, [], _ => by
    have : comb (c :: cs) [] = fun _ => 0 := by funext j; exact comb_nil _ j
    rw [this]; exact cons_zero k B
  | c :: cs, a :: A, h => by
    have : comb (c :: cs) (a :: A) = fun j => (fun j => gmul c (a j)) j ^^^ comb cs A j := by funext j; exact comb_cons c cs a A j
    rw [this]
    exact cons_add (cons_scale c (h a (by simp))) (cons_comb cs A fun b hb => h b (by simp [hb]))
theorem cons_sp {k : Nat} {B A : List V} {v : V} (h : ∀ a, a ∈ A → ConsV k B a) (hs : Sp A v) : ConsV k B v := by
  obtain ⟨c, _, rfl⟩ := hs; exact cons_comb c A h
/-- a row and what the symbols give of it -/
def rowC (n : Nat) (FX : List (List UInt8)) (w : List UInt8) : Rw := (w, mulR n FX w)
theorem rowC_fit {k n : Nat} {FX : List (List UInt8)} {w : List UInt8} (hF : ∀ x, x ∈ FX → x.length = n) (hw : w.length = k) : Fit k n (rowC n FX w) := ⟨hw, mulR_len hF w⟩
theorem vR_right {k n j : Nat} {r : Rw} (hf : Fit k n r) : vR r (k + j) = vf r.2 j := by
  unfold vR vf cat
  rw [List.getD_eq_getElem?_getD, List.getElem?_append_right (by rw [hf.1]; omega), hf.1, Nat.add_sub_cancel_left, List.getD_eq_getElem?_getD]
theorem vR_left {k n j : Nat} {r : Rw} (hf : Fit k n r) (hj : j < k) : vR r j = vf r.1 j := vf_app_left (by rw [hf.1]; exact hj)
theorem rowC_cons {k n : Nat} {FX : List (List UInt8)} {w : List UInt8} (hF : ∀ x, x ∈ FX → x.length = n) (hk : FX.length = k) (hw : w.length = k) : ConsV k (FX.map vf) (vR (rowC n FX w)) := fun j => by
  have hf := rowC_fit hF hw
  rw [vR_right hf]
  show vf (mulR n FX w) j = _
  rw [vf_mul hF (by rw [hw, hk]), hk]
  exact congrFun (mulV_congr fun i hi => (vR_left hf hi).symm) j
/-- what is left of a row that holds: it holds; without a first byte nothing is left -/
theorem rest_cons {k n : Nat} {B : List V} {K : List Rw} {x : Rw} (h : KeptS k n K) (hx : Fit k n x) (hK : ∀ r, r ∈ K → ConsV k B (vR r)) (hc : ConsV k B (vR x)) : ConsV k B (vR (restF K x)) := by
  have rK : vR (restF K x) = red (tri K) (vR x) := rest_red h.rows hx
  have s := red_span (tri K) (vR x)
  rw [tri_fst] at s
  have e : vR (restF K x) = fun j => vR x j ^^^ (vR x j ^^^ red (tri K) (vR x) j) := by
    funext j; rw [rK, ← xor_assoc, xor_self, zero_xor]
  rw [e]
  exact cons_add hc (cons_sp (fun a ha => by obtain ⟨r, hr, rfl⟩ := List.mem_map.1 ha; exact hK r hr) s)
theorem rest_nought {k n : Nat} {B : List V} {K : List Rw} {x : Rw} (h : KeptS k n K) (hx : Fit k n x) (hK : ∀ r, r ∈ K → ConsV k B (vR r)) (hc : ConsV k B (vR x)) (hl : leadS (restF K x).1 < 0) : (∀ j, vR (restF K x) j = 0) ∧ Sp (K.map vR) (vR x) := by
  have hf := hx.rest (fun r hr => (h.rows r hr).1)
  have h0 := vf_zero (leadS_neg hl)
  have hz : ∀ j, vR (restF K x) j = 0 := fun j => by
    by_cases hj : j < k
    · rw [vR_left hf hj]; exact h0 j
    · have h1 := rest_cons h hx hK hc (j - k)
      rw [show k + (j - k) = j by omega] at h1
      rw [h1, mulV_congr (v := fun _ => 0) (fun i hi => by rw [vR_left hf hi]; exact h0 i), mulV_nought]
  refine ⟨hz, ?_⟩
  have rK : vR (restF K x) = red (tri K) (vR x) := rest_red h.rows hx
  have s := red_span (tri K) (vR x)
  rw [tri_fst] at s
  have e : vR x = fun j => vR x j ^^^ red (tri K) (vR x) j := by
    funext j; rw [← rK, hz j, xor_zero]
  rw [e]; exact s
/-- the rows kept span those that came -/
structure Spn (k n : Nat) (B : List V) (X K0 : List Rw) : Prop where
  kept : KeptS k n K0
  fit : ∀ x, x ∈ X → Fit k n x
  cons : ∀ x, x ∈ X → ConsV k B (vR x)
  le : ∀ r, r ∈ K0 → Sp (X.map vR) (vR r)
  ge : ∀ x, x ∈ X → Sp (K0.map vR) (vR x)
theorem Spn.nil (k n : Nat) (B : List V) : Spn k n B [] [] := ⟨KeptS.nil k n, fun x h => by simp at h, fun x h => by simp at h, fun x h => by simp at h, fun x h => by simp at h⟩
theorem Spn.consK {k n : Nat} {B : List V} {X K0 : List Rw} (h : Spn k n B X K0) : ∀ r, r ∈ K0 → ConsV k B (vR r) := fun r hr =>
  cons_sp (fun a ha => by obtain ⟨x, hx, rfl⟩ := List.mem_map.1 ha; exact h.cons x hx) (h.le r hr)
theorem Spn.snoc {k n : Nat} {B : List V} {X K0 : List Rw} {x : Rw} (h : Spn k n B X K0) (hx : Fit k n x) (hc : ConsV k B (vR x)) : Spn k n B (X ++ [x]) (insF K0 x) := by
  have memX : ∀ a, a ∈ X.map vR → a ∈ (X ++ [x]).map vR := fun a ha => by rw [List.map_append]; exact List.mem_append.2 (.inl ha)
  have lastX : vR x ∈ (X ++ [x]).map vR := by simp
  refine ⟨h.kept.step hx, fun y hy => ?_, fun y hy => ?_, fun r hr => ?_, fun y hy => ?_⟩
  · rcases List.mem_append.1 hy with hy | hy
    · exact h.fit y hy
    · rw [List.mem_singleton] at hy; rw [hy]; exact hx
  · rcases List.mem_append.1 hy with hy | hy
    · exact h.cons y hy
    · rw [List.mem_singleton] at hy; rw [hy]; exact hc
  · by_cases hl : leadS (restF K0 x).1 < 0
    · have e : insF K0 x = K0 := by unfold insF; rw [norm_leadS, if_pos hl]
      rw [e] at hr
      exact Sp.sub memX (h.le r hr)
    · refine Sp.trans (fun a ha => ?_) ((insF_span h.kept hx hl).1 r hr)
      rcases List.mem_cons.1 ha with rfl | ha
      · exact Sp.mem lastX
      · obtain ⟨q, hq, rfl⟩ := List.mem_map.1 ha
        exact Sp.sub memX (h.le q hq)
  · by_cases hl : leadS (restF K0 x).1 < 0
    · have e : insF K0 x = K0 := by unfold insF; rw [norm_leadS, if_pos hl]
      rw [e]
      rcases List.mem_append.1 hy with hy | hy
      · exact h.ge y hy
      · rw [List.mem_singleton] at hy; rw [hy]; exact (rest_nought h.kept hx h.consK hc hl).2
    · obtain ⟨i1, i2, i3⟩ := insF_span h.kept hx hl
      rcases List.mem_append.1 hy with hy | hy
      · refine Sp.trans (fun a ha => ?_) (h.ge y hy)
        obtain ⟨q, hq, rfl⟩ := List.mem_map.1 ha
        exact i2 q hq
      · rw [List.mem_singleton] at hy; rw [hy]; exact i3
theorem Spn.all {k n : Nat} {B : List V} : ∀ (Y : List Rw) {X K0 : List Rw}, Spn k n B X K0 → (∀ x, x ∈ Y → Fit k n x ∧ ConsV k B (vR x)) → Spn k n B (X ++ Y) (Y.foldl insF K0)
  | [], X, K0, h, _ => by rw [List.append_nil]; exact h
  | y :: Y, X, K0, h, hy => by
    have := Spn.all Y (h.snoc (hy y (by simp)).1 (hy y (by simp)).2) (fun x hx => hy x (by simp [hx]))
    rw [List.append_assoc] at this
    exact this
theorem spn_kD {k n : Nat} {B : List V} {Y : List Rw} (h : ∀ x, x ∈ Y → Fit k n x ∧ ConsV k B (vR x)) : Spn k n B Y (kD Y) := by
  have := Spn.all Y (Spn.nil k n B) h
  rwa [List.nil_append] at this
/-- a system of all that came, also of what added nothing -/
theorem Sys.putX {k n : Nat} {D K : List Rw} {x : Rw} (h : Sys k n (kD D) K) (hx : Fit k n x) : Sys k n (kD (D ++ [x])) (Go.Proofs.YtbfmdfbnhakolaaDoor.putK K x) := by
  rw [kD_snoc]
  unfold Go.Proofs.YtbfmdfbnhakolaaDoor.putK
  by_cases hn : leadS (restF K x).1 < 0
  · have e : insF (kD D) x = kD D := by unfold insF; rw [norm_leadS, h.rest hx, if_pos hn]
    rw [if_pos hn, e]; exact h
  · rw [if_neg hn]; exact h.put hx hn
/-- in whatever order they came: the same rows -/
theorem sys_same {k n : Nat} {B : List V} {X Y K M : List Rw} (h : Sys k n (kD X) K) (g : Sys k n (kD Y) M) (hX : ∀ x, x ∈ X → Fit k n x ∧ ConsV k B (vR x)) (hY : ∀ x, x ∈ Y → Fit k n x ∧ ConsV k B (vR x)) (hm : ∀ x, x ∈ X ↔ x ∈ Y) : K = M := by
  have sX := spn_kD hX; have sY := spn_kD hY
  have one : ∀ {X Y K M : List Rw}, Sys k n (kD X) K → Sys k n (kD Y) M → Spn k n B X (kD X) → Spn k n B Y (kD Y) → (∀ x, x ∈ X → x ∈ Y) → ∀ r, r ∈ K → Sp (M.map vR) (vR r) := by
    intro X Y K M h g sX sY hm r hr
    obtain ⟨-, r2, -, -⟩ := redL_red h.kept
    obtain ⟨-, -, r3, -⟩ := redL_red g.kept
    rw [← h.same] at r2
    rw [← g.same] at r3
    refine Sp.trans (fun a ha => ?_) (r2 r hr)
    obtain ⟨q, hq, rfl⟩ := List.mem_map.1 ha
    refine Sp.trans (fun a ha => ?_) (sX.le q hq)
    obtain ⟨x, hx, rfl⟩ := List.mem_map.1 ha
    refine Sp.trans (fun a ha => ?_) (sY.ge x (hm x hx))
    obtain ⟨p, hp, rfl⟩ := List.mem_map.1 ha
    exact r3 p hp
  exact h.red.unique g.red (one h g sX sY fun x hx => (hm x).1 hx) (one g h sY sX fun x hx => (hm x).2 hx)
/-- equations that hold never clash -/
theorem sys_code {k n : Nat} {B : List V} {X K : List Rw} {x : Rw} (h : Sys k n (kD X) K) (hX : ∀ y, y ∈ X → Fit k n y ∧ ConsV k B (vR y)) (hx : Fit k n x) (hc : ConsV k B (vR x)) (hl : leadS (restF K x).1 < 0) : zeroS (restF K x).2 = true := by
  have s := spn_kD hX
  have e := h.rest hx
  rw [← e] at hl ⊢
  have hz := (rest_nought h.kept hx s.consK hc hl).1
  have hf := hx.rest (fun r hr => (h.kept.rows r hr).1)
  unfold zeroS
  rw [List.all_eq_true]
  intro b hb
  obtain ⟨j, hj, rfl⟩ := List.getElem_of_mem hb
  have h1 := hz (k + j)
  rw [vR_right hf] at h1
  unfold vf at h1
  rw [List.getD_eq_getElem?_getD, List.getElem?_eq_getElem hj] at h1
  simpa using h1
/-- rows without data -/
def prR (r : Rw) : Rw := (r.1, [])
theorem rest_pr : ∀ (K : List Rw) (x : Rw), restF (K.map prR) (prR x) = prR (restF K x)
  | [], _ => rfl
  | a :: K, x => by
    have h := rest_pr K (lessF x (atS x.1 (leadS a.1)) a)
    unfold restF at h ⊢
    rw [List.map_cons, List.foldl_cons, List.foldl_cons, ← h]
    rfl
theorem norm_pr (r : Rw) : normS (prR r) = prR (normS r) := by
  unfold normS prR
  simp only
  split <;> simp
theorem ins_pr (K : List Rw) (x : Rw) : insF (K.map prR) (prR x) = (insF K x).map prR := by
  unfold insF
  rw [rest_pr, norm_pr]
  show (if leadS (normS (restF K x)).1 < 0 then _ else _) = _
  by_cases hl : leadS (normS (restF K x)).1 < 0
  · rw [if_pos hl, if_pos hl]
  · rw [if_neg hl, if_neg hl, List.map_append, List.map_cons, List.takeWhile_map, List.dropWhile_map]
    rfl
theorem kD_pr : ∀ (X : List Rw) (K : List Rw), (X.map (fun x : Rw => x.1)).foldl (fun K r => insF K (r, [])) (K.map prR) = (X.foldl insF K).map prR
  | [], _ => rfl
  | x :: X, K => by
    rw [List.map_cons, List.foldl_cons, List.foldl_cons, ← kD_pr X (insF K x), ← ins_pr]
    rfl
theorem sys_rank {k n : Nat} {X K : List Rw} (h : Sys k n (kD X) K) : K.length = (iK (X.map (fun x : Rw => x.1))).length := by
  have h1 := kD_pr X []
  unfold iK
  rw [show ([] : List Rw) = ([] : List Rw).map prR from rfl, h1, List.length_map, h.same]
  unfold redL kD
  rw [List.length_map, List.length_range]
/-- a full system's data are the symbols -/
theorem sys_full {k n : Nat} {FX : List (List UInt8)} {X K : List Rw} (h : Sys k n (kD X) K) (hX : ∀ y, y ∈ X → Fit k n y ∧ ConsV k (FX.map vf) (vR y)) (hF : ∀ x, x ∈ FX → x.length = n) (hk : FX.length = k) (hl : K.length = k) {i : Nat} {r : Rw} {f : List UInt8} (hr : K[i]? = some r) (hf : FX[i]? = some f) : r.2 = f := by
  have hu := full_units h.red hl hr
  obtain ⟨hfit, -⟩ := h.red.kept.rows r (List.mem_of_getElem? hr)
  have s := spn_kD hX
  obtain ⟨-, r2, -, -⟩ := redL_red h.kept
  rw [← h.same] at r2
  have hc : ConsV k (FX.map vf) (vR r) := cons_sp (fun a ha => by obtain ⟨q, hq, rfl⟩ := List.mem_map.1 ha; exact s.consK q hq) (r2 r (List.mem_of_getElem? hr))
  have hik : i < k := by have := (List.getElem?_eq_some_iff.1 hr).1; omega
  refine vf_inj (by rw [hfit.2, hF f (List.mem_of_getElem? hf)]) fun j hj => ?_
  have h1 := hc j
  rw [vR_right hfit] at h1
  rw [h1, mulV_congr (v := unit i) (fun a ha => ?_), mulV_unit (b := vf f) (by rw [List.length_map, hk]) (by rw [List.getElem?_map, hf]; rfl)]
  rw [vR_left hfit ha, hu]
  unfold vf unit
  rw [List.getD_eq_getElem?_getD, List.getElem?_set]
  by_cases e : i = a
  · subst e; rw [if_pos rfl, if_pos (by simpa using hik), if_pos rfl]; rfl
  · rw [if_neg e, if_neg e, List.getElem?_replicate, if_pos ha]; rfl
end Go.Proofs.YtbfmdfbnhakolaaDoor
namespace Go.Proofs.YtbfmdfbnhakolaaDoor
open Gf Go.By
/-- a row whose vector is a combination of those kept, and its data none -/
def clashB (K : List Rw) (x : Rw) : Bool := decide (leadS (restF K x).1 < 0) && !zeroS (restF K x).2
theorem clashB_code {K : List Rw} {x : Rw} : clashB K x = true ↔ codeF K x = 2 := by
  unfold clashB codeF
  by_cases h : leadS (restF K x).1 < 0
  · rw [if_pos h, decide_eq_true h]
    cases zeroS (restF K x).2 <;> simp
  · rw [if_neg h, decide_eq_false h]; simp
/-- the rows kept span those that came, data and all -/
structure Spg (k n : Nat) (X K0 : List Rw) : Prop where
  kept : KeptS k n K0
  fit : ∀ x, x ∈ X → Fit k n x
  le : ∀ r, r ∈ K0 → Sp (X.map vR) (vR r)
  ge : ∀ x, x ∈ X → Sp (K0.map vR) (vR x)
theorem Spg.nil (k n : Nat) : Spg k n [] [] := ⟨KeptS.nil k n, fun x h => by simp at h, fun x h => by simp at h, fun x h => by simp at h⟩
theorem zeroS_all {xs : List UInt8} : zeroS xs = true ↔ ∀ x, x ∈ xs → x = 0 := by unfold zeroS; simp
/-- nothing is left just where the row is a combination of those kept -/
theorem rest_span {k n : Nat} {K : List Rw} {x : Rw} (h : KeptS k n K) (hx : Fit k n x) : (∀ j, vR (restF K x) j = 0) ↔ Sp (K.map vR) (vR x) := by
  have rK : vR (restF K x) = red (tri K) (vR x) := rest_red h.rows hx
  rw [rK]
  have := red_zero (x := vR x) (tri_of_sorted h.rows h.sorted)
  rw [tri_fst] at this
  exact this
theorem rest_nil {k n : Nat} {K : List Rw} {x : Rw} (h : KeptS k n K) (hx : Fit k n x) (hl : leadS (restF K x).1 < 0) : (∀ j, vR (restF K x) j = 0) ↔ zeroS (restF K x).2 = true := by
  have hf := hx.rest (fun r hr => (h.rows r hr).1)
  have h0 := vf_zero (leadS_neg hl)
  constructor
  · intro hz
    refine zeroS_all.2 fun y hy => ?_
    obtain ⟨j, hj, rfl⟩ := List.mem_iff_getElem.1 hy
    have := hz (k + j)
    rw [vR_right hf] at this
    unfold vf at this
    rw [List.getD_eq_getElem?_getD, List.getElem?_eq_getElem hj] at this
    exact this
  · intro hz j
    by_cases hj : j < k
    · rw [vR_left hf hj]; exact h0 j
    · have := vf_zero (zeroS_all.1 hz) (j - k)
      rw [← vR_right hf, show k + (j - k) = j by omega] at this
      exact this
theorem Spg.snoc {k n : Nat} {X K0 : List Rw} {x : Rw} (h : Spg k n X K0) (hx : Fit k n x) (hc : clashB K0 x = false) : Spg k n (X ++ [x]) (insF K0 x) := by
  have memX : ∀ a, a ∈ X.map vR → a ∈ (X ++ [x]).map vR := fun a ha => by rw [List.map_append]; exact List.mem_append.2 (.inl ha)
  have lastX : vR x ∈ (X ++ [x]).map vR := by simp
  refine ⟨h.kept.step hx, fun y hy => ?_, fun r hr => ?_, fun y hy => ?_⟩
  · rcases List.mem_append.1 hy with hy | hy
    · exact h.fit y hy
    · rw [List.mem_singleton] at hy; rw [hy]; exact hx
  · by_cases hl : leadS (restF K0 x).1 < 0
    · have e : insF K0 x = K0 := by unfold insF; rw [norm_leadS, if_pos hl]
      rw [e] at hr
      exact Sp.sub memX (h.le r hr)
    · refine Sp.trans (fun a ha => ?_) ((insF_span h.kept hx hl).1 r hr)
      rcases List.mem_cons.1 ha with rfl | ha
      · exact Sp.mem lastX
      · obtain ⟨q, hq, rfl⟩ := List.mem_map.1 ha
        exact Sp.sub memX (h.le q hq)
  · by_cases hl : leadS (restF K0 x).1 < 0
    · have e : insF K0 x = K0 := by unfold insF; rw [norm_leadS, if_pos hl]
      rw [e]
      rcases List.mem_append.1 hy with hy | hy
      · exact h.ge y hy
      · rw [List.mem_singleton] at hy; rw [hy]
        have hz : zeroS (restF K0 x).2 = true := by
          unfold clashB at hc
          rw [decide_eq_true hl] at hc
          simpa using hc
        exact (rest_span h.kept hx).1 ((rest_nil h.kept hx hl).2 hz)
    · obtain ⟨i1, i2, i3⟩ := insF_span h.kept hx hl
      rcases List.mem_append.1 hy with hy | hy
      · refine Sp.trans (fun a ha => ?_) (h.ge y hy)
        obtain ⟨q, hq, rfl⟩ := List.mem_map.1 ha
        exact i2 q hq
      · rw [List.mem_singleton] at hy; rw [hy]; exact i3
theorem kept_ind {k n : Nat} {K : List Rw} (h : KeptS k n K) : Ind (K.map vR) := by
  have := (tri_of_sorted h.rows h.sorted).ind
  rwa [tri_fst] at this
/-- vectors and data in one -/
def widesL (X : List Rw) : List (List UInt8) := X.map cat
def vecsL (X : List Rw) : List (List UInt8) := X.map (fun x : Rw => x.1)
theorem wides_vf (X : List Rw) : (widesL X).map vf = X.map vR := by unfold widesL; rw [List.map_map]; rfl
theorem wides_rk {k n : Nat} {X : List Rw} (h : ∀ x, x ∈ X → Fit k n x) : Rk (X.map vR) (iK (widesL X)).length := by
  have := ins_rank (n := k + n) (widesL X) (fun r hr => by obtain ⟨x, hx, rfl⟩ := List.mem_map.1 hr; exact (h x hx).cat)
  rw [wides_vf] at this
  exact this
theorem Spg.rank {k n : Nat} {X K0 : List Rw} (h : Spg k n X K0) : (iK (widesL X)).length = K0.length := by
  refine (wides_rk h.fit).unique ⟨K0.map vR, kept_ind h.kept, by simp, fun b hb => ?_, fun a ha => ?_⟩
  · obtain ⟨r, hr, rfl⟩ := List.mem_map.1 hb; exact h.le r hr
  · obtain ⟨x, hx, rfl⟩ := List.mem_map.1 ha; exact h.ge x hx
theorem vecs_rank (X : List Rw) : (iK (vecsL X)).length = (kD X).length := by
  have := kD_pr X []
  show ((X.map (fun x : Rw => x.1)).foldl (fun K r => insF K (r, [])) []).length = _
  rw [show ([] : List Rw) = ([] : List Rw).map prR from rfl, this, List.length_map]; rfl
/-- a row that clashes makes the rank greater -/
theorem clash_rank {k n : Nat} {X K0 : List Rw} {x : Rw} (h : Spg k n X K0) (hx : Fit k n x) (hc : clashB K0 x = true) : K0.length + 1 ≤ (iK (widesL (X ++ [x]))).length := by
  have hl : leadS (restF K0 x).1 < 0 := by
    unfold clashB at hc; rw [Bool.and_eq_true] at hc; exact of_decide_eq_true hc.1
  have hz : ¬ zeroS (restF K0 x).2 = true := by
    unfold clashB at hc; rw [Bool.and_eq_true] at hc
    intro e; rw [e] at hc; exact absurd hc.2 (by decide)
  have hn : ¬ ∀ j, vR (restF K0 x) j = 0 := fun g => hz ((rest_nil h.kept hx hl).1 g)
  obtain ⟨l, hlz⟩ : ∃ l, vR (restF K0 x) l ≠ 0 := Classical.byContradiction fun g => hn fun j => Classical.byContradiction fun e => g ⟨j, e⟩
  have rK : vR (restF K0 x) = red (tri K0) (vR x) := rest_red h.kept.rows hx
  have T := tri_of_sorted h.kept.rows h.kept.sorted
  have hT : Tri (tri K0 ++ [((fun j => gmul (ginv (vR (restF K0 x) l)) (vR (restF K0 x) j)), l)]) := by
    refine T.snoc (fun p hp => ?_) (ginv_gmul _ hlz)
    show gmul _ _ = 0
    rw [rK, red_at T p hp, gmul_zero]
  have hI := hT.ind
  rw [List.map_append, tri_fst] at hI
  obtain ⟨B, hB, hBl, hB1, hB2⟩ := wides_rk (X := X ++ [x]) (k := k) (n := n) (fun y hy => by
    rcases List.mem_append.1 hy with hy | hy
    · exact h.fit y hy
    · rw [List.mem_singleton] at hy; rw [hy]; exact hx)
  rw [← hBl]
  have hlen : ((K0.map fun r => vf (cat r)) ++ [((fun j => gmul (ginv (vR (restF K0 x) l)) (vR (restF K0 x) j)), l)].map (·.1)).length = K0.length + 1 := by simp
  rw [← hlen]
  have memX : ∀ a, a ∈ X.map vR → a ∈ (X ++ [x]).map vR := fun a ha => by rw [List.map_append]; exact List.mem_append.2 (.inl ha)
  refine exchange _ _ hI fun a ha => Sp.trans hB2 ?_
  rcases List.mem_append.1 ha with ha | ha
  · obtain ⟨r, hr, rfl⟩ := List.mem_map.1 ha
    exact Sp.sub memX (h.le r hr)
  · simp only [List.map_cons, List.map_nil, List.mem_singleton] at ha
    rw [ha]
    refine Sp.scale _ ?_
    have s := red_span (tri K0) (vR x)
    rw [tri_fst, ← rK] at s
    have s2 : Sp ((X ++ [x]).map vR) (fun j => vR x j ^^^ vR (restF K0 x) j) := Sp.trans (fun a ha => by
      obtain ⟨r, hr, rfl⟩ := List.mem_map.1 ha
      exact Sp.sub memX (h.le r hr)) s
    have s3 := Sp.add (Sp.mem (show vR x ∈ (X ++ [x]).map vR by simp)) s2
    have e : vR (restF K0 x) = fun j => vR x j ^^^ (vR x j ^^^ vR (restF K0 x) j) := by
      funext j; rw [← xor_assoc, xor_self, zero_xor]
    rw [e]; exact s3
/-- no row ahead of place j clashes -/
def calm (D : List Rw) (j : Nat) : Prop := ∀ i x, i < j → D[i]? = some x → clashB (kD (D.take i)) x = false
theorem calm_spg {k n : Nat} {D : List Rw} (hD : ∀ x, x ∈ D → Fit k n x) : ∀ j, calm D j → Spg k n (D.take j) (kD (D.take j))
  | 0, _ => by rw [List.take_zero]; exact Spg.nil k n
  | j + 1, h => by
    have ih := calm_spg hD j (fun i x hi hx => h i x (by omega) hx)
    by_cases hj : j < D.length
    · have e := List.getElem?_eq_getElem hj
      rw [List.take_add_one, e]
      show Spg k n (D.take j ++ [D[j]]) (kD (D.take j ++ [D[j]]))
      rw [kD_snoc]
      exact ih.snoc (hD _ (List.getElem_mem hj)) (h j _ (by omega) e)
    · rw [List.take_of_length_le (by omega)] at ih ⊢
      exact ih
/-- the document's test at place j -/
theorem judge_at {k n : Nat} {D : List Rw} (hD : ∀ x, x ∈ D → Fit k n x) {j : Nat} {x : Rw} (hx : D[j]? = some x) (h : calm D j) : ((iK (vecsL (D.take (j + 1)))).length = (iK (widesL (D.take (j + 1)))).length) ↔ clashB (kD (D.take j)) x = false := by
  have S := calm_spg hD j h
  have hxD : x ∈ D := List.mem_of_getElem? hx
  have et : D.take (j + 1) = D.take j ++ [x] := by rw [List.take_add_one, hx]; rfl
  cases hc : clashB (kD (D.take j)) x with
  | false =>
    have S2 := S.snoc (hD x hxD) hc
    rw [et, S2.rank, vecs_rank, kD_snoc]
    simp
  | true =>
    have g := clash_rank S (hD x hxD) hc
    have hl : leadS (restF (kD (D.take j)) x).1 < 0 := by
      unfold clashB at hc; rw [Bool.and_eq_true] at hc; exact of_decide_eq_true hc.1
    have e : insF (kD (D.take j)) x = kD (D.take j) := by unfold insF; rw [norm_leadS, if_pos hl]
    rw [et, vecs_rank, kD_snoc, e]
    constructor
    · intro h2; omega
    · intro h2; cases h2
end Go.Proofs.YtbfmdfbnhakolaaDoor
namespace Go.By
/-- the digits of a number, the lowest first -/
def digs (b : Nat) (n : Nat) : List Nat := if h : n = 0 ∨ b ≤ 1 then [] else n % b :: digs b (n / b)
termination_by n
decreasing_by exact Nat.div_lt_self (by omega) (by omega)
theorem digs_zero (b : Nat) : digs b 0 = [] := by unfold digs; simp
theorem digs_pos {b n : Nat} (hb : 2 ≤ b) (hn : 0 < n) : digs b n = n % b :: digs b (n / b) := by
  conv => lhs; unfold digs
  rw [dif_neg (by omega)]
/-- the number that digits are -/
def valD (b : Nat) : List Nat → Nat
  | [] => 0
  | x :: xs => x + b * valD b xs
theorem valD_append (b : Nat) : ∀ (xs ys : List Nat), valD b (xs ++ ys) = valD b xs + b ^ xs.length * valD b ys
  | [], ys => by simp [valD]
  | x :: xs, ys => by
    show x + b * valD b (xs ++ ys) = x + b * valD b xs + b ^ (xs.length + 1) * valD b ys
    rw [valD_append b xs ys, Nat.mul_add, Nat.pow_succ, Nat.add_assoc]
    congr 2
    rw [← Nat.mul_assoc, Nat.mul_comm b]
theorem valD_zeros (b : Nat) : ∀ k, valD b (List.replicate k 0) = 0
  | 0 => rfl
  | k + 1 => by rw [List.replicate_succ]; show 0 + b * valD b (List.replicate k 0) = 0; rw [valD_zeros b k]; simp
theorem valD_digs {b : Nat} (hb : 2 ≤ b) (n : Nat) : valD b (digs b n) = n := by
  induction n using Nat.strongRecOn with
  | ind n ih =>
    rcases Nat.eq_zero_or_pos n with h | h
    · subst h; rw [digs_zero]; rfl
    · rw [digs_pos hb h]
      show n % b + b * valD b (digs b (n / b)) = n
      rw [ih (n / b) (Nat.div_lt_self h hb)]
      exact Nat.mod_add_div n b
theorem digs_lt {b : Nat} (hb : 2 ≤ b) (n : Nat) : ∀ x, x ∈ digs b n → x < b := by
  induction n using Nat.strongRecOn with
  | ind n ih =>
    intro x hx
    rcases Nat.eq_zero_or_pos n with h | h
    · subst h; rw [digs_zero] at hx; cases hx
    · rw [digs_pos hb h] at hx
      rcases List.mem_cons.1 hx with rfl | hx
      · exact Nat.mod_lt _ (by omega)
      · exact ih (n / b) (Nat.div_lt_self h hb) x hx
theorem valD_lt {b : Nat} (hb : 2 ≤ b) : ∀ (xs : List Nat), (∀ x, x ∈ xs → x < b) → valD b xs < b ^ xs.length
  | [], _ => by simp [valD]
  | x :: xs, h => by
    have h1 := h x (by simp)
    have h2 := valD_lt hb xs (fun y hy => h y (by simp [hy]))
    show x + b * valD b xs < b ^ (xs.length + 1)
    rw [Nat.pow_succ, Nat.mul_comm (b ^ xs.length)]
    have h3 : b * (valD b xs + 1) ≤ b * b ^ xs.length := Nat.mul_le_mul_left b h2
    rw [Nat.mul_add] at h3
    omega
/-- digits whose last isn't 0 are those of their number -/
theorem digs_valD {b : Nat} (hb : 2 ≤ b) : ∀ (xs : List Nat), (∀ x, x ∈ xs → x < b) → xs.getLast? ≠ some 0 → digs b (valD b xs) = xs
  | [], _, _ => digs_zero b
  | x :: xs, h, hl => by
    have h1 := h x (by simp)
    have ih := digs_valD hb xs (fun y hy => h y (by simp [hy]))
    have hpos : 0 < valD b (x :: xs) := by
      show 0 < x + b * valD b xs
      cases xs with
      | nil =>
        have : x ≠ 0 := by simpa using hl
        omega
      | cons y ys =>
        have hl2 : (y :: ys).getLast? ≠ some 0 := by simpa [List.getLast?_cons_cons] using hl
        have h2 := ih hl2
        have : valD b (y :: ys) ≠ 0 := fun e => by rw [e, digs_zero] at h2; cases h2
        have : 0 < b * valD b (y :: ys) := Nat.mul_pos (by omega) (by omega)
        omega
    rw [digs_pos hb hpos]
    have e1 : valD b (x :: xs) % b = x := by
      show (x + b * valD b xs) % b = x
      rw [Nat.add_mul_mod_self_left, Nat.mod_eq_of_lt h1]
    have e2 : valD b (x :: xs) / b = valD b xs := by
      show (x + b * valD b xs) / b = _
      rw [Nat.add_mul_div_left _ _ (by omega), Nat.div_eq_of_lt h1, Nat.zero_add]
    rw [e1, e2]
    cases xs with
    | nil => rw [show valD b [] = 0 from rfl, digs_zero]
    | cons y ys => rw [ih (by simpa [List.getLast?_cons_cons] using hl)]
/-- the last digit isn't 0 -/
theorem digs_last {b : Nat} (hb : 2 ≤ b) (n : Nat) : (digs b n).getLast? ≠ some 0 := by
  induction n using Nat.strongRecOn with
  | ind n ih =>
    rcases Nat.eq_zero_or_pos n with h | h
    · subst h; rw [digs_zero]; simp
    · rw [digs_pos hb h]
      have hlt := Nat.div_lt_self h hb
      rcases Nat.eq_zero_or_pos (n / b) with h2 | h2
      · rw [h2, digs_zero]
        have : n % b = n := by have := Nat.mod_add_div n b; rw [h2] at this; omega
        simp; omega
      · have := ih _ hlt
        rw [digs_pos hb h2] at this ⊢
        simpa [List.getLast?_cons_cons] using this
theorem digs_inj {b : Nat} (hb : 2 ≤ b) {m n : Nat} (h : digs b m = digs b n) : m = n := by
  rw [← valD_digs hb m, h, valD_digs hb n]
/-- the low k digits -/
def lowD (b : Nat) : Nat → Nat → List Nat
  | 0, _ => []
  | k + 1, n => n % b :: lowD b k (n / b)
theorem lowD_len (b : Nat) : ∀ k n, (lowD b k n).length = k
  | 0, _ => rfl
  | k + 1, n => by show (lowD b k (n / b)).length + 1 = _; rw [lowD_len]
theorem lowD_zero (b : Nat) : ∀ k, lowD b k 0 = List.replicate k 0
  | 0 => rfl
  | k + 1 => by show 0 % b :: lowD b k (0 / b) = _; rw [Nat.zero_mod, Nat.zero_div, lowD_zero b k]; rfl
/-- a number below b^k, with noughts behind -/
theorem lowD_pad {b : Nat} (hb : 2 ≤ b) : ∀ k n, n < b ^ k → lowD b k n = digs b n ++ List.replicate (k - (digs b n).length) 0 ∧ (digs b n).length ≤ k
  | 0, n, h => by
    have : n = 0 := by simpa using h
    subst this
    rw [digs_zero]; exact ⟨rfl, Nat.le_refl _⟩
  | k + 1, n, h => by
    rcases Nat.eq_zero_or_pos n with h0 | h0
    · subst h0; rw [digs_zero, lowD_zero]; exact ⟨rfl, Nat.zero_le _⟩
    · have h1 : n / b < b ^ k := Nat.div_lt_of_lt_mul (by rw [Nat.pow_succ, Nat.mul_comm] at h; exact h)
      obtain ⟨e, hl⟩ := lowD_pad hb k (n / b) h1
      rw [digs_pos hb h0]
      show n % b :: lowD b k (n / b) = _ ∧ _
      rw [e]
      refine ⟨?_, by simpa using hl⟩
      simp
/-- a number of two parts -/
theorem digs_join {b : Nat} (hb : 2 ≤ b) : ∀ k w n, w < b ^ k → 0 < n → digs b (w + b ^ k * n) = lowD b k w ++ digs b n
  | 0, w, n, h, hn => by
    have : w = 0 := by simpa using h
    subst this
    simp [lowD]
  | k + 1, w, n, h, hn => by
    have hp : 0 < b ^ (k + 1) * n := Nat.mul_pos (Nat.pow_pos (by omega)) hn
    rw [digs_pos hb (by omega)]
    have h1 : w / b < b ^ k := Nat.div_lt_of_lt_mul (by rw [Nat.pow_succ, Nat.mul_comm] at h; exact h)
    have e0 : b ^ (k + 1) * n = b * (b ^ k * n) := by rw [Nat.pow_succ, Nat.mul_comm (b ^ k), Nat.mul_assoc]
    have e1 : (w + b ^ (k + 1) * n) % b = w % b := by rw [e0, Nat.add_mul_mod_self_left]
    have e2 : (w + b ^ (k + 1) * n) / b = w / b + b ^ k * n := by rw [e0, Nat.add_mul_div_left _ _ (by omega)]
    rw [e1, e2, digs_join hb k (w / b) n h1 hn]
    rfl
end Go.By
namespace Go.By
theorem valD_snoc (b : Nat) (xs : List Nat) (x : Nat) : valD b (xs ++ [x]) = valD b xs + b ^ xs.length * x := by
  rw [valD_append]; show _ + _ * (x + b * 0) = _; rw [Nat.mul_zero, Nat.add_zero]
theorem valD_take {b i : Nat} {xs : List Nat} {x : Nat} (h : xs[i]? = some x) : valD b (xs.take (i + 1)) = valD b (xs.take i) + b ^ i * x := by
  have hi := (List.getElem?_eq_some_iff.1 h).1
  rw [List.take_add_one, h]
  show valD b (xs.take i ++ [x]) = _
  rw [valD_snoc, List.length_take, Nat.min_eq_left (by omega)]
theorem valD_take_none {b i : Nat} {xs : List Nat} (h : xs.length ≤ i) : valD b (xs.take (i + 1)) = valD b (xs.take i) := by
  rw [List.take_of_length_le (by omega), List.take_of_length_le h]
/-- a digit, or 0 behind the end -/
def digAt (xs : List Nat) (i : Nat) : Nat := xs.getD i 0
theorem valD_takeD (b i : Nat) (xs : List Nat) : valD b (xs.take (i + 1)) = valD b (xs.take i) + b ^ i * digAt xs i := by
  unfold digAt
  rcases Nat.lt_or_ge i xs.length with h | h
  · rw [valD_take (List.getElem?_eq_getElem h), List.getD_eq_getElem?_getD, List.getElem?_eq_getElem h]; rfl
  · rw [valD_take_none h, List.getD_eq_getElem?_getD, List.getElem?_eq_none h]; simp
theorem valD_set {b : Nat} : ∀ (xs : List Nat) (i x y : Nat), xs[i]? = some y → valD b (xs.set i x) + b ^ i * y = valD b xs + b ^ i * x
  | [], i, x, y, h => by simp at h
  | a :: xs, 0, x, y, h => by
    have : a = y := by simpa using h
    subst this
    show x + b * valD b xs + 1 * a = a + b * valD b xs + 1 * x
    omega
  | a :: xs, i + 1, x, y, h => by
    have ih := valD_set (b := b) xs i x y (by simpa using h)
    show a + b * valD b (xs.set i x) + b ^ (i + 1) * y = a + b * valD b xs + b ^ (i + 1) * x
    have e1 : b ^ (i + 1) * y = b * (b ^ i * y) := by rw [Nat.pow_succ, Nat.mul_comm (b ^ i), Nat.mul_assoc]
    have e2 : b ^ (i + 1) * x = b * (b ^ i * x) := by rw [Nat.pow_succ, Nat.mul_comm (b ^ i), Nat.mul_assoc]
    rw [e1, e2, Nat.add_assoc, ← Nat.mul_add, ih, Nat.mul_add, Nat.add_assoc]
/-- one step of a sum -/
theorem add_step {b i c x y S A B c' s' : Nat} (h : S + b ^ i * c = A + B) (hs : s' = (x + y + c) % b) (hc : c' = (x + y + c) / b) : (S + b ^ i * s') + b ^ (i + 1) * c' = (A + b ^ i * x) + (B + b ^ i * y) := by
  have h1 : s' + b * c' = x + y + c := by rw [hs, hc]; exact Nat.mod_add_div _ _
  have h2 : b ^ (i + 1) * c' = b ^ i * (b * c') := by rw [Nat.pow_succ, Nat.mul_assoc]
  have h3 : b ^ i * s' + b ^ i * (b * c') = b ^ i * x + b ^ i * y + b ^ i * c := by rw [← Nat.mul_add, h1, Nat.mul_add, Nat.mul_add]
  rw [h2]; omega
/-- one step of a difference: with a borrow, or none -/
theorem sub_step {b i x y c S A B c' s' : Nat} (hi : S + B = A + b ^ i * c) (hs : s' + y + c = x + b * c') : (S + b ^ i * s') + (B + b ^ i * y) = (A + b ^ i * x) + b ^ (i + 1) * c' := by
  have h2 : b ^ (i + 1) * c' = b ^ i * (b * c') := by rw [Nat.pow_succ, Nat.mul_assoc]
  have h3 : b ^ i * s' + b ^ i * y + b ^ i * c = b ^ i * x + b ^ i * (b * c') := by rw [← Nat.mul_add, ← Nat.mul_add, hs, Nat.mul_add]
  rw [h2]; omega
/-- which is greater: the longer one -/
theorem val_len {b : Nat} (hb : 2 ≤ b) {xs ys : List Nat} (hx : ∀ x, x ∈ xs → x < b) (hl : ys.getLast? ≠ some 0) (h : xs.length < ys.length) : valD b xs < valD b ys := by
  have h1 := valD_lt hb xs hx
  have hne : ys ≠ [] := fun e => by rw [e] at h; simp at h
  obtain ⟨zs, z, rfl⟩ : ∃ zs z, ys = zs ++ [z] := ⟨ys.dropLast, ys.getLast hne, (List.dropLast_concat_getLast hne).symm⟩
  rw [List.length_append, List.length_singleton] at h
  have hz : z ≠ 0 := by simpa using hl
  rw [valD_snoc]
  have h2 : b ^ xs.length ≤ b ^ zs.length := Nat.pow_le_pow_right (by omega) (by omega)
  have h3 : b ^ zs.length * 1 ≤ b ^ zs.length * z := Nat.mul_le_mul_left _ (by omega)
  omega
/-- .. of one length: the one whose highest unlike digit is greater -/
theorem val_top {b : Nat} (hb : 2 ≤ b) {xs ys hs : List Nat} {x y : Nat} (hx : ∀ a, a ∈ xs → a < b) (hl : xs.length = ys.length) (h : x < y) : valD b (xs ++ x :: hs) < valD b (ys ++ y :: hs) := by
  rw [valD_append, valD_append, hl]
  have h1 := valD_lt hb xs hx
  rw [hl] at h1
  have h2 : b ^ ys.length * valD b (x :: hs) + b ^ ys.length ≤ b ^ ys.length * valD b (y :: hs) := by
    rw [← Nat.mul_succ]
    refine Nat.mul_le_mul_left _ ?_
    show x + b * valD b hs + 1 ≤ y + b * valD b hs
    omega
  omega
end Go.By
namespace Go.By
/-- digits are those of their number, with noughts behind -/
theorem digs_trim {b : Nat} (hb : 2 ≤ b) : ∀ (n : Nat) (xs : List Nat), xs.length = n → (∀ x, x ∈ xs → x < b) → ∃ k, xs = digs b (valD b xs) ++ List.replicate k 0
  | 0, xs, hl, _ => by
    have : xs = [] := List.length_eq_zero_iff.1 hl
    subst this
    exact ⟨0, by simp [valD, digs_zero]⟩
  | n + 1, xs, hl, h => by
    have hne : xs ≠ [] := fun e => by rw [e] at hl; simp at hl
    obtain ⟨ys, y, rfl⟩ : ∃ ys y, xs = ys ++ [y] := ⟨xs.dropLast, xs.getLast hne, (List.dropLast_concat_getLast hne).symm⟩
    by_cases hy : y = 0
    · subst hy
      obtain ⟨k, e⟩ := digs_trim hb n ys (by simpa using hl) (fun x hx => h x (List.mem_append.2 (.inl hx)))
      refine ⟨k + 1, ?_⟩
      rw [valD_snoc, Nat.mul_zero, Nat.add_zero, List.replicate_succ', ← List.append_assoc, ← e]
    · exact ⟨0, by rw [digs_valD hb _ h (by simpa using hy)]; simp⟩
/-- a digit of base 16, as a letter -/
def hexc (d : Nat) : UInt8 := UInt8.ofNat (if d < 10 then 48 + d else 87 + d)
def hexText (n : Nat) : List UInt8 := if n = 0 then [48] else (digs 16 n).reverse.map hexc
theorem hexc_zero {d : Nat} (hd : d < 16) : hexc d = 48 ↔ d = 0 := by
  have : ∀ d : Fin 16, hexc d.val = 48 ↔ d.val = 0 := by decide
  exact this ⟨d, hd⟩
theorem hexc_inj {d e : Nat} (hd : d < 16) (he : e < 16) (h : hexc d = hexc e) : d = e := by
  have : ∀ d e : Fin 16, hexc d.val = hexc e.val → d.val = e.val := by decide
  exact this ⟨d, hd⟩ ⟨e, he⟩ h
theorem map_inj {α β : Type} {f : α → β} {p : α → Prop} (hf : ∀ a b, p a → p b → f a = f b → a = b) : ∀ {xs ys : List α}, (∀ x, x ∈ xs → p x) → (∀ y, y ∈ ys → p y) → xs.map f = ys.map f → xs = ys
  | [], [], _, _, _ => rfl
  | [], _ :: _, _, _, h => by simp at h
  | _ :: _, [], _, _, h => by simp at h
  | x :: xs, y :: ys, hx, hy, h => by
    rw [List.map_cons, List.map_cons] at h
    injection h with h1 h2
    rw [hf x y (hx x (by simp)) (hy y (by simp)) h1, map_inj hf (fun z hz => hx z (by simp [hz])) (fun z hz => hy z (by simp [hz])) h2]
theorem hexText_inj {m n : Nat} (h : hexText m = hexText n) : m = n := by
  have one : ∀ n : Nat, n ≠ 0 → hexText n ≠ [48] := fun n hn e => by
    unfold hexText at e
    rw [if_neg hn] at e
    have h1 := congrArg List.reverse e
    rw [List.map_reverse, List.reverse_reverse] at h1
    rw [digs_pos (by decide) (by omega)] at h1
    rw [List.map_cons] at h1
    injection h1 with h1 h2
    have h3 : n % 16 = 0 := (hexc_zero (Nat.mod_lt _ (by decide))).1 h1
    have h4 : digs 16 (n / 16) = [] := by simpa using h2
    have h5 := valD_digs (b := 16) (by decide) (n / 16)
    rw [h4] at h5
    have h6 : n / 16 = 0 := h5.symm
    omega
  by_cases hm : m = 0
  · by_cases hn : n = 0
    · rw [hm, hn]
    · exact absurd (by rw [← h, hm]; rfl) (one n hn)
  · by_cases hn : n = 0
    · exact absurd (by rw [h, hn]; rfl) (one m hm)
    · unfold hexText at h
      rw [if_neg hm, if_neg hn] at h
      have h1 := map_inj (p := fun d => d < 16) (fun a b ha hb e => hexc_inj ha hb e) (fun x hx => digs_lt (by decide) m x (List.mem_reverse.1 hx)) (fun x hx => digs_lt (by decide) n x (List.mem_reverse.1 hx)) h
      exact digs_inj (b := 16) (by decide) (by have h2 := congrArg List.reverse h1; rwa [List.reverse_reverse, List.reverse_reverse] at h2)
/-- a word more ahead of a number's text: sixteen letters -/
theorem hexText_join {k w n : Nat} (hw : w < 16 ^ k) (hn : 0 < n) : hexText (w + 16 ^ k * n) = hexText n ++ (lowD 16 k w).reverse.map hexc := by
  have h1 : w + 16 ^ k * n ≠ 0 := by have : 0 < 16 ^ k * n := Nat.mul_pos (Nat.pow_pos (by decide)) hn; omega
  unfold hexText
  rw [if_neg h1, if_neg (by omega), digs_join (by decide) k w n hw hn, List.reverse_append, List.map_append]
/-- .. a word's letters, with noughts ahead -/
theorem hex_pad {k w : Nat} (hk : 1 ≤ k) (hw : w < 16 ^ k) : (lowD 16 k w).reverse.map hexc = List.replicate (k - (hexText w).length) 48 ++ hexText w ∧ (hexText w).length ≤ k := by
  obtain ⟨e, hl⟩ := lowD_pad (b := 16) (by decide) k w hw
  by_cases h0 : w = 0
  · subst h0
    rw [lowD_zero]
    refine ⟨?_, by simpa [hexText] using hk⟩
    show _ = List.replicate (k - 1) 48 ++ [48]
    rw [List.reverse_replicate, List.map_replicate, ← List.replicate_succ', show k - 1 + 1 = k by omega]
    rfl
  · have hlen : (hexText w).length = (digs 16 w).length := by unfold hexText; rw [if_neg h0, List.length_map, List.length_reverse]
    refine ⟨?_, by rw [hlen]; exact hl⟩
    rw [hlen, e, List.reverse_append, List.map_append, List.reverse_replicate, List.map_replicate]
    unfold hexText
    rw [if_neg h0]; rfl
/-- noughts ahead struck, but for one letter -/
def strip0 : List UInt8 → List UInt8
  | [] => []
  | [x] => [x]
  | x :: y :: l => if x = 48 then strip0 (y :: l) else x :: y :: l
theorem strip0_head {x : UInt8} {l : List UInt8} (h : x ≠ 48) : strip0 (x :: l) = x :: l := by
  cases l with
  | nil => rfl
  | cons y l => unfold strip0; rw [if_neg h]
theorem strip0_zeros : ∀ (k : Nat) {x : UInt8} {l : List UInt8}, x ≠ 48 → strip0 (List.replicate k 48 ++ x :: l) = x :: l
  | 0, x, l, h => strip0_head h
  | k + 1, x, l, h => by
    have ih := strip0_zeros k (l := l) h
    rw [List.replicate_succ, List.cons_append]
    cases hk : List.replicate k 48 ++ x :: l with
    | nil => simp at hk
    | cons y m =>
      unfold strip0
      rw [if_pos rfl, ← hk]; exact ih
theorem strip0_all : ∀ k, strip0 (List.replicate (k + 1) 48) = [48]
  | 0 => rfl
  | k + 1 => by
    have ih := strip0_all k
    rw [List.replicate_succ]
    cases hk : List.replicate (k + 1) (48 : UInt8) with
    | nil => simp at hk
    | cons y m =>
      unfold strip0
      rw [if_pos rfl, ← hk]; exact ih
/-- the text of digits, whatever noughts they have behind -/
theorem strip_hex {xs : List Nat} (h : ∀ x, x ∈ xs → x < 16) : (if strip0 (xs.reverse.map hexc) = [] then [48] else strip0 (xs.reverse.map hexc)) = hexText (valD 16 xs) := by
  obtain ⟨k, e⟩ := digs_trim (b := 16) (by decide) _ xs rfl h
  obtain ⟨n, hn⟩ : ∃ n, n = valD 16 xs := ⟨_, rfl⟩
  rw [← hn] at e ⊢
  rw [e, List.reverse_append, List.reverse_replicate, List.map_append, List.map_replicate, show hexc 0 = 48 from rfl]
  by_cases h0 : n = 0
  · subst h0
    rw [digs_zero]
    cases k with
    | zero => simp [strip0, hexText]
    | succ k => simp [strip0_all, hexText]
  · have hl := digs_last (b := 16) (by decide) n
    cases hr : (digs 16 n).reverse with
    | nil =>
      have : digs 16 n = [] := by simpa using hr
      rw [digs_pos (by decide) (by omega)] at this; cases this
    | cons x l =>
      have hx : (digs 16 n).getLast? = some x := by rw [← List.head?_reverse, hr]; rfl
      have hx0 : x ≠ 0 := fun e => by rw [hx, e] at hl; exact hl rfl
      have hx16 : x < 16 := digs_lt (by decide) n x (by have : x ∈ (digs 16 n).reverse := by rw [hr]; simp
                                                        exact List.mem_reverse.1 this)
      rw [List.map_cons, strip0_zeros k (fun e => hx0 ((hexc_zero hx16).1 e))]
      rw [if_neg (by simp)]
      unfold hexText
      rw [if_neg h0, hr]; rfl
/-- bytes as half bytes -/
def nibs : List Nat → List Nat
  | [] => []
  | x :: xs => x % 16 :: x / 16 :: nibs xs
theorem valD_nibs : ∀ xs, valD 16 (nibs xs) = valD 256 xs
  | [] => rfl
  | x :: xs => by
    show x % 16 + 16 * (x / 16 + 16 * valD 16 (nibs xs)) = x + 256 * valD 256 xs
    rw [valD_nibs xs]; omega
theorem nibs_lt : ∀ {xs : List Nat}, (∀ x, x ∈ xs → x < 256) → ∀ y, y ∈ nibs xs → y < 16
  | [], _, y, h => by cases h
  | x :: xs, h, y, hy => by
    have hx := h x (by simp)
    have hy' : y = x % 16 ∨ y = x / 16 ∨ y ∈ nibs xs := by simpa [nibs] using hy
    rcases hy' with rfl | rfl | hy
    · omega
    · omega
    · exact nibs_lt (fun z hz => h z (by simp [hz])) y hy
end Go.By
namespace Go.By
/-- a letter's digit -/
def hexd (c : UInt8) : Nat := if c.toNat < 58 then c.toNat - 48 else c.toNat - 87
def isHex (c : UInt8) : Bool := decide (48 ≤ c.toNat ∧ c.toNat ≤ 57) || decide (97 ≤ c.toNat ∧ c.toNat ≤ 102)
theorem hexd_lt {c : UInt8} (h : isHex c = true) : hexd c < 16 := by
  unfold isHex at h
  rw [Bool.or_eq_true, decide_eq_true_eq, decide_eq_true_eq] at h
  unfold hexd; split <;> omega
theorem hexd_hexc {d : Nat} (h : d < 16) : hexd (hexc d) = d ∧ isHex (hexc d) = true := by
  have : ∀ d : Fin 16, hexd (hexc d.val) = d.val ∧ isHex (hexc d.val) = true := by decide
  exact this ⟨d, h⟩
/-- the number of a text of base 16 -/
def valT (s : List UInt8) : Nat := valD 16 (s.reverse.map hexd)
theorem valT_append (s t : List UInt8) : valT (s ++ t) = valT t + 16 ^ t.length * valT s := by
  unfold valT
  rw [List.reverse_append, List.map_append, valD_append, List.length_map, List.length_reverse]
theorem valT_snoc (s : List UInt8) (c : UInt8) : valT (s ++ [c]) = hexd c + 16 * valT s := by
  rw [valT_append]
  show valD 16 [hexd c] + 16 ^ 1 * valT s = _
  show hexd c + 16 * 0 + _ = _
  rw [Nat.mul_zero, Nat.add_zero, Nat.pow_one]
theorem valT_lt {s : List UInt8} (h : ∀ c, c ∈ s → isHex c = true) : valT s < 16 ^ s.length := by
  have := valD_lt (b := 16) (by decide) (s.reverse.map hexd) (fun x hx => by
    obtain ⟨c, hc, rfl⟩ := List.mem_map.1 hx
    exact hexd_lt (h c (List.mem_reverse.1 hc)))
  rwa [List.length_map, List.length_reverse] at this
theorem hexText_hex (n : Nat) : ∀ c, c ∈ hexText n → isHex c = true := by
  intro c hc
  unfold hexText at hc
  split at hc
  · rw [List.mem_singleton] at hc; rw [hc]; decide
  · obtain ⟨d, hd, rfl⟩ := List.mem_map.1 hc
    exact (hexd_hexc (digs_lt (by decide) n d (List.mem_reverse.1 hd))).2
theorem valT_hexText (n : Nat) : valT (hexText n) = n := by
  unfold hexText
  split
  · rename_i h; subst h; rfl
  · unfold valT
    rw [← List.map_reverse, List.reverse_reverse, List.map_map]
    have : (digs 16 n).map (hexd ∘ hexc) = (digs 16 n).map id := List.map_congr_left fun d hd => (hexd_hexc (digs_lt (by decide) n d hd)).1
    rw [this, List.map_id, valD_digs (by decide)]
theorem hexText_ne (n : Nat) : hexText n ≠ [] := by
  unfold hexText
  split
  · simp
  · rename_i h
    rw [digs_pos (by decide) (by omega)]; simp
/-- a number's text begins with no nought, but for 0 itself -/
theorem hexText_head {n : Nat} {c : UInt8} {l : List UInt8} (h : hexText n = c :: l) : c ≠ 48 ∨ l = [] := by
  unfold hexText at h
  split at h
  · injection h with h1 h2; exact .inr h2.symm
  · rename_i hn
    left
    have hl := digs_last (b := 16) (by decide) n
    cases hr : (digs 16 n).reverse with
    | nil => rw [hr] at h; cases h
    | cons x m =>
      rw [hr, List.map_cons] at h
      injection h with h1 h2
      have hx : (digs 16 n).getLast? = some x := by rw [← List.head?_reverse, hr]; rfl
      have hx16 : x < 16 := digs_lt (by decide) n x (by have : x ∈ (digs 16 n).reverse := by rw [hr]; simp
                                                        exact List.mem_reverse.1 this)
      intro e
      rw [← h1] at e
      have := (hexc_zero hx16).1 e
      rw [hx, this] at hl; exact hl rfl
/-- how long a number's text is: a bound -/
theorem hexText_len {n k : Nat} (hk : 1 ≤ k) (h : n < 16 ^ k) : (hexText n).length ≤ k := (hex_pad hk h).2
/-- a text so built is its number's -/
theorem hexText_valT {s : List UInt8} (hne : s ≠ []) (h : ∀ c, c ∈ s → isHex c = true) (h0 : ∀ c l, s = c :: l → c ≠ 48 ∨ l = []) : hexText (valT s) = s := by
  have hc : ∀ c : UInt8, isHex c = true → hexc (hexd c) = c := by
    intro c
    have : ∀ x : Fin 256, isHex (UInt8.ofNat x.val) = true → hexc (hexd (UInt8.ofNat x.val)) = UInt8.ofNat x.val := by decide +kernel
    have h2 := this ⟨c.toNat, c.toNat_lt⟩
    simpa using h2
  have back : ∀ l : List UInt8, (∀ c, c ∈ l → isHex c = true) → (l.map hexd).map hexc = l := by
    intro l hl
    rw [List.map_map]
    have : l.map (hexc ∘ hexd) = l.map id := List.map_congr_left fun c hcl => hc c (hl c hcl)
    rw [this, List.map_id]
  have hall : ∀ x, x ∈ s.reverse.map hexd → x < 16 := fun x hx => by
    obtain ⟨c, hcs, rfl⟩ := List.mem_map.1 hx
    exact hexd_lt (h c (List.mem_reverse.1 hcs))
  have hst := strip_hex hall
  rw [← List.map_reverse, List.reverse_reverse, back s h] at hst
  show hexText (valD 16 (s.reverse.map hexd)) = s
  rw [← hst]
  cases s with
  | nil => exact absurd rfl hne
  | cons c l =>
    rcases h0 c l rfl with e | e
    · rw [strip0_head e, if_neg (by simp)]
    · subst e
      rw [show strip0 [c] = [c] from rfl, if_neg (by simp)]
/-- the number of bytes, of words -/
def valB (bs : List UInt8) : Nat := valD 256 (bs.map UInt8.toNat)
def valW (ws : List UInt64) : Nat := valD 18446744073709551616 (ws.map UInt64.toNat)
theorem bytes_lt (bs : List UInt8) : ∀ x, x ∈ bs.map UInt8.toNat → x < 256 := fun x hx => by
  obtain ⟨b, _, rfl⟩ := List.mem_map.1 hx
  exact b.toNat_lt
theorem words_lt (ws : List UInt64) : ∀ x, x ∈ ws.map UInt64.toNat → x < 18446744073709551616 := fun x hx => by
  obtain ⟨b, _, rfl⟩ := List.mem_map.1 hx
  exact b.toNat_lt
theorem valB_lt (bs : List UInt8) : valB bs < 256 ^ bs.length := by
  have := valD_lt (b := 256) (by decide) _ (bytes_lt bs)
  rwa [List.length_map] at this
theorem valW_lt (ws : List UInt64) : valW ws < 18446744073709551616 ^ ws.length := by
  have := valD_lt (b := 18446744073709551616) (by decide) _ (words_lt ws)
  rwa [List.length_map] at this
/-- words, the last not 0 -/
def NormW (ws : List UInt64) : Prop := ws.getLast? ≠ some 0
theorem NormW.digs {ws : List UInt64} (h : NormW ws) : digs 18446744073709551616 (valW ws) = ws.map UInt64.toNat :=
  digs_valD (by decide) _ (words_lt ws) (by
    rw [List.getLast?_map]
    cases e : ws.getLast? with
    | none => simp
    | some x =>
      intro hx
      have : x.toNat = 0 := by simpa using hx
      have : x = 0 := UInt64.toNat_inj.1 (by simpa using this)
      exact h (by rw [e, this]))
theorem NormW.inj {ws vs : List UInt64} (h : NormW ws) (g : NormW vs) (e : valW ws = valW vs) : ws = vs := by
  have h1 := h.digs
  rw [e, g.digs] at h1
  exact (map_inj (p := fun _ => True) (f := UInt64.toNat) (fun a b _ _ hab => UInt64.toNat_inj.1 hab) (fun _ _ => trivial) (fun _ _ => trivial) h1).symm
/-- words are so many just where the number is so great -/
theorem NormW.len {ws : List UInt64} (h : NormW ws) {k : Nat} (hv : valW ws < 18446744073709551616 ^ k) : ws.length ≤ k := by
  have h1 := congrArg List.length h.digs
  rw [List.length_map] at h1
  rw [← h1]
  exact (lowD_pad (b := 18446744073709551616) (by decide) k (valW ws) hv).2
end Go.By
namespace Go.By
/-- one step of a row of a product: digit y of the second number, p what stands there, c the carry -/
theorem mul_step {b i j a y p c V V' V0 S s' c' : Nat} (h : V + b ^ (i + j) * c = V0 + b ^ i * (a * S)) (hs : s' = (a * y + p + c) % b) (hc : c' = (a * y + p + c) / b) (hv : V' + b ^ (i + j) * p = V + b ^ (i + j) * s') : V' + b ^ (i + (j + 1)) * c' = V0 + b ^ i * (a * (S + b ^ j * y)) := by
  have h1 : s' + b * c' = a * y + p + c := by rw [hs, hc]; exact Nat.mod_add_div _ _
  have h2 : b ^ (i + (j + 1)) * c' = b ^ (i + j) * (b * c') := by rw [← Nat.add_assoc, Nat.pow_succ, Nat.mul_assoc]
  have h3 : b ^ (i + j) * s' + b ^ (i + j) * (b * c') = b ^ (i + j) * (a * y) + b ^ (i + j) * p + b ^ (i + j) * c := by rw [← Nat.mul_add, h1, Nat.mul_add, Nat.mul_add]
  have h4 : b ^ i * (a * (S + b ^ j * y)) = b ^ i * (a * S) + b ^ (i + j) * (a * y) := by
    rw [Nat.mul_add, Nat.mul_add, Nat.pow_add, Nat.mul_assoc, Nat.mul_left_comm a]
  rw [h2, h4]; omega
/-- the row's end: the carry goes where a nought stood -/
theorem mul_row {b i n a c V V' V0 S : Nat} (h : V + b ^ (i + n) * c = V0 + b ^ i * (a * S)) (hv : V' + b ^ (i + n) * 0 = V + b ^ (i + n) * c) : V' = V0 + b ^ i * (a * S) := by
  rw [Nat.mul_zero, Nat.add_zero] at hv; omega
/-- .. and the next row -/
theorem mul_next {b i a S A V : Nat} (h : V = A * S) : V + b ^ i * (a * S) = (A + b ^ i * a) * S := by
  rw [h, Nat.add_mul, Nat.mul_assoc]
/-- a digit fits -/
theorem mul_fits {a y p c : Nat} {B : Nat} (ha : a < B) (hy : y < B) (hp : p < B) (hc : c < B) : (a * y + p + c) / B < B := by
  rw [Nat.div_lt_iff_lt_mul (by omega)]
  have h1 : a * y ≤ (B - 1) * (B - 1) := Nat.mul_le_mul (by omega) (by omega)
  obtain ⟨m, rfl⟩ : ∃ m, B = m + 1 := ⟨B - 1, by omega⟩
  have h2 : (m + 1) * (m + 1) = m * m + m + m + 1 := by rw [Nat.add_mul, Nat.mul_add]; omega
  rw [h2]
  have h3 : m + 1 - 1 = m := by omega
  rw [h3] at h1
  omega
/-- a text by words: what is ahead of the last sixteen letters, and these -/
theorem valT_cut {s : List UInt8} {e : Nat} (he : e ≤ s.length) : valT s = valT (s.drop e) + 16 ^ (s.length - e) * valT (s.take e) := by
  conv => lhs; rw [← List.take_append_drop e s]
  rw [valT_append, List.length_drop]
/-- one word more, read from a text's end: V the words' number, s so much of the text is left -/
theorem parse_step {s t : List UInt8} {V k N : Nat} (h : V + 18446744073709551616 ^ k * valT (s ++ t) = N) (ht : t.length = 16) : (V + 18446744073709551616 ^ k * valT t) + 18446744073709551616 ^ (k + 1) * valT s = N := by
  rw [← h, valT_append, ht, Nat.mul_add, Nat.pow_succ, Nat.add_assoc, Nat.mul_assoc]
theorem parse_last {t : List UInt8} {V k N : Nat} (h : V + 18446744073709551616 ^ k * valT t = N) : (V + 18446744073709551616 ^ k * valT t) + 18446744073709551616 ^ (k + 1) * valT [] = N := by
  rw [← h, show valT [] = 0 from rfl, Nat.mul_zero, Nat.add_zero]
/-- a word more ahead of a text -/
theorem text_step {w n : Nat} (hw : w < 18446744073709551616) (hn : 0 < n) : hexText (w + 18446744073709551616 * n) = hexText n ++ (List.replicate (16 - (hexText w).length) 48 ++ hexText w) ∧ (hexText w).length ≤ 16 := by
  have h := hexText_join (k := 16) (w := w) (n := n) (by simpa using hw) hn
  obtain ⟨e, hl⟩ := hex_pad (k := 16) (w := w) (by decide) (by simpa using hw)
  rw [← e]
  exact ⟨by simpa using h, hl⟩
theorem valW_drop {ws : List UInt64} {i : Nat} {x : UInt64} (h : ws[i]? = some x) : valW (ws.drop i) = x.toNat + 18446744073709551616 * valW (ws.drop (i + 1)) := by
  obtain ⟨hi, e⟩ := List.getElem?_eq_some_iff.1 h
  have : ws.drop i = x :: ws.drop (i + 1) := by rw [← e, List.getElem_cons_drop hi]
  rw [this]; rfl
/-- the highest words of a number that is none are none: never 0 -/
theorem NormW.drop_pos {ws : List UInt64} (h : NormW ws) {i : Nat} (hi : i < ws.length) : 0 < valW (ws.drop i) := by
  have hn : NormW (ws.drop i) := by
    show (ws.drop i).getLast? ≠ some 0
    rw [List.getLast?_drop, if_neg (by omega)]; exact h
  rcases Nat.eq_zero_or_pos (valW (ws.drop i)) with h0 | h0
  · have h1 := hn.digs
    rw [h0, digs_zero] at h1
    have h2 : (ws.drop i).length = 0 := by have := congrArg List.length h1; simp at this ⊢; omega
    rw [List.length_drop] at h2; omega
  · exact h0
end Go.By
namespace Go.By
theorem digs_len {b n L : Nat} (hb : 2 ≤ b) (h1 : b ^ L ≤ n) (h2 : n < b ^ (L + 1)) : (digs b n).length = L + 1 := by
  have hu := (lowD_pad hb (L + 1) n h2).2
  have hl := valD_lt hb (digs b n) (digs_lt hb n)
  rw [valD_digs hb] at hl
  have : L < (digs b n).length := (Nat.pow_lt_pow_iff_right (by omega : 1 < b)).1 (Nat.lt_of_le_of_lt h1 hl)
  omega
/-- the bytes of a word -/
theorem digs_bitLen {x : Nat} (hx : x ≠ 0) (h : x < 18446744073709551616) : (digs 256 x).length = (Lib.bitLen x + 7) / 8 ∧ 1 ≤ Lib.bitLen x ∧ Lib.bitLen x ≤ 64 := by
  obtain ⟨h1, h2, h3⟩ := Lib.bitLenAux_bounds 64 x (by simpa using h) hx
  have h4 : Lib.bitLen x ≤ 64 := Lib.bitLen_le x 64 (by decide) (by simpa using h)
  have h1 : 1 ≤ Lib.bitLen x := h1
  have h2 : 2 ^ (Lib.bitLen x - 1) ≤ x := h2
  have h3 : x < 2 ^ Lib.bitLen x := h3
  refine ⟨?_, h1, h4⟩
  obtain ⟨m, hm⟩ : ∃ m, Lib.bitLen x = m := ⟨_, rfl⟩
  rw [hm] at h1 h2 h3 h4 ⊢
  have e : (m + 7) / 8 = (m - 1) / 8 + 1 := by omega
  rw [e]
  have p : ∀ k, (256 : Nat) ^ k = 2 ^ (8 * k) := fun k => by rw [show (256 : Nat) = 2 ^ 8 from rfl, ← Nat.pow_mul]
  refine digs_len (by decide) ?_ ?_
  · rw [p]; exact Nat.le_trans (Nat.pow_le_pow_right (by decide) (by omega)) h2
  · rw [p]; exact Nat.lt_of_lt_of_le h3 (Nat.pow_le_pow_right (by decide) (by omega))
theorem digs_len_bounds {b n : Nat} (hb : 2 ≤ b) (hn : 0 < n) : ∃ L, (digs b n).length = L + 1 ∧ b ^ L ≤ n ∧ n < b ^ (L + 1) := by
  have hl := valD_lt hb (digs b n) (digs_lt hb n)
  rw [valD_digs hb] at hl
  obtain ⟨L, hL⟩ : ∃ L, (digs b n).length = L + 1 := ⟨(digs b n).length - 1, by rw [digs_pos hb hn]; simp⟩
  rw [hL] at hl
  refine ⟨L, hL, ?_, hl⟩
  rcases Nat.lt_or_ge n (b ^ L) with h | h
  · have := (lowD_pad hb L n h).2; omega
  · exact h
/-- how many bytes a number of words needs -/
theorem normW_bytes {ws : List UInt64} {k : Nat} {x : UInt64} (h : NormW ws) (hk : ws.length = k + 1) (hx : ws[k]? = some x) : (digs 256 (valW ws)).length = k * 8 + (Lib.bitLen x.toNat + 7) / 8 ∧ 1 ≤ Lib.bitLen x.toNat ∧ Lib.bitLen x.toNat ≤ 64 := by
  have hx0 : x.toNat ≠ 0 := fun e => by
    have : x = 0 := UInt64.toNat_inj.1 (by simpa using e)
    apply h
    rw [List.getLast?_eq_getElem?, hk, Nat.add_sub_cancel, hx, this]
  have hx64 : x.toNat < 18446744073709551616 := x.toNat_lt
  obtain ⟨e, h1, h2⟩ := digs_bitLen hx0 hx64
  refine ⟨?_, h1, h2⟩
  obtain ⟨L, hL, g1, g2⟩ := digs_len_bounds (b := 256) (by decide) (Nat.pos_of_ne_zero hx0)
  rw [← e, hL]
  have hv : valW ws = valD 18446744073709551616 ((ws.map UInt64.toNat).take k) + 18446744073709551616 ^ k * x.toNat := by
    have := valD_take (b := 18446744073709551616) (i := k) (xs := ws.map UInt64.toNat) (x := x.toNat) (by rw [List.getElem?_map, hx]; rfl)
    rw [← this, List.take_of_length_le (by rw [List.length_map]; omega)]; rfl
  have hlow : valD 18446744073709551616 ((ws.map UInt64.toNat).take k) < 18446744073709551616 ^ k := by
    have := valD_lt (b := 18446744073709551616) (by decide) ((ws.map UInt64.toNat).take k) (fun y hy => words_lt ws y (List.mem_of_mem_take hy))
    rwa [List.length_take, List.length_map, Nat.min_eq_left (by omega)] at this
  have p : (18446744073709551616 : Nat) ^ k = 256 ^ (8 * k) := by rw [show (18446744073709551616 : Nat) = 256 ^ 8 from rfl, ← Nat.pow_mul]
  rw [p] at hv hlow
  obtain ⟨V, hV⟩ : ∃ V, V = valD 18446744073709551616 ((ws.map UInt64.toNat).take k) := ⟨_, rfl⟩
  rw [← hV] at hv hlow
  rw [hv, show k * 8 + (L + 1) = (8 * k + L) + 1 by omega]
  refine digs_len (by decide) ?_ ?_
  · rw [Nat.pow_add]
    have := Nat.mul_le_mul_left (256 ^ (8 * k)) g1
    omega
  · rw [show 8 * k + L + 1 = 8 * k + (L + 1) by omega, Nat.pow_add]
    have : 256 ^ (8 * k) * (x.toNat + 1) ≤ 256 ^ (8 * k) * 256 ^ (L + 1) := Nat.mul_le_mul_left _ g2
    rw [Nat.mul_add] at this
    omega
/-- a number's bytes, the lowest first, the last not 0 -/
def bytesN (N : Nat) : List UInt8 := (digs 256 N).map UInt8.ofNat
theorem bytesN_toNat (N : Nat) : (bytesN N).map UInt8.toNat = digs 256 N := by
  unfold bytesN
  rw [List.map_map]
  have : (digs 256 N).map (UInt8.toNat ∘ UInt8.ofNat) = (digs 256 N).map id := List.map_congr_left fun d hd => by
    have := digs_lt (b := 256) (by decide) N d hd
    show (UInt8.ofNat d).toNat = d
    simp; omega
  rw [this, List.map_id]
theorem valB_bytesN (N : Nat) : valB (bytesN N) = N := by unfold valB; rw [bytesN_toNat, valD_digs (by decide)]
theorem bytesN_len (N : Nat) : (bytesN N).length = (digs 256 N).length := by unfold bytesN; rw [List.length_map]
theorem bytesN_zero : bytesN 0 = [] := by unfold bytesN; rw [digs_zero]; rfl
theorem bytesN_inj {M N : Nat} (h : bytesN M = bytesN N) : M = N := by rw [← valB_bytesN M, h, valB_bytesN]
/-- bytes whose last isn't 0 are those of their number -/
theorem bytesN_valB {bs : List UInt8} (h : bs.getLast? ≠ some 0) : bytesN (valB bs) = bs := by
  have e : digs 256 (valB bs) = bs.map UInt8.toNat := digs_valD (by decide) _ (bytes_lt bs) (by
    rw [List.getLast?_map]
    cases e : bs.getLast? with
    | none => simp
    | some x =>
      intro hx
      have : x.toNat = 0 := by simpa using hx
      have : x = 0 := UInt8.toNat_inj.1 (by simpa using this)
      exact h (by rw [e, this]))
  unfold bytesN
  rw [e, List.map_map]
  have : bs.map (UInt8.ofNat ∘ UInt8.toNat) = bs.map id := List.map_congr_left fun b _ => by simp
  rw [this, List.map_id]
theorem bytesN_last (N : Nat) : (bytesN N).getLast? ≠ some 0 := by
  intro h
  have := digs_last (b := 256) (by decide) N
  rw [← bytesN_toNat, List.getLast?_map, h] at this
  exact this rfl
/-- one more byte 0 behind is nothing -/
theorem valB_take_zero {bs : List UInt8} {k : Nat} {x : UInt8} (hx : bs[k]? = some x) (h0 : x.toNat = 0) : valB (bs.take (k + 1)) = valB (bs.take k) := by
  unfold valB
  rw [List.map_take, List.map_take, valD_take (x := 0) (by rw [List.getElem?_map, hx]; simp [h0])]; simp
theorem bytesN_take {bs : List UInt8} {k : Nat} {x : UInt8} (hx : bs[k]? = some x) (h0 : x.toNat ≠ 0) : bytesN (valB (bs.take (k + 1))) = bs.take (k + 1) := by
  refine bytesN_valB ?_
  rw [List.take_add_one, hx]
  simp only [Option.toList_some, List.getLast?_append, List.getLast?_singleton]
  intro h
  have : x = 0 := by simpa using h
  rw [this] at h0; exact h0 rfl
theorem valW_take_zero {ws : List UInt64} {k : Nat} {x : UInt64} (hx : ws[k]? = some x) (h0 : x.toNat = 0) : valW (ws.take (k + 1)) = valW (ws.take k) := by
  unfold valW
  rw [List.map_take, List.map_take, valD_take (x := 0) (by rw [List.getElem?_map, hx]; simp [h0])]; simp
theorem NormW_take {ws : List UInt64} {k : Nat} {x : UInt64} (hx : ws[k]? = some x) (h0 : x.toNat ≠ 0) : NormW (ws.take (k + 1)) := by
  show (ws.take (k + 1)).getLast? ≠ some 0
  rw [List.take_add_one, hx]
  simp only [Option.toList_some, List.getLast?_append, List.getLast?_singleton]
  intro h
  have : x = 0 := by simpa using h
  rw [this] at h0; exact h0 rfl
/-- so many words just where the number is so great -/
theorem NormW.big {ws : List UInt64} (h : NormW ws) {k : Nat} (hl : k < ws.length) : 18446744073709551616 ^ k ≤ valW ws := by
  rcases Nat.lt_or_ge (valW ws) (18446744073709551616 ^ k) with h1 | h1
  · have := h.len h1; omega
  · exact h1
end Go.By
namespace Go.By
open Go.RowKit
/-- a word as a value -/
abbrev W64 (x : UInt64) : Value := .int .u64 x.toNat
/-- how great a number may be -/
def powW (k : Nat) : Nat := 18446744073709551616 ^ k
theorem powW_mono {j k : Nat} (h : j ≤ k) : powW j ≤ powW k := Nat.pow_le_pow_right (by decide) h
theorem powW_lt (ws : List UInt64) : valW ws < powW ws.length := valW_lt ws
theorem powW_big {ws : List UInt64} (h : NormW ws) {k : Nat} (hl : k < ws.length) : powW k ≤ valW ws := h.big hl
def capN : Nat := powW 512
/-- where a slice's cells lie: a block of elements of type T -/
def Lies (T : TypeId) (w : World) (q : Option Addr) : Prop := ∀ a, q = some a → ∃ cs fr, w.heap[a.block]? = some (.cells cs T fr)
theorem Lies.keep {T : TypeId} {w w' : World} {q : Option Addr} (h : Lies T w q) (hb : Below w.heap.size w w') : Lies T w' q := fun a ha => by
  obtain ⟨cs, fr, hc⟩ := h a ha
  exact ⟨cs, fr, (hb.block _ (lt_of_block hc)).trans hc⟩
theorem Lies.none (T : TypeId) (w : World) : Lies T w none := fun _ h => by cases h
theorem Lies.at {T : TypeId} {w : World} {g o : Nat} {cs : Array Value} {fr : Nat × Nat} (h : w.heap[g]? = some (.cells cs T fr)) : Lies T w (some ⟨g, o, .none⟩) := fun a ha => by
  obtain rfl := Option.some.inj ha
  exact ⟨cs, fr, h⟩
/-- a block of another kind is written -/
theorem Lies.set {T T' : TypeId} {w : World} {q : Option Addr} (h : Lies T w q) {g i : Nat} {cs : Array Value} {fr : Nat × Nat} {v : Value} (hg : w.heap[g]? = some (.cells cs T' fr)) (hne : T' ≠ T) : Lies T (w.setCell ⟨g, i, .none⟩ v) q := fun a ha => by
  obtain ⟨ds, fr', hc⟩ := h a ha
  have : a.block ≠ g := fun e => by rw [e, hg] at hc; cases hc; exact hne rfl
  exact ⟨ds, fr', hsc hc this⟩
theorem Sl.setT {α : Type} {enc : α → Value} {T T' : TypeId} {w : World} {q : Option Addr} {n c : Nat} {xs : List α} (h : Sl enc w q n c xs) (hl : Lies T w q) {g i : Nat} {cs : Array Value} {fr : Nat × Nat} {v : Value} (hg : w.heap[g]? = some (.cells cs T' fr)) (hne : T' ≠ T) : Sl enc (w.setCell ⟨g, i, .none⟩ v) q n c xs := by
  refine ⟨h.len, h.le, h.max, h.nil, fun j hj => ?_⟩
  obtain ⟨b, o, hp, hc⟩ := h.rs j hj
  obtain ⟨ds, fr', hd⟩ := hl _ hp
  have : b ≠ g := fun e => by rw [show (⟨b, o, .none⟩ : Addr).block = b from rfl, e, hg] at hd; cases hd; exact hne rfl
  exact ⟨b, o, hp, (World.cell?_of_block (a := ⟨b, o + j, .none⟩) (Below.heap_setCell _ _ _ _ this)).trans hc⟩
/-- words in memory that read as a number -/
structure Ws (T : TypeId) (w : World) (q : Option Addr) (n c : Nat) (N : Nat) : Prop where
  ex : ∃ ws, Sl W64 w q n c ws ∧ NormW ws ∧ valW ws = N
  le : n ≤ 512
  lies : Lies T w q
theorem Ws.keep {T : TypeId} {w w' : World} {q : Option Addr} {n c N : Nat} (h : Ws T w q n c N) (hb : Below w.heap.size w w') : Ws T w' q n c N := by
  obtain ⟨ws, hs, hn, hv⟩ := h.ex
  exact ⟨⟨ws, hs.keep hb, hn, hv⟩, h.le, h.lies.keep hb⟩
theorem Ws.set {T T' : TypeId} {w : World} {q : Option Addr} {n c N : Nat} (h : Ws T w q n c N) {g i : Nat} {cs : Array Value} {fr : Nat × Nat} {v : Value} (hg : w.heap[g]? = some (.cells cs T' fr)) (hne : T' ≠ T) : Ws T (w.setCell ⟨g, i, none⟩ v) q n c N := by
  obtain ⟨ws, hs, hn, hv⟩ := h.ex
  exact ⟨⟨ws, hs.setT h.lies hg hne, hn, hv⟩, h.le, h.lies.set hg hne⟩
theorem Ws.lt {T : TypeId} {w : World} {q : Option Addr} {n c N : Nat} (h : Ws T w q n c N) : N < capN := by
  obtain ⟨ws, hs, hn, rfl⟩ := h.ex
  have := powW_lt ws
  rw [hs.len] at this
  exact Nat.lt_of_lt_of_le this (powW_mono h.le)
theorem Ws.zero (T : TypeId) (w : World) : Ws T w none 0 0 0 := ⟨⟨[], Sl.nil0 _ _, by simp [NormW], rfl⟩, by omega, Lies.none _ _⟩
/-- a number, and what went wrong -/
def RetN (T : TypeId) (w : World) (N : Nat) (e : Ending) (w' : World) : Prop :=
  ∃ q n c, e = .returned (.tuple #[.agg #[.slice q n c], .int .i64 0]) ∧ Ws T w' q n c N ∧ Below w.heap.size w w'
def Ret0 (w : World) (code : Int) (e : Ending) (w' : World) : Prop :=
  e = .returned (.tuple #[.agg #[.slice none 0 0], .int .i64 code]) ∧ Below w.heap.size w w'
def RetMn (T : TypeId) (w : World) (N : Nat) (e : Ending) (w' : World) : Prop := (N < capN ∧ RetN T w N e w') ∨ (capN ≤ N ∧ Ret0 w 16 e w')
theorem RetMn.ok {T : TypeId} {w w' : World} {N : Nat} {e : Ending} (h : RetMn T w N e w') (hN : N < capN) : RetN T w N e w' := by
  rcases h with h | h
  · exact h.2
  · omega
theorem RetMn.long {T : TypeId} {w w' : World} {N : Nat} {e : Ending} (h : RetMn T w N e w') (hN : capN ≤ N) : Ret0 w 16 e w' := by
  rcases h with h | h
  · omega
  · exact h.2
/-- a number alone -/
def RetN1 (T : TypeId) (w : World) (N : Nat) (e : Ending) (w' : World) : Prop :=
  ∃ q n c, e = .returned (.agg #[.slice q n c]) ∧ Ws T w' q n c N ∧ Below w.heap.size w w'
theorem Sl.front {α : Type} {enc : α → Value} {w : World} {p : Option Addr} {n c k : Nat} {xs : List α} (h : Sl enc w p n c xs) (hk : k ≤ n) : Sl enc w p k c (xs.take k) := by
  have h1 := h.len; have h2 := h.le; have h3 := h.max
  refine ⟨by rw [List.length_take]; omega, by omega, h3, fun e => ⟨by have := (h.nil e).1; omega, (h.nil e).2⟩, ?_⟩
  intro i hi
  have hi' : i < xs.length := by rw [List.length_take] at hi; omega
  obtain ⟨b', o', hp, hc⟩ := h.rs i hi'
  exact ⟨b', o', hp, by rw [hc]; simp⟩
/-- what is left of words without noughts behind -/
theorem made_end {T : TypeId} {w : World} {q : Option Addr} {n c k : Nat} {ws : List UInt64} (h : Sl W64 w q n c ws) (hT : Lies T w q) (hk : k ≤ n) (hn : NormW (ws.take k)) (hv : valW (ws.take k) = valW ws) : (k ≤ 512 → Ws T w q k c (valW ws) ∧ valW ws < capN) ∧ (512 < k → capN ≤ valW ws) := by
  have hl : (ws.take k).length = k := by rw [List.length_take, h.len]; omega
  constructor
  · intro h1
    have : Ws T w q k c (valW ws) := ⟨⟨_, h.front hk, hn, hv⟩, h1, hT⟩
    exact ⟨this, this.lt⟩
  · intro h1
    rw [← hv]
    exact powW_big hn (by omega)
theorem res_cell_tmp {P : Program} {fn : Func} {p u : Tmp} {ty : TypeId} (h : fn.results = #[.cell p ty, .tmp u]) (tmps : Array Value) (w : World) (g : Nat) (t : TypeId) (cs : Array Value) (fr : Nat × Nat) (d : TypeDesc) (v : Value)
    (hp : tmps.getD p undef = .pointer (some ⟨g, 0, none⟩)) (hg : w.heap[g]? = some (.cells cs t fr)) (hv : tmps.getD u undef = v)
    (hu : P.underlying ty = some d) (hd : (match d with | .struct _ | .array _ _ => true | _ => false) = true) (hi : (P.info? ty).map (·.size) = some cs.size) :
    (results fn tmps).run P w = .ok (.tuple #[.agg cs, v]) w := by
  have hp' : tmps[p]?.getD undef = .pointer (some ⟨g, 0, none⟩) := by simpa using hp
  have hv' : tmps[u]?.getD undef = v := by simpa using hv
  simp [results, h, hp', hv', asAddr, run_loadVar_row w g t ty cs fr d hg hu hd hi]
theorem hal_eq {w : World} {ob : Obj} {i : Nat} (h : i < w.heap.size) : (w.alloc ob).heap[i]? = w.heap[i]? := by rw [heap_alloc, if_neg (by omega)]
/-- a block of one cell, behind further blocks -/
structure One (w : World) (g : Nat) (v : Value) (T : TypeId) : Prop where
  box : w.heap[g]? = some (.cells #[v] T (0, 0))
  cell : w.cell? ⟨g, 0, none⟩ = some v
  free : w.frozen? ⟨g, 0, none⟩ = false
  acell : ∀ o, (w.alloc o).cell? ⟨g, 0, none⟩ = some v
  afree : ∀ o, (w.alloc o).frozen? ⟨g, 0, none⟩ = false
theorem One.of {w : World} {g : Nat} {v : Value} {T : TypeId} (h : w.heap[g]? = some (.cells #[v] T (0, 0))) : One w g v T :=
  ⟨h, cell_of_row _ _ 0 _ _ _ h, frozen_of_row _ _ _ _ _ h, fun _ => cell_of_row _ _ 0 _ _ _ (hal h), fun _ => frozen_of_row _ _ _ _ _ (hal h)⟩
theorem NormW_nil : NormW [] := by simp [NormW]
end Go.By
namespace Go.Proofs.YtbfmdfbnhakolaaDoor
open Go.RowKit Go.By
theorem info_nat : (Tryd.prog.info? 29).map (·.size) = some 1 := by kernel_rfl
theorem info_u64 : (Tryd.prog.info? 34).map (fun i => (i.zero, i.size, i.bytes)) = some (some (.int .u64 0), 1, 8) := by kernel_rfl
set_option maxRecDepth 100000 in
set_option maxHeartbeats 1000000 in
theorem made_any (q : Option Addr) (n c : Nat) (ws : List UInt64) (w : World) (h : Sl W64 w q n c ws) (hT : Lies 34 w q) :
    Calls Tryd.prog 33 #[.slice q n c] w (RetMn 34 w (valW ws)) := by
  have hn := h.bound
  have hnc := h.le
  have hinfo := info_nat
  have HA : Hid (∀ o, Sl W64 (w.alloc o) q n c ws) := fun o => h.keep (al (Below.refl _ _) (Nat.le_refl _))
  have HT : Hid (∀ o, Lies 34 (w.alloc o) q) := fun o => hT.keep (al (Below.refl _ _) (Nat.le_refl _))
  have HT0 := Lib.hid hT; clear hT
  have HB : Hid (∀ o, Below w.heap.size w (w.alloc o)) := fun o => al (Below.refl _ _) (Nat.le_refl _)
  have HX : Hid (∀ o, (w.alloc o).heap[w.heap.size]? = some o) := fun o => hnew rfl
  have H := Lib.hid h; clear h
  go_enter Tryd.func33, Tryd.ntmps33
  go_wp2
  go_loop [4] (fun i => ∃ k : Nat, k ≤ n ∧ i = .int .i64 k ∧ Hid (valW (ws.take k) = valW ws)) (fun i => (intOf i).toNat)
  case atStart => exact ⟨n, Nat.le_refl _, rfl, by show valW (ws.take n) = valW ws; rw [← H.out.len, List.take_length]⟩
  case round =>
    obtain ⟨k, hk, rfl, hr⟩ := hrel
    by_cases hk0 : k = 0
    · subst hk0
      have HE : Hid (∀ o, Ws 34 (w.alloc o) q 0 c (valW ws)) := fun o => ((made_end (HA.out o) (HT.out o) (Nat.zero_le n) (by simpa using NormW_nil) hr.out).1 (by omega)).1
      have HL : Hid (valW ws < capN) := ((made_end H.out HT0.out (Nat.zero_le n) (by simpa using NormW_nil) hr.out).1 (by omega)).2
      cases q with
      | none =>
        obtain ⟨rfl, rfl⟩ := H.out.nil rfl
        go_wp2
        exact bodyPost_ret (res_cell_tmp rfl _ _ _ 29 #[.slice none 0 0] (0, 0) _ (.int .i64 0) rfl (HX.out _) rfl Tryd.underlying29 rfl hinfo) rfl (Or.inl ⟨HL.out, _, _, _, rfl, HE.out _, HB.out _⟩)
      | some ad =>
        go_wp2
        exact bodyPost_ret (res_cell_tmp rfl _ _ _ 29 #[.slice (some ad) 0 c] (0, 0) _ (.int .i64 0) rfl (HX.out _) rfl Tryd.underlying29 rfl hinfo) rfl (Or.inl ⟨HL.out, _, _, _, rfl, HE.out _, HB.out _⟩)
    · obtain ⟨j, rfl⟩ : ∃ j, k = j + 1 := ⟨k - 1, by omega⟩
      obtain ⟨b, o, x, rfl, hc, hx⟩ := H.out.at j (by omega)
      have hc' : ∀ ob, (w.alloc ob).cell? ⟨b, o + j, none⟩ = some (W64 x) := fun ob => (World.cell?_of_block (a := ⟨b, o + j, none⟩) (hal_eq (lt_of_cell hc))).trans hc
      clear hc hk0
      by_cases hx0 : x.toNat = 0
      · have HV : Hid (valW (ws.take j) = valW ws) := (valW_take_zero hx.out hx0).symm.trans hr.out
        rw [show W64 x = .int .u64 0 by show Value.int .u64 (x.toNat : Int) = _; rw [hx0]; rfl] at hc'
        clear hx0
        go_wp2
        go_round
        case rel => exact ⟨j, by omega, by go_num, HV⟩
        case measure => simp [intOf]
      · have HN : Hid (NormW (ws.take (j + 1))) := NormW_take hx.out hx0
        have hx1 : ((x.toNat : Int) == 0) = false := by simpa using hx0
        clear hx0
        by_cases h512 : j + 1 ≤ 512
        · have HE : Hid (∀ ob, Ws 34 (w.alloc ob) (some ⟨b, o, none⟩) (j + 1) c (valW ws)) := fun ob => ((made_end (HA.out ob) (HT.out ob) hk HN.out hr.out).1 h512).1
          have HL : Hid (valW ws < capN) := ((made_end H.out HT0.out hk HN.out hr.out).1 h512).2
          have h512' : ¬ ((512 : Int) < (j : Int) + 1) := by omega
          clear h512
          go_wp2
          exact bodyPost_ret (res_cell_tmp rfl _ _ _ 29 #[.slice (some ⟨b, o, none⟩) (j + 1) c] (0, 0) _ (.int .i64 0) rfl (HX.out _) rfl Tryd.underlying29 rfl hinfo) rfl (Or.inl ⟨HL.out, _, _, _, rfl, HE.out _, HB.out _⟩)
        · have HL : Hid (capN ≤ valW ws) := (made_end H.out HT0.out hk HN.out hr.out).2 (by omega)
          have h512' : (512 : Int) < (j : Int) + 1 := by omega
          clear h512
          go_wp2
          exact bodyPost_ret (res_cell_tmp rfl _ _ _ 29 #[.slice none 0 0] (0, 0) _ (.int .i64 16) rfl (HX.out _) rfl Tryd.underlying29 rfl hinfo) rfl (Or.inr ⟨HL.out, rfl, HB.out _⟩)
theorem valW_one (x : UInt64) : valW [x] = x.toNat := by show x.toNat + _ * 0 = _; omega
theorem small_cap (x : UInt64) : x.toNat < capN := Nat.lt_of_lt_of_le (by have := powW_lt [x]; rw [valW_one] at this; exact this) (powW_mono (show 1 ≤ 512 by decide))
set_option maxRecDepth 100000 in
set_option maxHeartbeats 1000000 in
theorem OfN_any (x : UInt64) (w : World) : Calls Tryd.prog 10 #[W64 x] w (RetN1 34 w x.toNat) := by
  have hinfo := info_nat
  have hm : (1 : Nat) ≤ maxLen := by simp [maxLen]
  go_enter Tryd.func10, Tryd.ntmps10
  go_wp2_with fail
  refine Calls.mono (made_any _ 1 1 [x] _ (sl_block [x] 1 (hnew (by simp)) rfl rfl hm) (Lies.at (hnew (by simp)))) ?_
  rintro e w1 hr
  rw [valW_one] at hr
  obtain ⟨q, n, c, rfl, hws, hb⟩ := hr.ok (small_cap x)
  have hone : One w1 w.heap.size (.slice none 0 0) 29 := One.of ((hb.block _ (by simp <;> omega)).trans (hal (hnew rfl)))
  have HO : Hid (∀ o, (w1.alloc o).heap[w.heap.size]? = some (.cells #[.slice none 0 0] 29 (0, 0))) := fun o => hal hone.box
  obtain ⟨_, a1, a2, a3, a4⟩ := hone
  have hsz := hb.size
  simp at hsz
  have HB : Hid (Below w.heap.size w w1) := bl (al (al (Below.refl _ _) (Nat.le_refl _)) (by simp)) hb (by simp <;> omega)
  have HF : Hid (∀ o v, Below w.heap.size w ((w1.alloc o).setCell ⟨w.heap.size, 0, none⟩ v) ∧ Below w1.heap.size w1 (w1.alloc o)) := fun o v => ⟨(al HB.out (by omega)).setCell (Nat.le_refl _) _, al (Below.refl _ _) (Nat.le_refl _)⟩
  have HW : Hid (∀ o v, Ws 34 ((w1.alloc o).setCell ⟨w.heap.size, 0, none⟩ v) q n c x.toNat) := fun o v => (hws.keep (al (Below.refl _ _) (Nat.le_refl _))).set (HO.out o) (by decide)
  clear hr hws hb hsz
  go_wp2
  exact bodyPost_ret (results_cell_row rfl _ _ _ 29 #[.slice q n c] (0, 0) _ rfl (hss (HO.out _)) Tryd.underlying29 rfl hinfo) rfl ⟨_, _, _, rfl, HW.out _ _, (HF.out _ _).1⟩
end Go.Proofs.YtbfmdfbnhakolaaDoor
