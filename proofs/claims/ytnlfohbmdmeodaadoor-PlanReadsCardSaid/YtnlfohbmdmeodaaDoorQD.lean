/- The plan's Room, Pad, Text; the reference's Text. -/
import Derived.Test.YtnlfohbmdmeodaaDoorQB
import Derived.Test.YtnlfohbmdmeodaaDoorP2
import Derived.Test.YtnlfohbmdmeodaaDoorR4
import Derived.Lib.ItoaLen
namespace Go.By
open Go.RowKit
/-- a slice of texts in a block of its own -/
def ShpStr (T : TypeId) (L : List (List UInt8)) : Shp := ⟨fun v w => ∃ b, v = .slice (some ⟨b, 0, none⟩) L.length L.length ∧ w.heap[b]? = some (.cells (L.map fun x => Value.string (strB x)).toArray T (0, 0)), fun _ _ _ ⟨b, e, h⟩ hb => ⟨b, e, (hb.block _ (lt_of_block h)).trans h⟩⟩
/-- the words of a plan's text -/
def wordsS (d l s n : Nat) : List (List UInt8) := [[111, 98, 106, 101, 99, 116], Lib.decDigits d, Lib.decDigits l, Lib.decDigits s, Lib.decDigits n]
def textW (d l s n : Nat) : List UInt8 := Lib.join (wordsS d l s n) [32]
theorem dd_len {u : Nat} (h : u < 18446744073709551616) : (Lib.decDigits u).length ≤ 20 := by rw [Lib.decDigits_length]; exact Lib.nDigits_le20 u h
theorem textW_eq (d l s n : Nat) : textW d l s n = [111, 98, 106, 101, 99, 116] ++ 32 :: (Lib.decDigits d ++ 32 :: (Lib.decDigits l ++ 32 :: (Lib.decDigits s ++ 32 :: Lib.decDigits n))) := by
  unfold textW wordsS; rw [Lib.join_cons]; simp [Lib.joinTail]
theorem textW_len {d l s n : Nat} (hd : d < 18446744073709551616) (hl : l < 18446744073709551616) (hs : s < 18446744073709551616) (hn : n < 18446744073709551616) : (textW d l s n).length ≤ 100 := by
  have h1 := dd_len hd; have h2 := dd_len hl; have h3 := dd_len hs; have h4 := dd_len hn
  rw [textW_eq]; simp only [List.length_append, List.length_cons, List.length_nil]; omega
end Go.By
namespace Go.Proofs.YtnlfohbmdmeodaaDoor
open Go.RowKit Go.By
theorem use_wq {P : Program} {f : FuncId} {args : Array Value} {W : World} {Q : Ending → World → Prop} (I : World → Prop) (h : I W) (k : ∀ W', I W' → Calls P f args W' Q) : Calls P f args W Q := k W h
theorem lt_blkq {w : World} {b : Nat} {o : Obj} (h : w.heap[b]? = some o) : b < w.heap.size := by
  rcases Nat.lt_or_ge b w.heap.size with g | g
  · exact g
  · rw [Array.getElem?_eq_none g] at h; cases h
/-- a plan in a block -/
def PC4 (b : Nat) (T : TypeId) (l s n d : Int) (W : World) : Prop := W.heap[b]? = some (.cells #[.int .i64 l, .int .i64 s, .int .i64 n, .int .u32 d] T (0, 0))
theorem PC4.keep {b : Nat} {T : TypeId} {l s n d : Int} {W W' : World} (h : PC4 b T l s n d W) (hb : Below W.heap.size W W') : PC4 b T l s n d W' := (hb.block _ (lt_blkq h)).trans h
theorem PC4.lt {b : Nat} {T : TypeId} {l s n d : Int} {W : World} (h : PC4 b T l s n d W) : b < W.heap.size := lt_blkq h
theorem PC4.cells {b : Nat} {T : TypeId} {l s n d : Int} {W : World} (h : PC4 b T l s n d W) : W.cell? ⟨b, 0, none⟩ = some (.int .i64 l) ∧ W.cell? ⟨b, 1, none⟩ = some (.int .i64 s) ∧ W.cell? ⟨b, 2, none⟩ = some (.int .i64 n) ∧ W.cell? ⟨b, 3, none⟩ = some (.int .u32 d) :=
  ⟨cell_of_row _ _ 0 _ _ _ h, cell_of_row _ _ 1 _ _ _ h, cell_of_row _ _ 2 _ _ _ h, cell_of_row _ _ 3 _ _ _ h⟩
theorem PC4.froz {b : Nat} {T : TypeId} {l s n d : Int} {W : World} (h : PC4 b T l s n d W) (i : Nat) : W.frozen? ⟨b, i, none⟩ = false := frozen_of_row _ _ i _ _ h
def roomS (l s n : Int) : Int := if checkS l s n = 0 then n * s else 0
def padS (l s n : Int) : Int := if checkS l s n = 0 then n * s - l else 0
def textS (l s n : Int) (d : Nat) : List UInt8 := if checkS l s n = 0 then textW d l.toNat s.toNat n.toNat else []
theorem checkS_zero {l s n : Int} (h : checkS l s n = 0) : 0 ≤ l ∧ 1 ≤ s ∧ s ≤ 65535 ∧ n = needS l s ∧ 1 ≤ n ∧ n ≤ 4096 ∧ l ≤ n * s ∧ 0 ≤ n * s ∧ n * s ≤ 268431360 := by
  have hf : fitS l s = 0 := by
    unfold checkS at h
    by_cases e : fitS l s = 0
    · exact e
    · rw [if_neg e] at h; exact h
  have hn : n = needS l s := by
    unfold checkS at h
    rw [if_pos hf] at h
    by_cases e : n = needS l s
    · exact e
    · rw [if_neg e] at h; cases h
  rcases fitS_cases l s with ⟨a, _⟩ | ⟨_, h1, h2, h3, h4⟩
  · exact absurd hf a
  · have hp := (needS_pos h1 h2).1
    have hle : l ≤ needS l s * s := by
      by_cases h0 : l = 0
      · have : 0 ≤ needS l s * s := Int.mul_nonneg (by omega) (by omega)
        omega
      · exact (needS_spec (by omega) h2).2
    have hm : n * s ≤ 4096 * 65535 := Int.mul_le_mul (by omega) h3 (by omega) (by omega)
    have h0 : 0 ≤ n * s := Int.mul_nonneg (by omega) (by omega)
    exact ⟨h1, h2, h3, hn, by omega, by omega, by rw [hn]; exact hle, h0, by omega⟩
theorem checkS_cases (l s n : Int) : checkS l s n = 0 ∨ (checkS l s n != 0) = true := by
  by_cases h : checkS l s n = 0
  · exact .inl h
  · exact .inr (by simpa using h)
theorem cells4k {w w1 : World} {b : Nat} {a c e d : Value} {T : TypeId} {fr : Nat × Nat} (h : w.heap[b]? = some (.cells #[a, c, e, d] T fr)) (hb : Below w.heap.size w w1) : w1.cell? ⟨b, 0, none⟩ = some a ∧ w1.cell? ⟨b, 1, none⟩ = some c ∧ w1.cell? ⟨b, 2, none⟩ = some e ∧ w1.cell? ⟨b, 3, none⟩ = some d := by
  have h1 := (hb.block _ (lt_of_block h)).trans h
  exact ⟨cell_of_row _ _ _ _ _ _ h1, cell_of_row _ _ _ _ _ _ h1, cell_of_row _ _ _ _ _ _ h1, cell_of_row _ _ _ _ _ _ h1⟩
set_option maxRecDepth 100000 in
set_option maxHeartbeats 1000000 in
theorem PRoom_any (l s n d : Int) (w : World) (hl2 : l ≤ 9223372036854775807) :
    Calls Tryd.prog 13 #[.agg #[.int .i64 l, .int .i64 s, .int .i64 n, .int .u32 d]] w fun e w' => e = .returned (.int .i64 (roomS l s n)) ∧ Below w.heap.size w w' := by
  have HC := Lib.hid (fun w => Check_any l s n d w hl2)
  have HX : Hid (∀ o, (w.alloc o).heap[w.heap.size]? = some o) := fun o => hnew rfl
  rcases checkS_cases l s n with h | h
  · have HR : Hid (roomS l s n = n * s) := if_pos h
    obtain ⟨-, -, -, -, -, -, -, h1, h2⟩ := checkS_zero h
    rw [h] at HC
    clear h
    go_enter Tryd.func13, Tryd.ntmps13
    go_wp2_with fail
    refine Calls.mono (HC.out _) ?_
    rintro e w1 ⟨rfl, hb⟩
    obtain ⟨c0, c1, c2, c3⟩ := cells4k (HX.out _) hb
    have HB : Hid (Below w.heap.size w w1) := bl (al (Below.refl _ _) (Nat.le_refl _)) hb (by simp)
    clear hb
    go_wp2
    go_ret
    exact ⟨by rw [HR.out]; congr 1, HB.out⟩
  · have HR : Hid (roomS l s n = 0) := if_neg (by simpa using h)
    generalize checkS l s n = k at *
    go_enter Tryd.func13, Tryd.ntmps13
    go_wp2_with fail
    refine Calls.mono (HC.out _) ?_
    rintro e w1 ⟨rfl, hb⟩
    have HB : Hid (Below w.heap.size w w1) := bl (al (Below.refl _ _) (Nat.le_refl _)) hb (by simp)
    clear hb
    go_wp2
    go_ret
    exact ⟨by rw [HR.out]; rfl, HB.out⟩
set_option maxRecDepth 100000 in
set_option maxHeartbeats 1000000 in
theorem PPad_any (l s n d : Int) (w : World) (hl2 : l ≤ 9223372036854775807) :
    Calls Tryd.prog 14 #[.agg #[.int .i64 l, .int .i64 s, .int .i64 n, .int .u32 d]] w fun e w' => e = .returned (.int .i64 (padS l s n)) ∧ Below w.heap.size w w' := by
  have HC := Lib.hid (fun w => Check_any l s n d w hl2)
  have HX : Hid (∀ o, (w.alloc o).heap[w.heap.size]? = some o) := fun o => hnew rfl
  have HRM := Lib.hid (fun w => PRoom_any l s n d w hl2)
  rcases checkS_cases l s n with h | h
  · have HR : Hid (padS l s n = n * s - l) := if_pos h
    obtain ⟨h0, -, -, -, -, -, h3, h1, h2⟩ := checkS_zero h
    have er : roomS l s n = n * s := if_pos h
    rw [er] at HRM
    rw [h] at HC
    clear h er
    obtain ⟨r, hr⟩ : ∃ r, r = n * s := ⟨_, rfl⟩
    rw [← hr] at h1 h2 h3 HR HRM
    clear hr
    go_enter Tryd.func14, Tryd.ntmps14
    go_wp2_with fail
    refine Calls.mono (HC.out _) ?_
    rintro e w1 ⟨rfl, hb⟩
    obtain ⟨c0, c1, c2, c3⟩ := cells4k (HX.out _) hb
    have HB : Hid (Below w.heap.size w w1) := bl (al (Below.refl _ _) (Nat.le_refl _)) hb (by simp)
    clear hb
    go_wp2
    refine wp_region_shapes (fun ix => ([.val (.agg #[.int .i64 l, .int .i64 s, .int .i64 n, .int .u32 d]), .val (.int .i64 r), .val (.pointer (some ⟨w.heap.size, 0, none⟩)), .val (.int .i64 l), .val (.int .i64 (r - l)), .val (.int .i64 (r - l))][ix]?).getD (.any)) 11 rfl (by kernel_rfl) (by decide) (by decide) (by decide) ?_ ?_
    · refine ⟨?_, ?_, ?_, ?_, ?_, ?_, trivial⟩
      · intro a W hb0 hs hp hi; have hb := undrew hb0; clear hb0
        have tt : sl a 1 = .pointer (some ⟨w.heap.size, 0, none⟩) := hi 1 (by decide)
        have dd0 := (hb.cell (p := ⟨w.heap.size, 0, none⟩) (lt_of_cell c0)).trans c0
        have dd1 := (hb.cell (p := ⟨w.heap.size, 1, none⟩) (lt_of_cell c1)).trans c1
        have dd2 := (hb.cell (p := ⟨w.heap.size, 2, none⟩) (lt_of_cell c2)).trans c2
        have dd3 := (hb.cell (p := ⟨w.heap.size, 3, none⟩) (lt_of_cell c3)).trans c3
        refine ite_y rfl (wp_val (.agg #[.int .i64 l, .int .i64 s, .int .i64 n, .int .u32 d]) ?_ ?_)
        · simp only [execOp, eval_tmp, tt]; simp [go_sem, dd0, dd1, dd2, dd3]
        · exact ⟨_, rfl, Below.refl _ _, rfl⟩
      · intro a W hb0 hs hp hi; have hb := undrew hb0; clear hb0
        have t6 : sl a 6 = .agg #[.int .i64 l, .int .i64 s, .int .i64 n, .int .u32 d] := hp 0 (by decide)
        refine ite_y rfl (wp_enter 13 #[.agg #[.int .i64 l, .int .i64 s, .int .i64 n, .int .u32 d]] ?_ (HRM.out W) ?_)
        · simp only [execOp, resolve, List.map_toArray, List.map, eval_tmp, eval_func, eval_const, t6]; simp [go_sem]
        · rintro e W' ⟨rfl, hw⟩; exact ⟨_, rfl, _, rfl, hw, rfl⟩
      · intro a W hb0 hs hp hi; have hb := undrew hb0; clear hb0
        have t1 : sl a 1 = .pointer (some ⟨w.heap.size, 0, none⟩) := hi 1 (by decide)
        refine ite_y rfl (wp_val (.pointer (some ⟨w.heap.size, 0, none⟩)) ?_ ?_)
        · simp only [execOp, eval_tmp, eval_const, t1]; simp [go_sem]
        · exact ⟨_, rfl, Below.refl _ _, rfl⟩
      · intro a W hb0 hs hp hi; have hb := undrew hb0; clear hb0
        have tt : sl a 8 = .pointer (some ⟨w.heap.size, 0, none⟩) := hp 2 (by decide)
        have dd := (hb.cell (p := ⟨w.heap.size, 0, none⟩) (lt_of_cell c0)).trans c0
        refine ite_y rfl (wp_val (.int .i64 l) ?_ ?_)
        · simp only [execOp, eval_tmp, tt]; simp [go_sem, dd]
        · exact ⟨_, rfl, Below.refl _ _, rfl⟩
      · intro a W hb0 hs hp hi; have hb := undrew hb0; clear hb0
        have t7 : sl a 7 = .int .i64 r := hp 1 (by decide)
        have t9 : sl a 9 = .int .i64 l := hp 3 (by decide)
        refine ite_y rfl (wp_val (.int .i64 (r - l)) ?_ ?_)
        · simp only [execOp, eval_tmp, eval_const, t7, t9]; simp [go_sem, show IntKind.i64.wrap (r - l) = r - l by rw [IntKind.wrap_i64]; omega]
        · exact ⟨_, rfl, Below.refl _ _, rfl⟩
      · intro a W hb0 hs hp hi; have hb := undrew hb0; clear hb0
        have t10 : sl a 10 = .int .i64 (r - l) := hp 4 (by decide)
        exact ite_y rfl (wp_val (sl a 10) rfl ⟨_, rfl, Below.refl _ _, t10⟩)
    intro a w2 hb hs hd hI ht
    have ha := act_is [6, 7, 8, 9, 10, 2] hs hd ht (by decide)
    have t2 : sl a 2 = .int .i64 (r - l) := hI 5 (by decide)
    simp only [List.foldl, t2] at ha
    generalize sl a 6 = u6 at ha
    generalize sl a 7 = u7 at ha
    generalize sl a 8 = u8 at ha
    generalize sl a 9 = u9 at ha
    generalize sl a 10 = u10 at ha
    simp only [Act.put, List.setIfInBounds_toArray, List.set_cons_zero, List.set_cons_succ] at ha
    rw [ha]
    clear ha hI ht
    have HB2 : Hid (Below w.heap.size w w2) := bl HB.out hb HB.out.size
    clear hb
    go_wp2
    go_ret
    exact ⟨by rw [HR.out]; congr 1, HB2.out⟩
  · have HR : Hid (padS l s n = 0) := if_neg (by simpa using h)
    generalize checkS l s n = k at *
    go_enter Tryd.func14, Tryd.ntmps14
    go_wp2_with fail
    refine Calls.mono (HC.out _) ?_
    rintro e w1 ⟨rfl, hb⟩
    have HB : Hid (Below w.heap.size w w1) := bl (al (Below.refl _ _) (Nat.le_refl _)) hb (by simp)
    clear hb
    go_wp2
    go_ret
    exact ⟨by rw [HR.out]; rfl, HB.out⟩
set_option maxRecDepth 100000 in
set_option maxHeartbeats 4000000 in
theorem PText_any (l s n : Int) (d : Nat) (hd : d < 4294967296) (w : World) (hl2 : l ≤ 9223372036854775807) (hT : Tab10 w) :
    Calls Tryd.prog 11 #[.agg #[.int .i64 l, .int .i64 s, .int .i64 n, .int .u32 (d : Int)]] w fun e w' => e = .returned (.string (strB (textS l s n d))) ∧ Below w.heap.size w w' := by
  have HC := Lib.hid (fun w => Check_any l s n d w hl2)
  have HX : Hid (∀ o, (w.alloc o).heap[w.heap.size]? = some o) := fun o => hnew rfl
  have HT := Lib.hid hT
  clear hT
  rcases checkS_cases l s n with h | h
  · obtain ⟨h0, h1, h2, -, h4, h5, h6, -, h7⟩ := checkS_zero h
    obtain ⟨L, rfl⟩ := Int.eq_ofNat_of_zero_le h0
    obtain ⟨S, rfl⟩ := Int.eq_ofNat_of_zero_le (show 0 ≤ s by omega)
    obtain ⟨N, rfl⟩ := Int.eq_ofNat_of_zero_le (show 0 ≤ n by omega)
    have hL : L ≤ 9223372036854775807 := by omega
    have hS : S ≤ 9223372036854775807 := by omega
    have hN : N ≤ 9223372036854775807 := by omega
    have HR : Hid (textS L S N d = textW d L S N) := if_pos h
    rw [h] at HC
    clear h h0 h1 h2 h4 h5 h6 h7
    go_enter Tryd.func11, Tryd.ntmps11
    go_wp2_with fail
    refine Calls.mono (HC.out _) ?_
    rintro e w1 ⟨rfl, hb⟩
    obtain ⟨c0, c1, c2, c3⟩ := cells4k (HX.out _) hb
    have HB : Hid (Below w.heap.size w w1) := bl (al (Below.refl _ _) (Nat.le_refl _)) hb (by simp)
    have HT1 := Lib.hid (HT.out.keep HB.out)
    clear hb
    go_wp2
    refine wp_region_shapes (fun ix => ([.val (.pointer (some ⟨w.heap.size, 3, none⟩)), .val (.int .u32 (d : Int)), .val (.int .u64 (d : Int)), .val (.string (strB (Lib.decDigits d))), .val (.pointer (some ⟨w.heap.size, 0, none⟩)), .val (.int .i64 (L : Nat)), .val (.string (strB (Lib.decDigits L))), .val (.pointer (some ⟨w.heap.size, 1, none⟩)), .val (.int .i64 (S : Nat)), .val (.string (strB (Lib.decDigits S))), .val (.pointer (some ⟨w.heap.size, 2, none⟩)), .val (.int .i64 (N : Nat)), .val (.string (strB (Lib.decDigits N))), (ShpStr 9 (wordsS d L S N)), .val (.string (strB (textW d L S N))), .val (.string (strB (textW d L S N)))][ix]?).getD (.any)) 21 rfl (by kernel_rfl) (by decide) (by decide) (by decide) ?_ ?_
    · refine ⟨?_, ?_, ?_, ?_, ?_, ?_, ?_, ?_, ?_, ?_, ?_, ?_, ?_, ?_, ?_, ?_, trivial⟩
      · intro a W hb0 hs hp hi; have hb := undrew hb0; clear hb0
        have t1 : sl a 1 = .pointer (some ⟨w.heap.size, 0, none⟩) := hi 1 (by decide)
        refine ite_y rfl (wp_val (.pointer (some ⟨w.heap.size, 3, none⟩)) ?_ ?_)
        · simp only [execOp, eval_tmp, eval_const, t1]; simp [go_sem]
        · exact ⟨_, rfl, Below.refl _ _, rfl⟩
      · intro a W hb0 hs hp hi; have hb := undrew hb0; clear hb0
        have tt : sl a 6 = .pointer (some ⟨w.heap.size, 3, none⟩) := hp 0 (by decide)
        have dd := (hb.cell (p := ⟨w.heap.size, 3, none⟩) (lt_of_cell c3)).trans c3
        refine ite_y rfl (wp_val (.int .u32 (d : Int)) ?_ ?_)
        · simp only [execOp, eval_tmp, tt]; simp [go_sem, dd]
        · exact ⟨_, rfl, Below.refl _ _, rfl⟩
      · intro a W hb0 hs hp hi; have hb := undrew hb0; clear hb0
        have tt : sl a 7 = .int .u32 (d : Int) := hp 1 (by decide)
        refine ite_y rfl (wp_val (.int .u64 (d : Int)) ?_ ?_)
        · simp only [execOp, eval_tmp, tt]; simp [go_sem, Tryd.underlying22, Tryd.underlying45, show IntKind.u64.wrap (d : Int) = d by rw [IntKind.wrap_u64]; omega]
        · exact ⟨_, rfl, Below.refl _ _, rfl⟩
      · intro a W hb0 hs hp hi; have hb := undrew hb0; clear hb0
        have t8 : sl a 8 = .int .u64 (d : Int) := hp 2 (by decide)
        refine ite_y rfl (wp_enter 20 #[.int .u64 (d : Int), .int .i64 10] ?_ (FormatUint_10 d (by omega) W (HT1.out.keep hb)) ?_)
        · simp only [execOp, resolve, List.map_toArray, List.map, eval_tmp, eval_func, eval_const, t8]; simp [go_sem]
        · rintro e W' ⟨rfl, hw⟩; exact ⟨_, rfl, _, rfl, hw, rfl⟩
      · intro a W hb0 hs hp hi; have hb := undrew hb0; clear hb0
        have t1 : sl a 1 = .pointer (some ⟨w.heap.size, 0, none⟩) := hi 1 (by decide)
        refine ite_y rfl (wp_val (.pointer (some ⟨w.heap.size, 0, none⟩)) ?_ ?_)
        · simp only [execOp, eval_tmp, eval_const, t1]; simp [go_sem]
        · exact ⟨_, rfl, Below.refl _ _, rfl⟩
      · intro a W hb0 hs hp hi; have hb := undrew hb0; clear hb0
        have tt : sl a 10 = .pointer (some ⟨w.heap.size, 0, none⟩) := hp 4 (by decide)
        have dd := (hb.cell (p := ⟨w.heap.size, 0, none⟩) (lt_of_cell c0)).trans c0
        refine ite_y rfl (wp_val (.int .i64 (L : Nat)) ?_ ?_)
        · simp only [execOp, eval_tmp, tt]; simp [go_sem, dd]
        · exact ⟨_, rfl, Below.refl _ _, rfl⟩
      · intro a W hb0 hs hp hi; have hb := undrew hb0; clear hb0
        have t11 : sl a 11 = .int .i64 (L : Nat) := hp 5 (by decide)
        refine ite_y rfl (wp_enter 21 #[.int .i64 (L : Nat)] ?_ (Itoa_any L hL W (HT1.out.keep hb)) ?_)
        · simp only [execOp, resolve, List.map_toArray, List.map, eval_tmp, eval_func, eval_const, t11]; simp [go_sem]
        · rintro e W' ⟨rfl, hw⟩; exact ⟨_, rfl, _, rfl, hw, rfl⟩
      · intro a W hb0 hs hp hi; have hb := undrew hb0; clear hb0
        have t1 : sl a 1 = .pointer (some ⟨w.heap.size, 0, none⟩) := hi 1 (by decide)
        refine ite_y rfl (wp_val (.pointer (some ⟨w.heap.size, 1, none⟩)) ?_ ?_)
        · simp only [execOp, eval_tmp, eval_const, t1]; simp [go_sem]
        · exact ⟨_, rfl, Below.refl _ _, rfl⟩
      · intro a W hb0 hs hp hi; have hb := undrew hb0; clear hb0
        have tt : sl a 13 = .pointer (some ⟨w.heap.size, 1, none⟩) := hp 7 (by decide)
        have dd := (hb.cell (p := ⟨w.heap.size, 1, none⟩) (lt_of_cell c1)).trans c1
        refine ite_y rfl (wp_val (.int .i64 (S : Nat)) ?_ ?_)
        · simp only [execOp, eval_tmp, tt]; simp [go_sem, dd]
        · exact ⟨_, rfl, Below.refl _ _, rfl⟩
      · intro a W hb0 hs hp hi; have hb := undrew hb0; clear hb0
        have t14 : sl a 14 = .int .i64 (S : Nat) := hp 8 (by decide)
        refine ite_y rfl (wp_enter 21 #[.int .i64 (S : Nat)] ?_ (Itoa_any S hS W (HT1.out.keep hb)) ?_)
        · simp only [execOp, resolve, List.map_toArray, List.map, eval_tmp, eval_func, eval_const, t14]; simp [go_sem]
        · rintro e W' ⟨rfl, hw⟩; exact ⟨_, rfl, _, rfl, hw, rfl⟩
      · intro a W hb0 hs hp hi; have hb := undrew hb0; clear hb0
        have t1 : sl a 1 = .pointer (some ⟨w.heap.size, 0, none⟩) := hi 1 (by decide)
        refine ite_y rfl (wp_val (.pointer (some ⟨w.heap.size, 2, none⟩)) ?_ ?_)
        · simp only [execOp, eval_tmp, eval_const, t1]; simp [go_sem]
        · exact ⟨_, rfl, Below.refl _ _, rfl⟩
      · intro a W hb0 hs hp hi; have hb := undrew hb0; clear hb0
        have tt : sl a 16 = .pointer (some ⟨w.heap.size, 2, none⟩) := hp 10 (by decide)
        have dd := (hb.cell (p := ⟨w.heap.size, 2, none⟩) (lt_of_cell c2)).trans c2
        refine ite_y rfl (wp_val (.int .i64 (N : Nat)) ?_ ?_)
        · simp only [execOp, eval_tmp, tt]; simp [go_sem, dd]
        · exact ⟨_, rfl, Below.refl _ _, rfl⟩
      · intro a W hb0 hs hp hi; have hb := undrew hb0; clear hb0
        have t17 : sl a 17 = .int .i64 (N : Nat) := hp 11 (by decide)
        refine ite_y rfl (wp_enter 21 #[.int .i64 (N : Nat)] ?_ (Itoa_any N hN W (HT1.out.keep hb)) ?_)
        · simp only [execOp, resolve, List.map_toArray, List.map, eval_tmp, eval_func, eval_const, t17]; simp [go_sem]
        · rintro e W' ⟨rfl, hw⟩; exact ⟨_, rfl, _, rfl, hw, rfl⟩
      · intro a W hb0 hs hp hi; have hb := undrew hb0; clear hb0
        have x0 : sl a 9 = .string (strB (Lib.decDigits d)) := hp 3 (by decide)
        have x1 : sl a 12 = .string (strB (Lib.decDigits L)) := hp 6 (by decide)
        have x2 : sl a 15 = .string (strB (Lib.decDigits S)) := hp 9 (by decide)
        have x3 : sl a 18 = .string (strB (Lib.decDigits N)) := hp 12 (by decide)
        refine ite_y rfl (wp_val' (w' := W.alloc (.cells #[.string ⟨#[111, 98, 106, 101, 99, 116]⟩, .string (strB (Lib.decDigits d)), .string (strB (Lib.decDigits L)), .string (strB (Lib.decDigits S)), .string (strB (Lib.decDigits N))] 9)) (.slice (some ⟨W.heap.size, 0, none⟩) 5 5) ?_ ?_)
        · simp only [execOp, eval_tmp, eval_const, List.map_toArray, List.map, x0, x1, x2, x3]; simp [go_sem, x0, x1, x2, x3]
        · exact ⟨_, rfl, al (Below.refl _ _) (Nat.le_refl _), W.heap.size, rfl, hnew rfl⟩
      · intro a W hb0 hs hp hi; have hb := undrew hb0; clear hb0
        have ty : (ShpStr 9 (wordsS d L S N)).ok (sl a 19) W := hp 13 (by decide)
        obtain ⟨b, ty, hh⟩ := ty
        have ty : sl a 19 = .slice (some ⟨b, 0, none⟩) 5 5 := ty
        refine ite_y rfl (wp_enter 19 #[.slice (some ⟨b, 0, none⟩) 5 5, .string ⟨#[32]⟩] ?_ (Join_s b 9 (wordsS d L S N) [32] 5 W rfl hh (by decide) (Nat.le_trans (textW_len (d := d) (l := L) (s := S) (n := N) (by omega) (by omega) (by omega) (by omega)) (by decide))) ?_)
        · simp only [execOp, resolve, List.map_toArray, List.map, eval_tmp, eval_func, eval_const, ty]; simp [go_sem]
        · rintro e W' ⟨rfl, hw⟩; exact ⟨_, rfl, _, rfl, hw, rfl⟩
      · intro a W hb0 hs hp hi; have hb := undrew hb0; clear hb0
        have t20 : sl a 20 = .string (strB (textW d L S N)) := hp 14 (by decide)
        exact ite_y rfl (wp_val (sl a 20) rfl ⟨_, rfl, Below.refl _ _, t20⟩)
    intro a w2 hb hs hd hI ht
    have ha := act_is [6, 7, 8, 9, 10, 11, 12, 13, 14, 15, 16, 17, 18, 19, 20, 2] hs hd ht (by decide)
    have t2 : sl a 2 = .string (strB (textW d L S N)) := hI 15 (by decide)
    simp only [List.foldl, t2] at ha
    generalize sl a 6 = u6 at ha
    generalize sl a 7 = u7 at ha
    generalize sl a 8 = u8 at ha
    generalize sl a 9 = u9 at ha
    generalize sl a 10 = u10 at ha
    generalize sl a 11 = u11 at ha
    generalize sl a 12 = u12 at ha
    generalize sl a 13 = u13 at ha
    generalize sl a 14 = u14 at ha
    generalize sl a 15 = u15 at ha
    generalize sl a 16 = u16 at ha
    generalize sl a 17 = u17 at ha
    generalize sl a 18 = u18 at ha
    generalize sl a 19 = u19 at ha
    generalize sl a 20 = u20 at ha
    simp only [Act.put, List.setIfInBounds_toArray, List.set_cons_zero, List.set_cons_succ] at ha
    rw [ha]
    clear ha hI ht
    have HB2 : Hid (Below w.heap.size w w2) := bl HB.out hb HB.out.size
    clear hb
    go_wp2
    go_ret
    exact ⟨by rw [HR.out]; rfl, HB2.out⟩
  · have HR : Hid (textS l s n d = []) := if_neg (by simpa using h)
    generalize checkS l s n = k at *
    go_enter Tryd.func11, Tryd.ntmps11
    go_wp2_with fail
    refine Calls.mono (HC.out _) ?_
    rintro e w1 ⟨rfl, hb⟩
    have HB : Hid (Below w.heap.size w w1) := bl (al (Below.refl _ _) (Nat.le_refl _)) hb (by simp)
    clear hb
    go_wp2
    go_ret
    exact ⟨by rw [HR.out]; rfl, HB.out⟩
set_option maxRecDepth 100000 in
set_option maxHeartbeats 4000000 in
theorem RText_any (l s n : Int) (d : Nat) (hd : d < 4294967296) (w : World) (hl2 : l ≤ 9223372036854775807) (hT : Tab10 w) :
    Calls Tryd.prog 12 #[.agg #[.int .i64 l, .int .i64 s, .int .i64 n, .int .u32 (d : Int)]] w fun e w' => e = .returned (.string (strB (textS l s n d))) ∧ Below w.heap.size w w' := by
  have HC := Lib.hid (fun w => RCheck_any l s n d w hl2)
  have HX : Hid (∀ o, (w.alloc o).heap[w.heap.size]? = some o) := fun o => hnew rfl
  have HT := Lib.hid hT
  clear hT
  rcases checkS_cases l s n with h | h
  · obtain ⟨h0, h1, h2, -, h4, h5, h6, -, h7⟩ := checkS_zero h
    obtain ⟨L, rfl⟩ := Int.eq_ofNat_of_zero_le h0
    obtain ⟨S, rfl⟩ := Int.eq_ofNat_of_zero_le (show 0 ≤ s by omega)
    obtain ⟨N, rfl⟩ := Int.eq_ofNat_of_zero_le (show 0 ≤ n by omega)
    have hL : L ≤ 9223372036854775807 := by omega
    have hS : S ≤ 9223372036854775807 := by omega
    have hN : N ≤ 9223372036854775807 := by omega
    have hD : d ≤ 9223372036854775807 := by omega
    have HR : Hid (textS L S N d = textW d L S N) := if_pos h
    rw [h] at HC
    clear h h0 h1 h2 h4 h5 h6 h7
    go_enter Tryd.func12, Tryd.ntmps12
    go_wp2_with fail
    refine Calls.mono (HC.out _) ?_
    rintro e w1 ⟨rfl, hb⟩
    obtain ⟨c0, c1, c2, c3⟩ := cells4k (HX.out _) hb
    have HB : Hid (Below w.heap.size w w1) := bl (al (Below.refl _ _) (Nat.le_refl _)) hb (by simp)
    have HT1 := Lib.hid (HT.out.keep HB.out)
    clear hb
    go_wp2
    have zd := dd_len (u := d) (by omega)
    have zL := dd_len (u := L) (by omega)
    have zS := dd_len (u := S) (by omega)
    have zN := dd_len (u := N) (by omega)
    refine wp_region_shapes (fun ix => ([.val (.pointer (some ⟨w.heap.size, 3, none⟩)), .val (.int .u32 (d : Int)), .val (.int .i64 (d : Int)), .val (.string (strB (Lib.decDigits d))), .val (.string (⟨#[111, 98, 106, 101, 99, 116, 32]⟩ ++ (strB (Lib.decDigits d)))), .val (.string ((⟨#[111, 98, 106, 101, 99, 116, 32]⟩ ++ (strB (Lib.decDigits d))) ++ ⟨#[32]⟩)), .val (.pointer (some ⟨w.heap.size, 0, none⟩)), .val (.int .i64 (L : Nat)), .val (.string (strB (Lib.decDigits L))), .val (.string (((⟨#[111, 98, 106, 101, 99, 116, 32]⟩ ++ (strB (Lib.decDigits d))) ++ ⟨#[32]⟩) ++ (strB (Lib.decDigits L)))), .val (.string ((((⟨#[111, 98, 106, 101, 99, 116, 32]⟩ ++ (strB (Lib.decDigits d))) ++ ⟨#[32]⟩) ++ (strB (Lib.decDigits L))) ++ ⟨#[32]⟩)), .val (.pointer (some ⟨w.heap.size, 1, none⟩)), .val (.int .i64 (S : Nat)), .val (.string (strB (Lib.decDigits S))), .val (.string (((((⟨#[111, 98, 106, 101, 99, 116, 32]⟩ ++ (strB (Lib.decDigits d))) ++ ⟨#[32]⟩) ++ (strB (Lib.decDigits L))) ++ ⟨#[32]⟩) ++ (strB (Lib.decDigits S)))), .val (.string ((((((⟨#[111, 98, 106, 101, 99, 116, 32]⟩ ++ (strB (Lib.decDigits d))) ++ ⟨#[32]⟩) ++ (strB (Lib.decDigits L))) ++ ⟨#[32]⟩) ++ (strB (Lib.decDigits S))) ++ ⟨#[32]⟩)), .val (.pointer (some ⟨w.heap.size, 2, none⟩)), .val (.int .i64 (N : Nat)), .val (.string (strB (Lib.decDigits N))), .val (.string (((((((⟨#[111, 98, 106, 101, 99, 116, 32]⟩ ++ (strB (Lib.decDigits d))) ++ ⟨#[32]⟩) ++ (strB (Lib.decDigits L))) ++ ⟨#[32]⟩) ++ (strB (Lib.decDigits S))) ++ ⟨#[32]⟩) ++ (strB (Lib.decDigits N)))), .val (.string (((((((⟨#[111, 98, 106, 101, 99, 116, 32]⟩ ++ (strB (Lib.decDigits d))) ++ ⟨#[32]⟩) ++ (strB (Lib.decDigits L))) ++ ⟨#[32]⟩) ++ (strB (Lib.decDigits S))) ++ ⟨#[32]⟩) ++ (strB (Lib.decDigits N))))][ix]?).getD (.any)) 26 rfl (by kernel_rfl) (by decide) (by decide) (by decide) ?_ ?_
    · refine ⟨?_, ?_, ?_, ?_, ?_, ?_, ?_, ?_, ?_, ?_, ?_, ?_, ?_, ?_, ?_, ?_, ?_, ?_, ?_, ?_, ?_, trivial⟩
      · intro a W hb0 hs hp hi; have hb := undrew hb0; clear hb0
        have t1 : sl a 1 = .pointer (some ⟨w.heap.size, 0, none⟩) := hi 1 (by decide)
        refine ite_y rfl (wp_val (.pointer (some ⟨w.heap.size, 3, none⟩)) ?_ ?_)
        · simp only [execOp, eval_tmp, eval_const, t1]; simp [go_sem]
        · exact ⟨_, rfl, Below.refl _ _, rfl⟩
      · intro a W hb0 hs hp hi; have hb := undrew hb0; clear hb0
        have tt : sl a 6 = .pointer (some ⟨w.heap.size, 3, none⟩) := hp 0 (by decide)
        have dd := (hb.cell (p := ⟨w.heap.size, 3, none⟩) (lt_of_cell c3)).trans c3
        refine ite_y rfl (wp_val (.int .u32 (d : Int)) ?_ ?_)
        · simp only [execOp, eval_tmp, tt]; simp [go_sem, dd]
        · exact ⟨_, rfl, Below.refl _ _, rfl⟩
      · intro a W hb0 hs hp hi; have hb := undrew hb0; clear hb0
        have tt : sl a 7 = .int .u32 (d : Int) := hp 1 (by decide)
        refine ite_y rfl (wp_val (.int .i64 (d : Int)) ?_ ?_)
        · simp only [execOp, eval_tmp, tt]; simp [go_sem, Tryd.underlying22, Tryd.underlying3, show IntKind.i64.wrap (d : Int) = d by rw [IntKind.wrap_i64]; omega]
        · exact ⟨_, rfl, Below.refl _ _, rfl⟩
      · intro a W hb0 hs hp hi; have hb := undrew hb0; clear hb0
        have t8 : sl a 8 = .int .i64 (d : Int) := hp 2 (by decide)
        refine ite_y rfl (wp_enter 21 #[.int .i64 (d : Nat)] ?_ (Itoa_any d hD W (HT1.out.keep hb)) ?_)
        · simp only [execOp, resolve, List.map_toArray, List.map, eval_tmp, eval_func, eval_const, t8]; simp [go_sem]
        · rintro e W' ⟨rfl, hw⟩; exact ⟨_, rfl, _, rfl, hw, rfl⟩
      · intro a W hb0 hs hp hi; have hb := undrew hb0; clear hb0
        have ti0 : sl a 9 = .string (strB (Lib.decDigits d)) := hp 3 (by decide)
        refine ite_y rfl (wp_val (.string (⟨#[111, 98, 106, 101, 99, 116, 32]⟩ ++ (strB (Lib.decDigits d)))) ?_ ?_)
        · simp only [execOp, eval_tmp, eval_const, ti0]; simp [go_sem, strB_size] <;> omega
        · exact ⟨_, rfl, Below.refl _ _, rfl⟩
      · intro a W hb0 hs hp hi; have hb := undrew hb0; clear hb0
        have ti0 : sl a 10 = .string (⟨#[111, 98, 106, 101, 99, 116, 32]⟩ ++ (strB (Lib.decDigits d))) := hp 4 (by decide)
        refine ite_y rfl (wp_val (.string ((⟨#[111, 98, 106, 101, 99, 116, 32]⟩ ++ (strB (Lib.decDigits d))) ++ ⟨#[32]⟩)) ?_ ?_)
        · simp only [execOp, eval_tmp, eval_const, ti0]; simp [go_sem, strB_size] <;> omega
        · exact ⟨_, rfl, Below.refl _ _, rfl⟩
      · intro a W hb0 hs hp hi; have hb := undrew hb0; clear hb0
        have t1 : sl a 1 = .pointer (some ⟨w.heap.size, 0, none⟩) := hi 1 (by decide)
        refine ite_y rfl (wp_val (.pointer (some ⟨w.heap.size, 0, none⟩)) ?_ ?_)
        · simp only [execOp, eval_tmp, eval_const, t1]; simp [go_sem]
        · exact ⟨_, rfl, Below.refl _ _, rfl⟩
      · intro a W hb0 hs hp hi; have hb := undrew hb0; clear hb0
        have tt : sl a 12 = .pointer (some ⟨w.heap.size, 0, none⟩) := hp 6 (by decide)
        have dd := (hb.cell (p := ⟨w.heap.size, 0, none⟩) (lt_of_cell c0)).trans c0
        refine ite_y rfl (wp_val (.int .i64 (L : Nat)) ?_ ?_)
        · simp only [execOp, eval_tmp, tt]; simp [go_sem, dd]
        · exact ⟨_, rfl, Below.refl _ _, rfl⟩
      · intro a W hb0 hs hp hi; have hb := undrew hb0; clear hb0
        have t13 : sl a 13 = .int .i64 (L : Nat) := hp 7 (by decide)
        refine ite_y rfl (wp_enter 21 #[.int .i64 (L : Nat)] ?_ (Itoa_any L hL W (HT1.out.keep hb)) ?_)
        · simp only [execOp, resolve, List.map_toArray, List.map, eval_tmp, eval_func, eval_const, t13]; simp [go_sem]
        · rintro e W' ⟨rfl, hw⟩; exact ⟨_, rfl, _, rfl, hw, rfl⟩
      · intro a W hb0 hs hp hi; have hb := undrew hb0; clear hb0
        have ti0 : sl a 11 = .string ((⟨#[111, 98, 106, 101, 99, 116, 32]⟩ ++ (strB (Lib.decDigits d))) ++ ⟨#[32]⟩) := hp 5 (by decide)
        have ti1 : sl a 14 = .string (strB (Lib.decDigits L)) := hp 8 (by decide)
        refine ite_y rfl (wp_val (.string (((⟨#[111, 98, 106, 101, 99, 116, 32]⟩ ++ (strB (Lib.decDigits d))) ++ ⟨#[32]⟩) ++ (strB (Lib.decDigits L)))) ?_ ?_)
        · simp only [execOp, eval_tmp, eval_const, ti0, ti1]; simp [go_sem, strB_size] <;> omega
        · exact ⟨_, rfl, Below.refl _ _, rfl⟩
      · intro a W hb0 hs hp hi; have hb := undrew hb0; clear hb0
        have ti0 : sl a 15 = .string (((⟨#[111, 98, 106, 101, 99, 116, 32]⟩ ++ (strB (Lib.decDigits d))) ++ ⟨#[32]⟩) ++ (strB (Lib.decDigits L))) := hp 9 (by decide)
        refine ite_y rfl (wp_val (.string ((((⟨#[111, 98, 106, 101, 99, 116, 32]⟩ ++ (strB (Lib.decDigits d))) ++ ⟨#[32]⟩) ++ (strB (Lib.decDigits L))) ++ ⟨#[32]⟩)) ?_ ?_)
        · simp only [execOp, eval_tmp, eval_const, ti0]; simp [go_sem, strB_size] <;> omega
        · exact ⟨_, rfl, Below.refl _ _, rfl⟩
      · intro a W hb0 hs hp hi; have hb := undrew hb0; clear hb0
        have t1 : sl a 1 = .pointer (some ⟨w.heap.size, 0, none⟩) := hi 1 (by decide)
        refine ite_y rfl (wp_val (.pointer (some ⟨w.heap.size, 1, none⟩)) ?_ ?_)
        · simp only [execOp, eval_tmp, eval_const, t1]; simp [go_sem]
        · exact ⟨_, rfl, Below.refl _ _, rfl⟩
      · intro a W hb0 hs hp hi; have hb := undrew hb0; clear hb0
        have tt : sl a 17 = .pointer (some ⟨w.heap.size, 1, none⟩) := hp 11 (by decide)
        have dd := (hb.cell (p := ⟨w.heap.size, 1, none⟩) (lt_of_cell c1)).trans c1
        refine ite_y rfl (wp_val (.int .i64 (S : Nat)) ?_ ?_)
        · simp only [execOp, eval_tmp, tt]; simp [go_sem, dd]
        · exact ⟨_, rfl, Below.refl _ _, rfl⟩
      · intro a W hb0 hs hp hi; have hb := undrew hb0; clear hb0
        have t18 : sl a 18 = .int .i64 (S : Nat) := hp 12 (by decide)
        refine ite_y rfl (wp_enter 21 #[.int .i64 (S : Nat)] ?_ (Itoa_any S hS W (HT1.out.keep hb)) ?_)
        · simp only [execOp, resolve, List.map_toArray, List.map, eval_tmp, eval_func, eval_const, t18]; simp [go_sem]
        · rintro e W' ⟨rfl, hw⟩; exact ⟨_, rfl, _, rfl, hw, rfl⟩
      · intro a W hb0 hs hp hi; have hb := undrew hb0; clear hb0
        have ti0 : sl a 16 = .string ((((⟨#[111, 98, 106, 101, 99, 116, 32]⟩ ++ (strB (Lib.decDigits d))) ++ ⟨#[32]⟩) ++ (strB (Lib.decDigits L))) ++ ⟨#[32]⟩) := hp 10 (by decide)
        have ti1 : sl a 19 = .string (strB (Lib.decDigits S)) := hp 13 (by decide)
        refine ite_y rfl (wp_val (.string (((((⟨#[111, 98, 106, 101, 99, 116, 32]⟩ ++ (strB (Lib.decDigits d))) ++ ⟨#[32]⟩) ++ (strB (Lib.decDigits L))) ++ ⟨#[32]⟩) ++ (strB (Lib.decDigits S)))) ?_ ?_)
        · simp only [execOp, eval_tmp, eval_const, ti0, ti1]; simp [go_sem, strB_size] <;> omega
        · exact ⟨_, rfl, Below.refl _ _, rfl⟩
      · intro a W hb0 hs hp hi; have hb := undrew hb0; clear hb0
        have ti0 : sl a 20 = .string (((((⟨#[111, 98, 106, 101, 99, 116, 32]⟩ ++ (strB (Lib.decDigits d))) ++ ⟨#[32]⟩) ++ (strB (Lib.decDigits L))) ++ ⟨#[32]⟩) ++ (strB (Lib.decDigits S))) := hp 14 (by decide)
        refine ite_y rfl (wp_val (.string ((((((⟨#[111, 98, 106, 101, 99, 116, 32]⟩ ++ (strB (Lib.decDigits d))) ++ ⟨#[32]⟩) ++ (strB (Lib.decDigits L))) ++ ⟨#[32]⟩) ++ (strB (Lib.decDigits S))) ++ ⟨#[32]⟩)) ?_ ?_)
        · simp only [execOp, eval_tmp, eval_const, ti0]; simp [go_sem, strB_size] <;> omega
        · exact ⟨_, rfl, Below.refl _ _, rfl⟩
      · intro a W hb0 hs hp hi; have hb := undrew hb0; clear hb0
        have t1 : sl a 1 = .pointer (some ⟨w.heap.size, 0, none⟩) := hi 1 (by decide)
        refine ite_y rfl (wp_val (.pointer (some ⟨w.heap.size, 2, none⟩)) ?_ ?_)
        · simp only [execOp, eval_tmp, eval_const, t1]; simp [go_sem]
        · exact ⟨_, rfl, Below.refl _ _, rfl⟩
      · intro a W hb0 hs hp hi; have hb := undrew hb0; clear hb0
        have tt : sl a 22 = .pointer (some ⟨w.heap.size, 2, none⟩) := hp 16 (by decide)
        have dd := (hb.cell (p := ⟨w.heap.size, 2, none⟩) (lt_of_cell c2)).trans c2
        refine ite_y rfl (wp_val (.int .i64 (N : Nat)) ?_ ?_)
        · simp only [execOp, eval_tmp, tt]; simp [go_sem, dd]
        · exact ⟨_, rfl, Below.refl _ _, rfl⟩
      · intro a W hb0 hs hp hi; have hb := undrew hb0; clear hb0
        have t23 : sl a 23 = .int .i64 (N : Nat) := hp 17 (by decide)
        refine ite_y rfl (wp_enter 21 #[.int .i64 (N : Nat)] ?_ (Itoa_any N hN W (HT1.out.keep hb)) ?_)
        · simp only [execOp, resolve, List.map_toArray, List.map, eval_tmp, eval_func, eval_const, t23]; simp [go_sem]
        · rintro e W' ⟨rfl, hw⟩; exact ⟨_, rfl, _, rfl, hw, rfl⟩
      · intro a W hb0 hs hp hi; have hb := undrew hb0; clear hb0
        have ti0 : sl a 21 = .string ((((((⟨#[111, 98, 106, 101, 99, 116, 32]⟩ ++ (strB (Lib.decDigits d))) ++ ⟨#[32]⟩) ++ (strB (Lib.decDigits L))) ++ ⟨#[32]⟩) ++ (strB (Lib.decDigits S))) ++ ⟨#[32]⟩) := hp 15 (by decide)
        have ti1 : sl a 24 = .string (strB (Lib.decDigits N)) := hp 18 (by decide)
        refine ite_y rfl (wp_val (.string (((((((⟨#[111, 98, 106, 101, 99, 116, 32]⟩ ++ (strB (Lib.decDigits d))) ++ ⟨#[32]⟩) ++ (strB (Lib.decDigits L))) ++ ⟨#[32]⟩) ++ (strB (Lib.decDigits S))) ++ ⟨#[32]⟩) ++ (strB (Lib.decDigits N)))) ?_ ?_)
        · simp only [execOp, eval_tmp, eval_const, ti0, ti1]; simp [go_sem, strB_size] <;> omega
        · exact ⟨_, rfl, Below.refl _ _, rfl⟩
      · intro a W hb0 hs hp hi; have hb := undrew hb0; clear hb0
        have t25 : sl a 25 = .string (((((((⟨#[111, 98, 106, 101, 99, 116, 32]⟩ ++ (strB (Lib.decDigits d))) ++ ⟨#[32]⟩) ++ (strB (Lib.decDigits L))) ++ ⟨#[32]⟩) ++ (strB (Lib.decDigits S))) ++ ⟨#[32]⟩) ++ (strB (Lib.decDigits N))) := hp 19 (by decide)
        exact ite_y rfl (wp_val (sl a 25) rfl ⟨_, rfl, Below.refl _ _, t25⟩)
    intro a w2 hb hs hd hI ht
    have ha := act_is [6, 7, 8, 9, 10, 11, 12, 13, 14, 15, 16, 17, 18, 19, 20, 21, 22, 23, 24, 25, 2] hs hd ht (by decide)
    have t2 : sl a 2 = .string (((((((⟨#[111, 98, 106, 101, 99, 116, 32]⟩ ++ (strB (Lib.decDigits d))) ++ ⟨#[32]⟩) ++ (strB (Lib.decDigits L))) ++ ⟨#[32]⟩) ++ (strB (Lib.decDigits S))) ++ ⟨#[32]⟩) ++ (strB (Lib.decDigits N))) := hI 20 (by decide)
    simp only [List.foldl, t2] at ha
    generalize sl a 6 = u6 at ha
    generalize sl a 7 = u7 at ha
    generalize sl a 8 = u8 at ha
    generalize sl a 9 = u9 at ha
    generalize sl a 10 = u10 at ha
    generalize sl a 11 = u11 at ha
    generalize sl a 12 = u12 at ha
    generalize sl a 13 = u13 at ha
    generalize sl a 14 = u14 at ha
    generalize sl a 15 = u15 at ha
    generalize sl a 16 = u16 at ha
    generalize sl a 17 = u17 at ha
    generalize sl a 18 = u18 at ha
    generalize sl a 19 = u19 at ha
    generalize sl a 20 = u20 at ha
    generalize sl a 21 = u21 at ha
    generalize sl a 22 = u22 at ha
    generalize sl a 23 = u23 at ha
    generalize sl a 24 = u24 at ha
    generalize sl a 25 = u25 at ha
    simp only [Act.put, List.setIfInBounds_toArray, List.set_cons_zero, List.set_cons_succ] at ha
    rw [ha]
    clear ha hI ht
    clear zd zL zS zN
    have HB2 : Hid (Below w.heap.size w w2) := bl HB.out hb HB.out.size
    clear hb
    go_wp2
    go_ret
    refine ⟨?_, HB2.out⟩
    rw [HR.out, textW_eq]
    have e1 : (⟨#[111, 98, 106, 101, 99, 116, 32]⟩ : ByteArray) = strB [111, 98, 106, 101, 99, 116, 32] := rfl
    have e2 : (⟨#[32]⟩ : ByteArray) = strB [32] := rfl
    simp only [e1, e2, txt_app]
    simp
  · have HR : Hid (textS l s n d = []) := if_neg (by simpa using h)
    generalize checkS l s n = k at *
    go_enter Tryd.func12, Tryd.ntmps12
    go_wp2_with fail
    refine Calls.mono (HC.out _) ?_
    rintro e w1 ⟨rfl, hb⟩
    have HB : Hid (Below w.heap.size w w1) := bl (al (Below.refl _ _) (Nat.le_refl _)) hb (by simp)
    clear hb
    go_wp2
    go_ret
    exact ⟨by rw [HR.out]; rfl, HB.out⟩
end Go.Proofs.YtnlfohbmdmeodaaDoor
