/- Chapter 22: enough vectors. Chapter 22: plain law of TripArrives: the taker's rows are the rank of the vectors that came whole. Chapter 22: TripRuns, of a plan and an object that fit. Chapter 22: TripArrives, of an object that a plan fits, calmly. Chapter 22: TripRuns, of whatever comes. Chapter 22: TripArrives, of whatever comes. Arguments that came in: slices of byte slices. The table of the sum, out of the row's condition. -/
import Derived.Test.YtfbmdlfkipipfaaGreatDoorZv9
import Derived.OpenShut
import Derived.Deep.Matrix
import Derived.Test.YtfbmdlfkipipfaaGreatDoorRows
import Derived.Lib.LaidTab
namespace Go.By
open Go.RowKit Go.Proofs.YtfbmdlfkipipfaaGreatDoor
def VecT (V : List (List UInt8)) (v : Value) (w : World) : Prop := ∃ q c, v = .slice q V.length c ∧ Sl2 w q V.length c V
def ShVec (V : List (List UInt8)) : Shp := ⟨VecT V, fun _ _ _ ⟨q, c, e, h⟩ hb => ⟨q, c, e, h.keep hb⟩⟩
def GrT (h wd : Nat) (cells : List UInt8) (v : Value) (w : World) : Prop := ∃ q n c, n = h * wd ∧ v = .agg #[.int .i64 h, .int .i64 wd, .slice q n c] ∧ Sl B8 w q n c cells
def ShGr (h wd : Nat) (cells : List UInt8) : Shp := ⟨GrT h wd cells, fun _ _ _ ⟨q, n, c, e0, e, s⟩ hb => ⟨q, n, c, e0, e, s.keep hb⟩⟩
def GrTT (h wd : Nat) (cells : List UInt8) (v : Value) (w : World) : Prop := ∃ q n c, n = h * wd ∧ v = .tuple #[.agg #[.int .i64 h, .int .i64 wd, .slice q n c], .int .i64 0] ∧ Sl B8 w q n c cells
def ShGrT (h wd : Nat) (cells : List UInt8) : Shp := ⟨GrTT h wd cells, fun _ _ _ ⟨q, n, c, e0, e, s⟩ hb => ⟨q, n, c, e0, e, s.keep hb⟩⟩
end Go.By
namespace Go.Proofs.YtfbmdlfkipipfaaGreatDoor
open Go.RowKit Go.By Gf Go.Maps
theorem vecs_blks {k t : Nat} (l : List SrcD) : (blksS k t l).length = (vecsS k l).length := by
  unfold blksS vecsS
  have : ∀ (l : List SrcD) (a b : List (List UInt8)), a.length = b.length → (l.foldl (blkF k t) a).length = (l.foldl (vecF k) b).length := by
    intro l
    induction l with
    | nil => intro a b h; exact h
    | cons x l ih =>
      intro a b h
      simp only [List.foldl_cons]
      apply ih
      unfold blkF vecF
      by_cases hc : srcC x.m x.xs.length k = 0
      · rw [if_pos hc, if_pos hc]; simp [h]
      · rw [if_neg hc, if_neg hc]; exact h
  exact this l [] [] rfl
theorem froms_lt {k t : Nat} {srcs : List SrcD} {acs : List ActD} {x : Int} (h : x ∈ fromsS k t srcs acs) : x < (vecsS k srcs).length := by
  unfold fromsS at h
  obtain ⟨p, hp, rfl⟩ := List.mem_map.1 h
  rw [← vecs_blks (t := t)]
  rcases Good.play (acs := acs) (Good.init (blksS k t srcs)) p hp with ⟨e, _⟩ | ⟨m, e, hm⟩
  · show p.2 < _; omega
  · show p.2 < _
    have := (List.getElem?_eq_some_iff.1 hm).1
    omega
theorem pick_rows {k t : Nat} {srcs : List SrcD} {acs : List ActD} {fr : List Int} (hf : ∀ x, x ∈ fr → x ∈ fromsS k t srcs acs) : ∀ x, x ∈ pickS (vecsS k srcs) fr → x.length = k := fun x hx => by
  unfold pickS at hx
  obtain ⟨i, hi, rfl⟩ := List.mem_map.1 hx
  obtain ⟨h1, h2⟩ := List.mem_filter.1 hi
  have h3 := froms_lt (hf i h1)
  have h4 : 0 ≤ i := of_decide_eq_true h2
  have h5 : i.toNat < (vecsS k srcs).length := by omega
  refine vecs_len srcs _ ?_
  rw [List.getD_eq_getElem?_getD, List.getElem?_eq_getElem h5]
  exact List.getElem_mem h5
theorem blks_le {k t : Nat} (l : List SrcD) : (blksS k t l).length ≤ l.length := by
  unfold blksS
  have : ∀ (l : List SrcD) (a : List (List UInt8)), (l.foldl (blkF k t) a).length ≤ a.length + l.length := by
    intro l
    induction l with
    | nil => intro a; exact Nat.le_refl _
    | cons x l ih =>
      intro a
      simp only [List.foldl_cons, List.length_cons]
      refine Nat.le_trans (ih _) ?_
      unfold blkF
      by_cases hc : srcC x.m x.xs.length k = 0
      · rw [if_pos hc]; simp; omega
      · rw [if_neg hc]; omega
  simpa using this l []
theorem froms_le {k t : Nat} (srcs : List SrcD) (acs : List ActD) : (fromsS k t srcs acs).length ≤ srcs.length + acs.length := by
  unfold fromsS
  rw [List.length_map]
  have h1 := playS_len (initS (blksS k t srcs)) acs
  rw [initS_len] at h1
  have h2 := blks_le (k := k) (t := t) srcs
  omega
theorem noByte3 {x0 x2 : Int} {q1 : Option Addr} {n1 c1 : Nat} : ∀ (j : Nat) (x : UInt8), #[Value.int .i64 x0, .int .i64 x2, .slice q1 n1 c1][j]? ≠ some (B8 x) := by
  intro j x h
  match j with
  | 0 => simp at h
  | 1 => simp at h
  | 2 => simp at h
  | j + 3 => simp at h
set_option maxRecDepth 100000 in
set_option maxHeartbeats 8000000 in
theorem Enough_ok (L t k D : Nat) (p1 : Option Addr) (n1 c1 : Nat) (srcs : List SrcD) (p2 : Option Addr) (n2 c2 : Nat) (acs : List ActD) (w : World) (hP : POK L t k D) (h1 : SlS w p1 n1 c1 srcs) (h2 : SlA w p2 n2 c2 acs)
    (hn1 : n1 ≤ 1000) (hn2 : n2 ≤ 1000) (ht : t ≤ 1000) (hk32 : k ≤ 32) (hsr : ∀ a, a ∈ srcs → a.xs.length ≤ 1000000) (har : ∀ a, a ∈ acs → Room a.bs.length) :
    Calls Tryz.prog 43 #[PVal L t k D, .slice p1 n1 c1, .slice p2 n2 c2] w fun e w' => e = .returned (.bool (decide ((iK (pickS (vecsS k srcs) (fromsS k t srcs acs))).length = k))) ∧ Below w.heap.size w w' := by
  have HK : Hid (∀ w, Calls Tryz.prog 73 #[PVal L t k D] w fun e w' => e = .returned (.int .i64 0) ∧ Below w.heap.size w w') := PCheck_ok hP
  have H1 := Lib.hid h1
  have H2 := Lib.hid h2
  have hl1 := h1.len
  have hl2 := h2.len
  have hfl := froms_le (k := k) (t := t) srcs acs
  have hpl := pick_len (vecsS k srcs) (fromsS k t srcs acs)
  have hrw := pick_rows (k := k) (t := t) (srcs := srcs) (acs := acs) (fr := fromsS k t srcs acs) (fun x h => h)
  have HVv : Hid (∀ W, Below w.heap.size w W → Calls Tryz.prog 42 #[PVal L t k D, .slice p1 n1 c1, .slice p2 n2 c2] W (VecRet W (pickS (vecsS k srcs) (fromsS k t srcs acs)))) := fun W hb => Vectors_ok L t k D p1 n1 c1 srcs p2 n2 c2 acs W hP (H1.out.keep hb) (H2.out.keep hb) hn1 hn2 ht hsr har
  obtain ⟨V, hV⟩ : ∃ V, V = pickS (vecsS k srcs) (fromsS k t srcs acs) := ⟨_, rfl⟩
  rw [← hV] at HVv hpl hrw ⊢
  obtain ⟨h, hh⟩ : ∃ h, h = V.length := ⟨_, rfl⟩
  have hV2 : h ≤ 2000 := by omega
  have hVw : h * k ≤ 65536 := Nat.le_trans (Nat.mul_le_mul hV2 hk32) (by decide)
  have HOf : Hid (∀ W q c, Sl2 W q V.length c V → Calls Tryz.prog 33 #[.int .i64 (k : Nat), .slice q V.length c] W (RetG2 5 W V.length k V.flatten 0)) := fun W q c hs => GOf_good k q V.length c V W hs (by omega) (by omega) (by rw [← hh]; exact hVw) (List.all_eq_true.2 fun x hx => decide_eq_true (hrw x hx))
  have HRk : Hid (∀ W q n c, n = V.length * k → Sl B8 W q n c V.flatten → Calls Tryz.prog 34 #[.agg #[.int .i64 V.length, .int .i64 k, .slice q n c]] W fun e w' => e = .returned (.int .i64 (iK V).length) ∧ Below W.heap.size W w') := fun W q n c hn hs => GRank_rows hrw rfl (by omega) (by omega) q n c W hn hs
  obtain ⟨ee, hee⟩ : ∃ ee, ee = decide ((iK V).length = k) := ⟨_, rfl⟩
  rw [← hee]
  have hee1 : (((iK V).length : Int) == (k : Int)) = ee := by
    rw [hee]
    by_cases e : (iK V).length = k
    · rw [decide_eq_true e, e]; exact beq_iff_eq.2 rfl
    · rw [decide_eq_false e]; exact beq_eq_false_iff_ne.2 (by omega)
  have HEE := Lib.hid hee1
  clear hP h1 h2 hsr har hl1 hl2 hfl hpl hrw hV hh hV2 hVw hee hee1
  go_enter Tryz.func43, Tryz.ntmps43
  go_wp2_with fail
  have ba : Below w.heap.size w (w.alloc (.cells #[.int .i64 (L : Nat), .int .i64 (t : Nat), .int .i64 (k : Nat), .int .u32 (D : Nat)] 27 (0, 0))) := al (Below.refl _ _) (Nat.le_refl _)
  have hk : (w.alloc (.cells #[.int .i64 (L : Nat), .int .i64 (t : Nat), .int .i64 (k : Nat), .int .u32 (D : Nat)] 27 (0, 0))).heap[w.heap.size]? = some (.cells #[.int .i64 (L : Nat), .int .i64 (t : Nat), .int .i64 (k : Nat), .int .u32 (D : Nat)] 27 (0, 0)) := hnew rfl
  refine Calls.mono (HK.out _) ?_
  rintro e w2 ⟨rfl, hb⟩
  have HB2 := Lib.hid (bl ba hb ba.size)
  have kp := (hb.block _ (lt_of_block hk)).trans hk
  obtain ⟨g1, hg1⟩ : ∃ g1, g1 = w.heap.size := ⟨_, rfl⟩
  rw [← hg1] at kp ⊢
  obtain ⟨z0, z1, z2, z3⟩ := cells_four kp
  clear hb ba hk hg1
  go_wp2
  refine wp_region_slip (fun ix => ([.val (.pointer (some ⟨g1, 2, none⟩)), .val (.int .i64 (k : Nat)), .val (.agg #[.int .i64 (L : Nat), .int .i64 (t : Nat), .int .i64 (k : Nat), .int .u32 (D : Nat)]), .val (.slice p1 n1 c1), .val (.slice p2 n2 c2), (ShVec V), (ShGrT V.length k V.flatten), (ShGrT V.length k V.flatten), (ShGr V.length k V.flatten), (.val (.int .i64 0)), (ShNew 75 w2.heap.size #[.int .i64 0, .int .i64 0, .slice none 0 0]), .any, .any][ix]?).getD (.any)) 31 11 9 12 21 (.int .i64 0) rfl (by kernel_rfl) (by decide +kernel) (by decide +kernel) (by decide +kernel) _ rfl rfl rfl (by decide) rfl (fun a x w h => run_extract_two _ rfl h) (by decide) ?_ ?_
  · refine ⟨?_, ?_, ?_, ?_, ?_, ?_, ?_, ?_, ?_, ?_, ?_, trivial⟩
    · intro a W hb0 hs hp hi; have hb := undrew hb0; clear hb0
      have t3 : sl a 3 = .pointer (some ⟨g1, 0, none⟩) := hi 3 (by decide)
      refine ite_y rfl (wp_val (.pointer (some ⟨g1, 2, none⟩)) ?_ ?_)
      · simp only [execOp, eval_tmp, eval_const, t3]; simp [go_sem]
      · exact ⟨_, rfl, Below.refl _ _, rfl⟩
    · intro a W hb0 hs hp hi; have hb := undrew hb0; clear hb0
      have tt : sl a 13 = .pointer (some ⟨g1, 2, none⟩) := hp 0 (by decide)
      have dd := (hb.cell (p := ⟨g1, 2, none⟩) (lt_of_cell z2)).trans z2
      refine ite_y rfl (wp_val (.int .i64 (k : Nat)) ?_ ?_)
      · simp only [execOp, eval_tmp, tt]; simp [go_sem, dd]
      · exact ⟨_, rfl, Below.refl _ _, rfl⟩
    · intro a W hb0 hs hp hi; have hb := undrew hb0; clear hb0
      have tt : sl a 3 = .pointer (some ⟨g1, 0, none⟩) := hi 3 (by decide)
      have dd0 := (hb.cell (p := ⟨g1, 0, none⟩) (lt_of_cell z0)).trans z0
      have dd1 := (hb.cell (p := ⟨g1, 1, none⟩) (lt_of_cell z1)).trans z1
      have dd2 := (hb.cell (p := ⟨g1, 2, none⟩) (lt_of_cell z2)).trans z2
      have dd3 := (hb.cell (p := ⟨g1, 3, none⟩) (lt_of_cell z3)).trans z3
      refine ite_y rfl (wp_val (.agg #[.int .i64 (L : Nat), .int .i64 (t : Nat), .int .i64 (k : Nat), .int .u32 (D : Nat)]) ?_ ?_)
      · simp only [execOp, eval_tmp, tt]; simp [go_sem, dd0, dd1, dd2, dd3]
      · exact ⟨_, rfl, Below.refl _ _, rfl⟩
    · intro a W hb0 hs hp hi; have hb := undrew hb0; clear hb0
      have t1 : sl a 1 = .slice p1 n1 c1 := hi 1 (by decide)
      exact ite_y rfl (wp_val (sl a 1) rfl ⟨_, rfl, Below.refl _ _, t1⟩)
    · intro a W hb0 hs hp hi; have hb := undrew hb0; clear hb0
      have t2 : sl a 2 = .slice p2 n2 c2 := hi 2 (by decide)
      exact ite_y rfl (wp_val (sl a 2) rfl ⟨_, rfl, Below.refl _ _, t2⟩)
    · intro a W hb0 hs hp hi; have hb := undrew hb0; clear hb0
      have t15 : sl a 15 = .agg #[.int .i64 (L : Nat), .int .i64 (t : Nat), .int .i64 (k : Nat), .int .u32 (D : Nat)] := hp 2 (by decide)
      have t16 : sl a 16 = .slice p1 n1 c1 := hp 3 (by decide)
      have t17 : sl a 17 = .slice p2 n2 c2 := hp 4 (by decide)
      refine ite_y rfl (wp_enter 42 #[.agg #[.int .i64 (L : Nat), .int .i64 (t : Nat), .int .i64 (k : Nat), .int .u32 (D : Nat)], .slice p1 n1 c1, .slice p2 n2 c2] ?_ (HVv.out _ (bl HB2.out hb HB2.out.size)) ?_)
      · simp only [execOp, resolve, List.map_toArray, List.map, eval_tmp, eval_func, eval_const, t15, t16, t17]; simp [go_sem]
      · rintro e W' ⟨q5, c5, rfl, hf, hw⟩; exact ⟨_, rfl, _, rfl, hw, q5, c5, rfl, hf.sl2⟩
    · intro a W hb0 hs hp hi; have hb := undrew hb0; clear hb0
      have t14 : sl a 14 = .int .i64 (k : Nat) := hp 1 (by decide)
      have t18 : VecT V (sl a 18) W := hp 5 (by decide)
      obtain ⟨ya, yc, t18, zz⟩ := t18
      refine ite_y rfl (wp_enter 33 #[.int .i64 (k : Nat), .slice ya V.length yc] ?_ (HOf.out W ya yc zz) ?_)
      · simp only [execOp, resolve, List.map_toArray, List.map, eval_tmp, eval_func, eval_const, t14, t18]; simp [go_sem]
      · rintro e W' ⟨q5, n5, c5, e5, rfl, ho, hw⟩; exact ⟨_, rfl, _, rfl, hw, q5, n5, c5, e5, rfl, Sl.of_owns ho⟩
    · intro a W hb0 hs hp hi; have hb := undrew hb0; clear hb0
      exact ite_y rfl (wp_val (sl a 19) rfl ⟨_, rfl, Below.refl _ _, hp 6 (by decide)⟩)
    · intro a W hb0 hs hp hi; have hb := undrew hb0; clear hb0
      have tt : GrTT V.length k V.flatten (sl a 12) W := hp 7 (by decide)
      obtain ⟨q5, n5, c5, e5, tt, s5⟩ := tt
      refine ite_y rfl (wp_val (.agg #[.int .i64 V.length, .int .i64 k, .slice q5 n5 c5]) ?_ ?_)
      · simp only [execOp, eval_tmp, tt]; rfl
      · exact ⟨_, rfl, Below.refl _ _, q5, n5, c5, e5, rfl, s5⟩
    · intro a W hb0 hs hp hi; have hb := undrew hb0; clear hb0
      have tt : GrTT V.length k V.flatten (sl a 12) W := hp 7 (by decide)
      obtain ⟨q5, n5, c5, e5, tt, s5⟩ := tt
      refine ite_y rfl (wp_val (.int .i64 0) ?_ ?_)
      · simp only [execOp, eval_tmp, tt]; rfl
      · exact ⟨_, rfl, Below.refl _ _, rfl⟩
    · intro a W hb0 hs hp hi; have hb := undrew hb0; clear hb0
      refine ite_y rfl (wp_val' (w' := W.alloc (.cells #[.int .i64 0, .int .i64 0, .slice none 0 0] 75)) (.pointer (some ⟨W.heap.size, 0, none⟩)) ?_ ?_)
      · simp only [execOp]; simp [go_sem]
      · exact ⟨_, rfl, al (Below.refl _ _) (Nat.le_refl _), _, rfl, hb.size, hnew rfl⟩
  intro a w3 o ho hb hs hd hI ht
  simp at ho; subst ho
  have y3 := hI 10 (by decide) (by decide)
  obtain ⟨g3, t7, hg3, hh3⟩ := y3
  have y18 := hI 8 (by decide) (by decide)
  obtain ⟨q8, n8, c8, e18, t18, s18⟩ := y18
  have y9 := hI 7 (by decide) (by decide)
  obtain ⟨_, _, _, _, t9, _⟩ := y9
  refine ⟨⟨_, t9⟩, ?_⟩
  refine wp_store_row 75 (.tmp 7) (.tmp 20) rfl g3 #[.int .i64 V.length, .int .i64 k, .slice q8 n8 c8] (by rw [eval_tmp]; exact t7) (by rw [eval_tmp]; exact t18) _ _ hh3 info_grid rfl (by simp [Value.oneCell']) ?_
  refine ⟨rfl, fun ab hbs hbd hbt hbu => ?_⟩
  have ha := act_is [13, 14, 15, 16, 17, 18, 19, 12, 20, 21, 7, 8] hbs hbd (fun t h => (hbt t (fun e => by subst e; revert h; decide)).trans (ht t h)) (by decide)
  have s7 := (hbt 7 (by decide)).trans t7
  simp only [List.foldl, hbu, s7] at ha
  generalize sl ab 13 = u13 at ha
  generalize sl ab 14 = u14 at ha
  generalize sl ab 15 = u15 at ha
  generalize sl ab 16 = u16 at ha
  generalize sl ab 17 = u17 at ha
  generalize sl ab 18 = u18 at ha
  generalize sl ab 19 = u19 at ha
  generalize sl ab 12 = u12 at ha
  generalize sl ab 20 = u20 at ha
  generalize sl ab 8 = u8 at ha
  simp only [Act.put, List.setIfInBounds_toArray, List.set_cons_zero, List.set_cons_succ] at ha
  rw [ha]; clear ha hbu hbt hbs hbd hI ht hs hd s7
  simp only [List.drop_succ_cons, List.drop_zero]
  have hz2 := (hb.cell (p := ⟨g1, 2, none⟩) (lt_of_cell z2)).trans z2
  have kp3 := (hb.block _ (lt_of_block kp)).trans kp
  have HB3 : Hid (Below w.heap.size w (w3.setRow g3 #[.int .i64 V.length, .int .i64 k, .slice q8 n8 c8])) := below_row (bl HB2.out hb HB2.out.size) (by have := HB2.out.size; omega)
  have HS9 : Hid (Sl B8 (w3.setRow g3 #[.int .i64 V.length, .int .i64 k, .slice q8 n8 c8]) q8 n8 c8 V.flatten) := sl_noByteRow s18 hh3 noByte3
  have hbx : (w3.setRow g3 #[.int .i64 V.length, .int .i64 k, .slice q8 n8 c8]).heap[g3]? = _ := hrs hh3
  have hpx : (w3.setRow g3 #[.int .i64 V.length, .int .i64 k, .slice q8 n8 c8]).cell? ⟨g1, 2, none⟩ = some (.int .i64 k) := cell_of_row _ _ 2 _ _ _ (hro kp3 (fun e => by have := lt_of_block kp; omega))
  generalize w3.setRow g3 #[.int .i64 V.length, .int .i64 k, .slice q8 n8 c8] = w4 at *
  obtain ⟨b0, b1, b2⟩ := cells3 hbx
  have HEN := Lib.hid e18
  clear s18 e18 hh3 hb hbx z0 z1 z2 z3 hz2 kp kp3 t7 t9
  have hee1 := HEE.out
  go_wp2
  refine wp_region_shapes (fun ix => ([.val (.int .i64 0), .val (.bool true), .val (.bool true), .val (.agg #[.int .i64 V.length, .int .i64 k, .slice q8 n8 c8]), .val (.int .i64 (iK V).length), .val (.pointer (some ⟨g1, 2, none⟩)), .val (.int .i64 (k : Nat)), .val (.bool ee), .val (.bool ee), .val (.bool ee)][ix]?).getD (.any)) 31 rfl (by kernel_rfl) (by decide +kernel) (by decide +kernel) (by decide +kernel) ?_ ?_
  · refine ⟨?_, ?_, ?_, ?_, ?_, ?_, ?_, ?_, ?_, ?_, trivial⟩
    · intro a W hb0 hs hp hi; have hb := undrew hb0; clear hb0
      have t8 : sl a 8 = .int .i64 0 := hi 8 (by decide)
      exact ite_y rfl (wp_val (sl a 8) rfl ⟨_, rfl, Below.refl _ _, t8⟩)
    · intro a W hb0 hs hp hi; have hb := undrew hb0; clear hb0
      have t22 : sl a 22 = .int .i64 0 := hp 0 (by decide)
      refine ite_y rfl (wp_val (.bool true) ?_ ?_)
      · simp only [execOp, eval_tmp, eval_const, t22]; simp [go_sem]
      · exact ⟨_, rfl, Below.refl _ _, rfl⟩
    · intro a W hb0 hs hp hi; have hb := undrew hb0; clear hb0
      have t23 : sl a 23 = .bool true := hp 1 (by decide)
      exact ite_y rfl (wp_val (sl a 23) rfl ⟨_, rfl, Below.refl _ _, t23⟩)
    · intro a W hb0 hs hp hi; have hb := undrew hb0; clear hb0
      have tg : sl a 24 = .bool true := hp 2 (by decide)
      have tt : sl a 7 = .pointer (some ⟨g3, 0, none⟩) := hi 7 (by decide)
      have dd0 := (hb.cell (p := ⟨g3, 0, none⟩) (lt_of_cell b0)).trans b0
      have dd1 := (hb.cell (p := ⟨g3, 1, none⟩) (lt_of_cell b1)).trans b1
      have dd2 := (hb.cell (p := ⟨g3, 2, none⟩) (lt_of_cell b2)).trans b2
      refine ite_y (wanted_yes rfl rfl (by have hz : a.tmps.size = 31 := hs; rw [hz]; decide) tg) (wp_val (.agg #[.int .i64 V.length, .int .i64 k, .slice q8 n8 c8]) ?_ ?_)
      · simp only [execOp, eval_tmp, tt]; simp [go_sem, dd0, dd1, dd2]
      · exact ⟨_, rfl, Below.refl _ _, rfl⟩
    · intro a W hb0 hs hp hi; have hb := undrew hb0; clear hb0
      have tg : sl a 24 = .bool true := hp 2 (by decide)
      have t25 : sl a 25 = .agg #[.int .i64 V.length, .int .i64 k, .slice q8 n8 c8] := hp 3 (by decide)
      refine ite_y (wanted_yes rfl rfl (by have hz : a.tmps.size = 31 := hs; rw [hz]; decide) tg) (wp_enter 34 #[.agg #[.int .i64 V.length, .int .i64 k, .slice q8 n8 c8]] ?_ (HRk.out _ _ _ _ HEN.out (HS9.out.keep hb)) ?_)
      · simp only [execOp, resolve, List.map_toArray, List.map, eval_tmp, eval_func, eval_const, t25]; simp [go_sem]
      · rintro e W' ⟨rfl, hw⟩; exact ⟨_, rfl, _, rfl, hw, rfl⟩
    · intro a W hb0 hs hp hi; have hb := undrew hb0; clear hb0
      have tg : sl a 24 = .bool true := hp 2 (by decide)
      have t3 : sl a 3 = .pointer (some ⟨g1, 0, none⟩) := hi 3 (by decide)
      refine ite_y (wanted_yes rfl rfl (by have hz : a.tmps.size = 31 := hs; rw [hz]; decide) tg) (wp_val (.pointer (some ⟨g1, 2, none⟩)) ?_ ?_)
      · simp only [execOp, eval_tmp, eval_const, t3]; simp [go_sem]
      · exact ⟨_, rfl, Below.refl _ _, rfl⟩
    · intro a W hb0 hs hp hi; have hb := undrew hb0; clear hb0
      have tg : sl a 24 = .bool true := hp 2 (by decide)
      have tt : sl a 27 = .pointer (some ⟨g1, 2, none⟩) := hp 5 (by decide)
      have dd := (hb.cell (p := ⟨g1, 2, none⟩) (lt_of_cell hpx)).trans hpx
      refine ite_y (wanted_yes rfl rfl (by have hz : a.tmps.size = 31 := hs; rw [hz]; decide) tg) (wp_val (.int .i64 (k : Nat)) ?_ ?_)
      · simp only [execOp, eval_tmp, tt]; simp [go_sem, dd]
      · exact ⟨_, rfl, Below.refl _ _, rfl⟩
    · intro a W hb0 hs hp hi; have hb := undrew hb0; clear hb0
      have tg : sl a 24 = .bool true := hp 2 (by decide)
      have t26 : sl a 26 = .int .i64 (iK V).length := hp 4 (by decide)
      have t28 : sl a 28 = .int .i64 (k : Nat) := hp 6 (by decide)
      refine ite_y (wanted_yes rfl rfl (by have hz : a.tmps.size = 31 := hs; rw [hz]; decide) tg) (wp_val (.bool ee) ?_ ?_)
      · simp only [execOp, eval_tmp, eval_const, t26, t28]; simp [go_sem, hee1]
      · exact ⟨_, rfl, Below.refl _ _, rfl⟩
    · intro a W hb0 hs hp hi; have hb := undrew hb0; clear hb0
      have t24 : sl a 24 = .bool true := hp 2 (by decide)
      have t29 : sl a 29 = .bool ee := hp 7 (by decide)
      refine ite_y rfl (wp_val (.bool ee) ?_ ?_)
      · simp only [execOp, eval_tmp, eval_const, t24, t29]; simp [go_sem]
      · exact ⟨_, rfl, Below.refl _ _, rfl⟩
    · intro a W hb0 hs hp hi; have hb := undrew hb0; clear hb0
      have t30 : sl a 30 = .bool ee := hp 8 (by decide)
      exact ite_y rfl (wp_val (sl a 30) rfl ⟨_, rfl, Below.refl _ _, t30⟩)
  intro a w5 hb hs hd hI ht
  have ha := act_is [22, 23, 24, 25, 26, 27, 28, 29, 30, 6] hs hd ht (by decide)
  have t6 : sl a 6 = .bool ee := hI 9 (by decide)
  simp only [List.foldl, t6] at ha
  generalize sl a 22 = u22 at ha
  generalize sl a 23 = u23 at ha
  generalize sl a 24 = u24 at ha
  generalize sl a 25 = u25 at ha
  generalize sl a 26 = u26 at ha
  generalize sl a 27 = u27 at ha
  generalize sl a 28 = u28 at ha
  generalize sl a 29 = u29 at ha
  generalize sl a 30 = u30 at ha
  simp only [Act.put, List.setIfInBounds_toArray, List.set_cons_zero, List.set_cons_succ] at ha
  rw [ha]
  clear ha hI ht
  have HB5 := Lib.hid (bl HB3.out hb HB3.out.size)
  clear hb
  go_wp2
  go_ret
  exact ⟨rfl, HB5.out⟩
end Go.Proofs.YtfbmdlfkipipfaaGreatDoor
namespace Go.Proofs.YtfbmdlfkipipfaaGreatDoor
open Go.RowKit Go.By Gf Go.Maps
/-- what came, of the object's packets -/
def cameS (k t D : Nat) (o : List UInt8) (srcs : List SrcD) (acs : List ActD) : List (List UInt8) := (playS (initS (sendsS D k ((List.range k).map (pieceS o t)) srcs)) acs).map (·.1)
theorem pick_pre (VS : List (List UInt8)) (fr : List Int) (i : Nat) : pickS VS (fr.take i) = (pickS VS fr).take (pickS VS (fr.take i)).length := by
  have : pickS VS fr = pickS VS (fr.take i) ++ pickS VS (fr.drop i) := by
    unfold pickS
    rw [← List.map_append, ← List.filter_append, List.take_append_drop]
  rw [this, List.take_left']
  rfl
theorem map_len_eq {A B : List (List UInt8)} (h1 : A.length = B.length) (h2 : ∀ (n : Nat) (a b : List UInt8), A[n]? = some a → B[n]? = some b → a.length = b.length) : A.map (·.length) = B.map (·.length) := by
  apply List.ext_getElem?
  intro i
  rw [List.getElem?_map, List.getElem?_map]
  by_cases h : i < A.length
  · have h' : i < B.length := by omega
    rw [List.getElem?_eq_getElem h, List.getElem?_eq_getElem h']
    exact congrArg some (h2 i _ _ (List.getElem?_eq_getElem h) (List.getElem?_eq_getElem h'))
  · rw [List.getElem?_eq_none (by omega), List.getElem?_eq_none (by omega)]
structure ArrX (k t D : Nat) (FX VS CM : List (List UInt8)) (FR : List Int) : Prop where
  len : FR.length = CM.length
  at_ : ∀ (i : Nat) (x : List UInt8) (f : Int), CM[i]? = some x → FR[i]? = some f → (0 ≤ f ∧ f.toNat < VS.length ∧ readC k t D x = 0 ∧ eqX k t x = rowC t FX (VS.getD f.toNat []) ∧ (VS.getD f.toNat []).length = k) ∨ (f < 0 ∧ readC k t D x ≠ 0)
theorem arr_of {k t D : Nat} {o : List UInt8} {srcs : List SrcD} {acs : List ActD} (k1 : 1 ≤ k) (hD : D < 4294967296) (hl : srcs.length ≤ 1000) (hs : ∀ a, a ∈ srcs → a.s < 18446744073709551616) (hc : calmS acs = true) :
    ArrX k t D ((List.range k).map (pieceS o t)) (vecsS k srcs) (cameS k t D o srcs acs) (fromsS k t srcs acs) := by
  obtain ⟨FX, hFX⟩ : ∃ FX, FX = (List.range k).map (pieceS o t) := ⟨_, rfl⟩
  have hF : ∀ x, x ∈ FX → x.length = t := by rw [hFX]; exact pieces_len.1
  have hk : FX.length = k := by rw [hFX]; exact pieces_len.2
  have R := RelX.all (D := D) (t := t) hF hk k1 hD srcs hl hs
  unfold cameS
  rw [← hFX]
  obtain ⟨XS, hXS⟩ : ∃ XS, XS = sendsS D k FX srcs := ⟨_, rfl⟩
  rw [← hXS] at R ⊢
  have hX : ∀ x, x ∈ XS → readC k t D x = 0 := fun x hx => by
    obtain ⟨n, hn, e⟩ := List.getElem_of_mem hx
    have h1 : n < (vecsS k srcs).length := by rw [R.l1]; exact hn
    have h2 : n < (blksS k t srcs).length := by rw [R.l2]; exact hn
    exact (R.at_ n x _ _ (by rw [List.getElem?_eq_getElem hn, e]) (List.getElem?_eq_getElem h1) (List.getElem?_eq_getElem h2)).1
  have hFR : fromsS k t srcs acs = (playS (initS XS) acs).map (·.2) := by
    unfold fromsS
    refine froms_len acs (map_len_eq R.l2 fun n a b ha hb => ?_)
    have hn := (List.getElem?_eq_some_iff.1 hb).1
    have h1 : n < (vecsS k srcs).length := by rw [R.l1]; exact hn
    exact (R.at_ n b _ a hb (List.getElem?_eq_getElem h1) ha).2.2.2
  have hlt : ∀ f, f ∈ fromsS k t srcs acs → f < (vecsS k srcs).length := fun f h => froms_lt h
  rw [hFR] at hlt ⊢
  refine ⟨by simp, fun i x f hx hf => ?_⟩
  rw [List.getElem?_map] at hx hf
  cases hp : (playS (initS XS) acs)[i]? with
  | none => rw [hp] at hx; cases hx
  | some p =>
    rw [hp] at hx hf
    cases hx; cases hf
    have hm := List.mem_of_getElem? hp
    rcases calm_came hX hc p hm with ⟨n, e1, e2⟩ | ⟨e1, e2⟩
    · have hn := (List.getElem?_eq_some_iff.1 e2).1
      have h1 : n < (vecsS k srcs).length := by rw [R.l1]; exact hn
      have h2 : n < (blksS k t srcs).length := by rw [R.l2]; exact hn
      obtain ⟨a1, a2, a3, a4⟩ := R.at_ n p.1 _ _ e2 (List.getElem?_eq_getElem h1) (List.getElem?_eq_getElem h2)
      have e3 : p.2.toNat = n := by omega
      have e4 : (vecsS k srcs).getD p.2.toNat [] = (vecsS k srcs)[n] := by rw [e3, List.getD_eq_getElem?_getD, List.getElem?_eq_getElem h1]; rfl
      refine .inl ⟨show (0 : Int) ≤ p.2 by omega, show p.2.toNat < _ by omega, a1, ?_, ?_⟩
      · show _ = rowC t FX ((vecsS k srcs).getD p.2.toNat []); rw [e4]; exact a2
      · show ((vecsS k srcs).getD p.2.toNat []).length = k; rw [e4]; exact a3
    · exact .inr ⟨show p.2 < 0 by omega, e2⟩
theorem arr_fold {k t D : Nat} {FX VS CM : List (List UInt8)} {FR : List Int} (h : ArrX k t D FX VS CM FR) (hF : ∀ x, x ∈ FX → x.length = t) (hk : FX.length = k) (k1 : 1 ≤ k) : ∀ i, i ≤ CM.length →
    ∃ X, OneObj k t FX X (tkR k t D (CM.take i)).1 ∧ X.map (fun x : Rw => x.1) = pickS VS (FR.take i) ∧ (tkR k t D (CM.take i)).2 = stF (tkR k t D (CM.take i)).1 k
  | 0, _ => by
    refine ⟨[], OneObj.nil k t FX, rfl, ?_⟩
    show 0 = stF ([] : List Rw) k
    unfold stF
    rw [if_neg (by show (0 : Nat) ≠ k; omega)]
  | i + 1, hi => by
    obtain ⟨X, h1, h2, h3⟩ := arr_fold h hF hk k1 i (by omega)
    have hc : i < CM.length := by omega
    have hf : i < FR.length := by rw [h.len]; exact hc
    have ec := List.getElem?_eq_getElem hc
    have ef := List.getElem?_eq_getElem hf
    rw [tkR_snoc ec, pick_snoc ef]
    generalize tkR k t D (CM.take i) = s at h1 h3 ⊢
    obtain ⟨K, st⟩ := s
    simp only at h1 h3
    subst h3
    rcases h.at_ i _ _ ec ef with ⟨a1, a2, a3, a4, a5⟩ | ⟨a1, a2⟩
    · rw [if_pos a1]
      obtain ⟨t1, t2⟩ := h1.takeV hF hk a3 a4 a5
      refine ⟨_, t1, ?_, t2⟩
      rw [List.map_append, h2]
      rfl
    · rw [if_neg (by omega)]
      refine ⟨X, ?_, h2, ?_⟩
      · show OneObj k t FX X (takeK k t D K (stF K k) CM[i])
        unfold takeK; rw [if_neg (fun e => a2 e.1)]; exact h1
      · show takeS k t D K (stF K k) CM[i] = stF (takeK k t D K (stF K k) CM[i]) k
        unfold takeK takeS; rw [if_neg (fun e => a2 e.1), if_neg (fun e => a2 e.1)]
/-- behind each delivery: the rank -/
theorem arr_rank {k t D : Nat} {FX VS CM : List (List UInt8)} {FR : List Int} (h : ArrX k t D FX VS CM FR) (hF : ∀ x, x ∈ FX → x.length = t) (hk : FX.length = k) (k1 : 1 ≤ k) {i : Nat} (hi : i ≤ CM.length) :
    (tkR k t D (CM.take i)).1.length = (iK (pickS VS (FR.take i))).length ∧ (tkR k t D (CM.take i)).2 = if (iK (pickS VS (FR.take i))).length = k then 1 else 0 := by
  obtain ⟨X, h1, h2, h3⟩ := arr_fold h hF hk k1 i hi
  have e := h1.rank
  rw [h2] at e
  refine ⟨e, ?_⟩
  rw [h3]; unfold stF; rw [e]
theorem arr_data {k t D : Nat} {FX VS CM : List (List UInt8)} {FR : List Int} (h : ArrX k t D FX VS CM FR) (hF : ∀ x, x ∈ FX → x.length = t) (hk : FX.length = k) (k1 : 1 ≤ k) (hd : (iK (pickS VS FR)).length = k) :
    (tkR k t D CM).1.map (fun x : Rw => x.2) = FX ∧ k ≤ VS.length := by
  have hfl : FR.take CM.length = FR := by rw [← h.len, List.take_length]
  obtain ⟨X, h1, h2, h3⟩ := arr_fold h hF hk k1 CM.length (Nat.le_refl _)
  have e := h1.rank
  rw [List.take_length] at h1 e
  rw [hfl] at h2
  rw [h2, hd] at e
  refine ⟨h1.data hF hk e, ?_⟩
  have hr : ∀ r, r ∈ pickS VS FR → r.length = k ∧ r ∈ VS := fun r hr => by
    unfold pickS at hr
    obtain ⟨f, hf, rfl⟩ := List.mem_map.1 hr
    obtain ⟨g1, g2⟩ := List.mem_filter.1 hf
    obtain ⟨j, hj, ej⟩ := List.getElem_of_mem g1
    have hj2 : j < CM.length := by rw [← h.len]; exact hj
    rcases h.at_ j _ f (List.getElem?_eq_getElem hj2) (by rw [List.getElem?_eq_getElem hj, ej]) with ⟨a1, a2, a3, a4, a5⟩ | ⟨a1, a2⟩
    · refine ⟨a5, ?_⟩
      rw [List.getD_eq_getElem?_getD, List.getElem?_eq_getElem a2]
      exact List.getElem_mem a2
    · exact absurd (of_decide_eq_true g2) (by omega)
  have := iK_le (A := pickS VS FR) (W := VS.map vf) (fun r h => (hr r h).1) (fun r h => Sp.mem (List.mem_map_of_mem (hr r h).2))
  rw [hd, List.length_map] at this
  exact this
/-- a step's code, and how many came whole -/
theorem arr_code {k t D : Nat} {FX VS CM : List (List UInt8)} {FR : List Int} (h : ArrX k t D FX VS CM FR) {i : Nat} (hi : i < CM.length) :
    (pickS VS (FR.take (i + 1))).length = (pickS VS (FR.take i)).length + if readC k t D (CM.getD i []) = 0 then 1 else 0 := by
  have hf : i < FR.length := by rw [h.len]; exact hi
  have ec := List.getElem?_eq_getElem hi
  have ef := List.getElem?_eq_getElem hf
  rw [pick_snoc ef, show CM.getD i [] = CM[i] by rw [List.getD_eq_getElem?_getD, ec]; rfl]
  rcases h.at_ i _ _ ec ef with ⟨a1, a2, a3, a4, a5⟩ | ⟨a1, a2⟩
  · rw [if_pos a1, if_pos a3]; simp
  · rw [if_neg (by omega), if_neg a2]; simp
end Go.Proofs.YtfbmdlfkipipfaaGreatDoor
namespace Go.Proofs.YtfbmdlfkipipfaaGreatDoor
open Go.RowKit Go.By Gf Go.Maps
/-- a report, in memory -/
def Held (B g m0 m rr ss : Nat) (q : Option Addr) (c : Nat) (q2 : Option Addr) (n2 c2 : Nat) (SV : List Value) (OB : List UInt8) (W : World) : Prop :=
  W.heap[g]? = some (.cells #[.int .i64 (m0 : Nat), .slice q m c, .int .i64 (rr : Nat), .int .i64 (ss : Nat), .slice q2 n2 c2] 85 (0, 0)) ∧ W.ownsRow B 90 3 (.slice q m c) m SV ∧ Fresh 5 B W q2 n2 c2 OB
section
variable {B g m0 m rr ss c n2 c2 : Nat} {q q2 : Option Addr} {SV : List Value} {OB : List UInt8} {w w' : World}
theorem Held.keep (h : Held B g m0 m rr ss q c q2 n2 c2 SV OB w) (hb : Below w.heap.size w w') : Held B g m0 m rr ss q c q2 n2 c2 SV OB w' :=
  ⟨(hb.block _ (lt_of_block h.1)).trans h.1, owns_keepv h.2.1 hb, h.2.2.keep hb⟩
theorem Held.same (h : Held B g m0 m rr ss q c q2 n2 c2 SV OB w) (hs : w.heap.size ≤ w'.heap.size) (h1 : ∀ (b : Nat) (cs : Array Value) (fr : Nat × Nat), w.heap[b]? = some (.cells cs 85 fr) → w'.heap[b]? = w.heap[b]?) (h2 : ∀ (b : Nat) (cs : Array Value) (fr : Nat × Nat), w.heap[b]? = some (.cells cs 90 fr) → w'.heap[b]? = w.heap[b]?) (h3 : ∀ (b : Nat) (cs : Array Value) (fr : Nat × Nat), w.heap[b]? = some (.cells cs 5 fr) → w'.heap[b]? = w.heap[b]?) : Held B g m0 m rr ss q c q2 n2 c2 SV OB w' :=
  ⟨(h1 _ _ _ h.1).trans h.1, KeepR.owns h2 hs h.2.1, fresh_same h.2.2 h3⟩
theorem Held.keepS (h : Held B g m0 m rr ss q c q2 n2 c2 SV OB w) (hk : KeepS w w') : Held B g m0 m rr ss q c q2 n2 c2 SV OB w' :=
  h.same hk.size (hk.same _ os_rep) (hk.same _ os_step) (hk.same _ os_u8)
end
end Go.Proofs.YtfbmdlfkipipfaaGreatDoor
namespace Go.Proofs.YtfbmdlfkipipfaaGreatDoor
open Go.RowKit Go.By Gf Go.Maps
theorem sl2_pre22 {w : World} {p : Option Addr} {n c m : Nat} {xss : List (List UInt8)} (h : Sl2 w p n c xss) (hm : m ≤ n) : Sl2 w p m c (xss.take m) := by
  refine ⟨by rw [List.length_take, h.len]; omega, Nat.le_trans hm h.le, h.max, fun e => ?_, fun i x hi => ?_⟩
  · obtain ⟨e1, e2⟩ := h.nil e
    exact ⟨by omega, e2⟩
  · rw [List.getElem?_take] at hi
    by_cases hl : i < m
    · rw [if_pos hl] at hi; exact h.rs i x hi
    · rw [if_neg hl] at hi; cases hi
/-- what a trip comes to, in numbers: the steps, how many came whole, the vectors -/
structure ArrN (k t D : Nat) (CM V : List (List UInt8)) (N : Nat → Nat) : Prop where
  n0 : N 0 = 0
  ns : ∀ i, i < CM.length → N (i + 1) = N i + if readC k t D (CM.getD i []) = 0 then 1 else 0
  le : ∀ i, i ≤ CM.length → N i ≤ V.length
  nm : N CM.length = V.length
  rk : ∀ i, i < CM.length → (tkR k t D (CM.take (i + 1))).1.length = (iK (V.take (N (i + 1)))).length
  st : (tkR k t D CM).2 = if (iK V).length = k then 1 else 0
theorem arr_n {k t D : Nat} {FX VS CM : List (List UInt8)} {FR : List Int} (h : ArrX k t D FX VS CM FR) (hF : ∀ x, x ∈ FX → x.length = t) (hk : FX.length = k) (k1 : 1 ≤ k) :
    ArrN k t D CM (pickS VS FR) (fun i => (pickS VS (FR.take i)).length) := by
  have hfl : FR.take CM.length = FR := by rw [← h.len, List.take_length]
  refine ⟨rfl, fun i hi => arr_code h hi, fun i hi => ?_, by rw [hfl], fun i hi => ?_, ?_⟩
  · have := congrArg List.length (pick_pre VS FR i)
    rw [List.length_take] at this
    show (pickS VS (FR.take i)).length ≤ _
    omega
  · rw [(arr_rank h hF hk k1 (i := i + 1) (by omega)).1]
    exact congrArg (fun l => (iK l).length) (pick_pre VS FR (i + 1))
  · have := (arr_rank h hF hk k1 (i := CM.length) (Nat.le_refl _)).2
    rw [List.take_length, hfl] at this
    exact this
def RunG (w : World) (m0 m rr ss : Nat) (SV : List Value) (OB : List UInt8) (e : Ending) (w' : World) : Prop :=
  ∃ q c q2 n2 c2, e = .returned (.tuple #[.agg #[.int .i64 (m0 : Nat), .slice q m c, .int .i64 (rr : Nat), .int .i64 (ss : Nat), .slice q2 n2 c2], .int .i64 0]) ∧ w'.ownsRow w.heap.size 90 3 (.slice q m c) m SV ∧ Fresh 5 w.heap.size w' q2 n2 c2 OB ∧ Below w.heap.size w w'
def VecG (w : World) (h : Nat) (V : List (List UInt8)) (e : Ending) (w' : World) : Prop :=
  ∃ q c, e = .returned (.slice q h c) ∧ HdrF 22 5 w.heap.size w' (.slice q h c) h V ∧ Below w.heap.size w w'
set_option maxRecDepth 100000 in
set_option maxHeartbeats 8000000 in
theorem TripArrives_core (L t k D : Nat) (q0 : Option Addr) (c0 : Nat) (o : List UInt8) (p1 : Option Addr) (n1 c1 : Nat) (srcs : List SrcD) (p2 : Option Addr) (n2 c2 : Nat) (acs : List ActD) (w : World) (hO : ObjP L t k D) (h0 : Sl B8 w q0 L c0 o) (h1 : SlS w p1 n1 c1 srcs) (h2 : SlA w p2 n2 c2 acs) (hT : HalfT w)
    (hk12 : k ≤ 12) (ht20 : t ≤ 1000) (hn1 : n1 ≤ 20) (hn2 : n2 ≤ 40) (hsr : ∀ a, a ∈ srcs → a.xs.length ≤ 1000000) (hs64 : ∀ a, a ∈ srcs → a.s < 18446744073709551616) (har : ∀ a, a ∈ acs → Room a.bs.length) (hof : ofS (L : Int) (t : Int) (D : Int) = .tuple #[PVal L t k D, .int .i64 0]) (hfw : few22 L srcs acs = true) (hsm : small19 L t k = true) (hcm : calmS acs = true) :
    Calls Tryz.prog 7 #[.slice q0 L c0, .int .i64 (t : Nat), .int .u32 (D : Nat), .slice p1 n1 c1, .slice p2 n2 c2] w fun e w' => e = .returned (.bool true) ∧ Below w.heap.size w w' := by
  have HT := Lib.hid hT
  have H0 := Lib.hid h0
  have H1 := Lib.hid h1
  have H2 := Lib.hid h2
  have hk1 := hO.ok.k1
  have hP := hO.ok
  have HOf : Hid (∀ w, Calls Tryz.prog 24 #[.int .i64 (L : Nat), .int .i64 (t : Nat), .int .u32 (D : Nat)] w fun e w' => e = .returned (.tuple #[PVal L t k D, .int .i64 0]) ∧ Below w.heap.size w w') := fun w => by
    have := POf_any (L : Int) (t : Int) (D : Int) w hP.l
    rw [hof] at this; exact this
  have HFew : Hid (∀ W, Below w.heap.size w W → Calls Tryz.prog 38 #[.slice q0 L c0, .slice p1 n1 c1, .slice p2 n2 c2] W fun e w' => e = .returned (.bool true) ∧ Below W.heap.size W w') := fun W hb => by
    have := Few22_any q0 L c0 p1 n1 c1 srcs p2 n2 c2 acs W h0.bound (h1.keep hb) (h2.keep hb)
    rw [hfw] at this; exact this
  have HSm : Hid (∀ w, Calls Tryz.prog 29 #[PVal L t k D] w fun e w' => e = .returned (.bool true) ∧ Below w.heap.size w w') := fun w => by have := Small19_any L t k D w hP.l; rw [hsm] at this; exact this
  have HCl : Hid (∀ W, Below w.heap.size w W → Calls Tryz.prog 41 #[.slice p2 n2 c2] W fun e w' => e = .returned (.bool true) ∧ Below W.heap.size W w') := fun W hb => by
    have := calm_any p2 n2 c2 acs W (h2.keep hb) (by omega)
    rw [hcm] at this; exact this
  have hl1 := h1.len
  have hl2 := h2.len
  obtain ⟨FX, hFX⟩ : ∃ FX, FX = (List.range k).map (pieceS o t) := ⟨_, rfl⟩
  have hFl : ∀ x, x ∈ FX → x.length = t := by rw [hFX]; exact pieces_len.1
  have hFk : FX.length = k := by rw [hFX]; exact pieces_len.2
  have hA := arr_of (k := k) (t := t) (D := D) (o := o) (srcs := srcs) (acs := acs) hk1 hP.d (by omega) hs64 hcm
  rw [← hFX] at hA
  have hfl := froms_le (k := k) (t := t) srcs acs
  have hpl := pick_len (vecsS k srcs) (fromsS k t srcs acs)
  have hrw := pick_rows (k := k) (t := t) (srcs := srcs) (acs := acs) (fr := fromsS k t srcs acs) (fun x h => h)
  have hXV : (vecsS k srcs).length = (sendsS D k FX srcs).length := (RelX.all (t := t) (D := D) hFl hFk hk1 hP.d srcs (by omega) hs64).l1
  have hJO : joinS (L : Int) (t : Int) (k : Int) FX = (o, 0) := by
    rw [hFX]; exact join_pieces h0.len.symm hP.chk (by rw [h0.len]; exact hO.fit) (by rw [h0.len]; exact hO.le)
  obtain ⟨came, hcame⟩ : ∃ came, came = cameS k t D o srcs acs := ⟨_, rfl⟩
  have HRun : Hid (∀ W, Below w.heap.size w W → Calls Tryz.prog 39 #[PVal L t k D, .slice q0 L c0, .slice p1 n1 c1, .slice p2 n2 c2] W (RunRet W L t k D (sendsS D k FX srcs).length came)) := fun W hb => by
    rw [hcame, hFX]
    exact Run_ok L t k D q0 c0 o p1 n1 c1 srcs p2 n2 c2 acs W hP hO.fit (h0.keep hb) (h1.keep hb) (h2.keep hb) (hT.keep hb) (by omega) (by omega) hsr har
  have HVv : Hid (∀ W, Below w.heap.size w W → Calls Tryz.prog 42 #[PVal L t k D, .slice p1 n1 c1, .slice p2 n2 c2] W (VecRet W (pickS (vecsS k srcs) (fromsS k t srcs acs)))) := fun W hb => Vectors_ok L t k D p1 n1 c1 srcs p2 n2 c2 acs W hP (h1.keep hb) (h2.keep hb) (by omega) (by omega) ht20 hsr har
  have HEn : Hid (∀ W, Below w.heap.size w W → Calls Tryz.prog 43 #[PVal L t k D, .slice p1 n1 c1, .slice p2 n2 c2] W fun e w' => e = .returned (.bool (decide ((iK (pickS (vecsS k srcs) (fromsS k t srcs acs))).length = k))) ∧ Below W.heap.size W w') := fun W hb => Enough_ok L t k D p1 n1 c1 srcs p2 n2 c2 acs W hP (h1.keep hb) (h2.keep hb) (by omega) (by omega) ht20 (by omega) hsr har
  rw [← hcame] at hA
  have hN := arr_n hA hFl hFk hk1
  have hDT : (iK (pickS (vecsS k srcs) (fromsS k t srcs acs))).length = k → (tkR k t D came).1.map (fun x : Rw => x.2) = FX ∧ k ≤ (sendsS D k FX srcs).length := fun e => by
    have := arr_data hA hFl hFk hk1 e
    rw [hXV] at this; exact this
  obtain ⟨V, hV⟩ : ∃ V, V = pickS (vecsS k srcs) (fromsS k t srcs acs) := ⟨_, rfl⟩
  rw [← hV] at HVv HEn hpl hrw hDT hN
  generalize (fun i => (pickS (vecsS k srcs) ((fromsS k t srcs acs).take i)).length) = N at hN
  obtain ⟨h, hh⟩ : ∃ h, h = V.length := ⟨_, rfl⟩
  have hV2 : h ≤ 2000 := by omega
  have hVk : ∀ n, n ≤ h → n * k ≤ 65536 := fun n hn => Nat.le_trans (Nat.mul_le_mul (Nat.le_trans hn hV2) (show k ≤ 32 by omega)) (by decide)
  have HOf2 : Hid (∀ W q c n, n ≤ h → Sl2 W q h c V → Calls Tryz.prog 33 #[.int .i64 (k : Nat), .slice q n c] W (RetG2 5 W n k (V.take n).flatten 0)) := fun W q c n hn hs => GOf_good k q n c (V.take n) W (sl2_pre22 hs hn) (by omega) (by omega) (hVk n hn) (List.all_eq_true.2 fun x hx => decide_eq_true (hrw x (List.mem_of_mem_take hx)))
  have HRk : Hid (∀ W q n c m, m ≤ h → n = m * k → Sl B8 W q n c (V.take m).flatten → Calls Tryz.prog 34 #[.agg #[.int .i64 m, .int .i64 k, .slice q n c]] W fun e w' => e = .returned (.int .i64 (iK (V.take m)).length) ∧ Below W.heap.size W w') := fun W q n c m hm hn hs => GRank_rows (fun x hx => hrw x (List.mem_of_mem_take hx)) (by rw [List.length_take, ← hh]; omega) (by omega) (by omega) q n c W hn hs
  obtain ⟨ee, hee⟩ : ∃ ee, ee = decide ((iK V).length = k) := ⟨_, rfl⟩
  obtain ⟨m, hm⟩ : ∃ m, m = came.length := ⟨_, rfl⟩
  obtain ⟨m0, hm0⟩ : ∃ m0, m0 = (sendsS D k FX srcs).length := ⟨_, rfl⟩
  obtain ⟨rr, hrr⟩ : ∃ rr, rr = (tkR k t D came).1.length := ⟨_, rfl⟩
  obtain ⟨ss, hss'⟩ : ∃ ss, ss = (tkR k t D came).2 := ⟨_, rfl⟩
  obtain ⟨OB, hOB⟩ : ∃ OB, OB = (if (tkR k t D came).2 = 1 then (joinS (L : Int) (t : Int) (k : Int) ((tkR k t D came).1.map (fun x : Rw => x.2))).1 else []) := ⟨_, rfl⟩
  obtain ⟨SV, hSV⟩ : ∃ SV, SV = stepsV k t D came came.length := ⟨_, rfl⟩
  have HST : Hid (ss = if ee = true then 1 else 0) := by
    show _ = _
    rw [hss', hN.st, hee]
    by_cases e : (iK V).length = k
    · rw [if_pos e, decide_eq_true e]; rfl
    · rw [if_neg e, decide_eq_false e]; rfl
  have HOBJ : Hid (OB = if ee = true then o else []) := by
    show _ = _
    rw [hOB, hN.st, hee]
    by_cases e : (iK V).length = k
    · rw [if_pos e, if_pos rfl, (hDT e).1, hJO, decide_eq_true e]; rfl
    · rw [if_neg e, if_neg (by decide), decide_eq_false e]; rfl
  have HSE : Hid (ee = true → k ≤ m0) := fun e => by
    rw [hee] at e; rw [hm0]; exact (hDT (of_decide_eq_true e)).2
  have HNL : Hid (∀ i, i ≤ m → N i ≤ h) := fun i hi => by rw [hh]; exact hN.le i (by omega)
  have HN0 := Lib.hid hN.n0
  have HNM : Hid (N m = h) := by show _ = _; rw [hm, hh]; exact hN.nm
  have HSTP : Hid (∀ i, i < m → ∃ (E : Int) (r s n' : Nat), stepV k t D came i = [.int .i64 E, .int .i64 r, .int .i64 s] ∧ N (i + 1) = n' ∧ r = (iK (V.take n')).length ∧ ((E = 0 ∧ n' = N i + 1) ∨ (E ≠ 0 ∧ n' = N i))) := fun i hi => by
    refine ⟨_, _, _, _, rfl, rfl, hN.rk i (by omega), ?_⟩
    have := hN.ns i (by omega)
    by_cases e : readC k t D (came.getD i []) = 0
    · rw [if_pos e] at this; exact .inl ⟨e, this⟩
    · rw [if_neg e] at this; exact .inr ⟨e, this⟩
  have HSV : Hid (∀ i j, i < m → j < 3 → SV[i * 3 + j]? = (stepV k t D came i)[j]?) := fun i j hi hj => by rw [hSV]; exact stepsV_at k t D came (by omega) hj
  rw [← hee] at HEn
  have HRn : Hid (∀ W, Below w.heap.size w W → Calls Tryz.prog 39 #[PVal L t k D, .slice q0 L c0, .slice p1 n1 c1, .slice p2 n2 c2] W (RunG W m0 m rr ss SV OB)) := by
    rw [hm, hm0, hrr, hss', hOB, hSV]; exact HRun
  have HVc : Hid (∀ W, Below w.heap.size w W → Calls Tryz.prog 42 #[PVal L t k D, .slice p1 n1 c1, .slice p2 n2 c2] W (VecG W h V)) := by
    rw [hh]; exact HVv
  have hmb : m ≤ 2000 := by rw [hm, ← hA.len]; omega
  clear hT hO hP h0 h1 h2 hsr hs64 har hof hfw hsm hcm hl1 hl2 hFl hFk hA hfl hpl hrw hXV hJO hN hDT hV hh hV2 hVk hee hm hm0 hrr hss' hOB hSV hFX hcame HRun HVv
  go_enter Tryz.func7, Tryz.ntmps7
  go_wp2_with fail
  refine Calls.mono (awake22 _ HT.out) ?_
  rintro e wa ⟨rfl, hb⟩
  have HBa := Lib.hid hb
  clear hb
  go_wp2_with fail
  refine Calls.mono (HOf.out _) ?_
  rintro e wb ⟨rfl, hb⟩
  have HBb := Lib.hid (bl HBa.out hb HBa.out.size)
  clear hb HBa
  go_wp2_with fail
  obtain ⟨gp, hgp⟩ : ∃ gp, gp = wb.heap.size := ⟨_, rfl⟩
  have ba : Below wb.heap.size wb (wb.alloc (.cells #[.int .i64 (L : Nat), .int .i64 (t : Nat), .int .i64 (k : Nat), .int .u32 (D : Nat)] 27 (0, 0))) := al (Below.refl _ _) (Nat.le_refl _)
  have kp1 : (wb.alloc (.cells #[.int .i64 (L : Nat), .int .i64 (t : Nat), .int .i64 (k : Nat), .int .u32 (D : Nat)] 27 (0, 0))).heap[gp]? = some (.cells #[.int .i64 (L : Nat), .int .i64 (t : Nat), .int .i64 (k : Nat), .int .u32 (D : Nat)] 27 (0, 0)) := hnew hgp
  have hba := bl HBb.out ba HBb.out.size
  refine Calls.mono (HFew.out _ hba) ?_
  rintro e wc ⟨rfl, hb⟩
  have HBc := Lib.hid (bl hba hb hba.size)
  have kp := (hb.block _ (lt_of_block kp1)).trans kp1
  rw [← hgp]
  clear hb ba hba kp1 hgp HBb
  obtain ⟨z0, z1, z2, z3⟩ := cells_four kp
  go_wp2_with fail
  refine Calls.mono (HSm.out _) ?_
  rintro e wd ⟨rfl, hb⟩
  have HBd := Lib.hid (bl HBc.out hb HBc.out.size)
  have kd := (hb.block _ (lt_of_block kp)).trans kp
  clear hb HBc kp z0 z1 z2 z3
  go_wp2_with fail
  refine Calls.mono (HCl.out _ HBd.out) ?_
  rintro e we ⟨rfl, hb⟩
  have HBe := Lib.hid (bl HBd.out hb HBd.out.size)
  have ke := (hb.block _ (lt_of_block kd)).trans kd
  clear hb HBd kd
  obtain ⟨z0, z1, z2, z3⟩ := cells_four ke
  go_wp2_with fail
  refine Calls.mono (HRn.out _ HBe.out) ?_
  rintro e wf ⟨q9, c9, q10, n10, c10, rfl, ho, hf, hb⟩
  have hbf := bl HBe.out hb HBe.out.size
  have kf := (hb.block _ (lt_of_block ke)).trans ke
  have ba : Below wf.heap.size wf (wf.alloc (.cells #[.int .i64 (m0 : Nat), .slice q9 m c9, .int .i64 (rr : Nat), .int .i64 (ss : Nat), .slice q10 n10 c10] 85 (0, 0))) := al (Below.refl _ _) (Nat.le_refl _)
  have hd0 : Held w.heap.size wf.heap.size m0 m rr ss q9 c9 q10 n10 c10 SV OB (wf.alloc (.cells #[.int .i64 (m0 : Nat), .slice q9 m c9, .int .i64 (rr : Nat), .int .i64 (ss : Nat), .slice q10 n10 c10] 85 (0, 0))) := ⟨hnew rfl, owns_keepv (owns_mono ho HBe.out.size) ba, (hf.mono HBe.out.size).keep ba⟩
  have hbg := bl hbf ba hbf.size
  have kg := (ba.block _ (lt_of_block kf)).trans kf
  obtain ⟨y0, y1, y2, y3⟩ := cells_four kf
  have a0 : ∀ o', (wf.alloc o').cell? ⟨gp, 0, none⟩ = _ := fun _ => calloc y0
  have a1 : ∀ o', (wf.alloc o').cell? ⟨gp, 1, none⟩ = _ := fun _ => calloc y1
  have a2 : ∀ o', (wf.alloc o').cell? ⟨gp, 2, none⟩ = _ := fun _ => calloc y2
  have a3 : ∀ o', (wf.alloc o').cell? ⟨gp, 3, none⟩ = _ := fun _ => calloc y3
  clear hb ho hf ke kf ba HBe z0 z1 z2 z3 hbf y0 y1 y2 y3
  obtain ⟨g9, hg9⟩ : ∃ g9, g9 = wf.heap.size := ⟨_, rfl⟩
  rw [← hg9] at hd0
  go_wp2_with fail
  try rw [← hg9]
  clear a0 a1 a2 a3
  generalize wf.alloc (.cells #[.int .i64 (m0 : Nat), .slice q9 m c9, .int .i64 (rr : Nat), .int .i64 (ss : Nat), .slice q10 n10 c10] 85 (0, 0)) = wg at *
  refine Calls.mono (HVc.out _ hbg) ?_
  rintro e w2 ⟨q5, c5, rfl, hv, hb⟩
  have HB2 := Lib.hid (bl hbg hb hbg.size)
  have HKP := Lib.hid ((hb.block _ (lt_of_block kg)).trans kg)
  have HD := Lib.hid (hd0.keep hb)
  have HVS := Lib.hid hv.sl2
  clear hb hbg hd0 kg hg9 hv HOf HFew HSm HCl HRn HVc
  obtain ⟨z0, z1, z2, z3⟩ := cells_four HKP.out
  obtain ⟨b0, b1, b2, b3, b4⟩ := cells_five HD.out.1
  have hs2 : ((ss : Int) == 2) = false := by
    have := HST.out
    cases ee with
    | true => rw [if_pos rfl] at this; subst this; rfl
    | false => rw [if_neg (by decide)] at this; subst this; rfl
  have hs1 : ((ss : Int) == 1) = ee := by
    have := HST.out
    cases ee with
    | true => rw [if_pos rfl] at this; subst this; rfl
    | false => rw [if_neg (by decide)] at this; subst this; rfl
  go_wp2
  refine wp_region_shapes (fun ix => ([.val (.int .i64 0), .val (.bool false), .val (.bool false), .val (.pointer (some ⟨g9, 3, none⟩)), .val (.int .i64 (ss : Nat)), .val (.bool false), .val (.bool false), .val (.bool false), .val (.pointer (some ⟨g9, 3, none⟩)), .val (.int .i64 (ss : Nat)), .val (.bool ee), .val (.agg #[.int .i64 (L : Nat), .int .i64 (t : Nat), .int .i64 (k : Nat), .int .u32 (D : Nat)]), .val (.slice p1 n1 c1), .val (.slice p2 n2 c2), .val (.bool ee), .val (.bool false), .val (.bool false)][ix]?).getD (.any)) 141 rfl (by kernel_rfl) (by decide +kernel) (by decide +kernel) (by decide +kernel) ?_ ?_
  · refine ⟨?_, ?_, ?_, ?_, ?_, ?_, ?_, ?_, ?_, ?_, ?_, ?_, ?_, ?_, ?_, ?_, ?_, trivial⟩
    · intro a W hb0 hs hp hi; have hb := undrew hb0; clear hb0
      have t12 : sl a 12 = .int .i64 0 := hi 12 (by decide)
      exact ite_y rfl (wp_val (sl a 12) rfl ⟨_, rfl, Below.refl _ _, t12⟩)
    · intro a W hb0 hs hp hi; have hb := undrew hb0; clear hb0
      have t59 : sl a 59 = .int .i64 0 := hp 0 (by decide)
      refine ite_y rfl (wp_val (.bool false) ?_ ?_)
      · simp only [execOp, eval_tmp, eval_const, t59]; simp [go_sem]
      · exact ⟨_, rfl, Below.refl _ _, rfl⟩
    · intro a W hb0 hs hp hi; have hb := undrew hb0; clear hb0
      have t60 : sl a 60 = .bool false := hp 1 (by decide)
      exact ite_y rfl (wp_val (sl a 60) rfl ⟨_, rfl, Below.refl _ _, t60⟩)
    · intro a W hb0 hs hp hi; have hb := undrew hb0; clear hb0
      have tg : sl a 61 = .bool false := hp 2 (by decide)
      have t13 : sl a 13 = .pointer (some ⟨g9, 0, none⟩) := hi 13 (by decide)
      refine ite_y (wanted_yes rfl rfl (by have hz : a.tmps.size = 141 := hs; rw [hz]; decide) tg) (wp_val (.pointer (some ⟨g9, 3, none⟩)) ?_ ?_)
      · simp only [execOp, eval_tmp, eval_const, t13]; simp [go_sem]
      · exact ⟨_, rfl, Below.refl _ _, rfl⟩
    · intro a W hb0 hs hp hi; have hb := undrew hb0; clear hb0
      have tg : sl a 61 = .bool false := hp 2 (by decide)
      have tt : sl a 62 = .pointer (some ⟨g9, 3, none⟩) := hp 3 (by decide)
      have dd := (hb.cell (p := ⟨g9, 3, none⟩) (lt_of_cell b3)).trans b3
      refine ite_y (wanted_yes rfl rfl (by have hz : a.tmps.size = 141 := hs; rw [hz]; decide) tg) (wp_val (.int .i64 (ss : Nat)) ?_ ?_)
      · simp only [execOp, eval_tmp, tt]; simp [go_sem, dd]
      · exact ⟨_, rfl, Below.refl _ _, rfl⟩
    · intro a W hb0 hs hp hi; have hb := undrew hb0; clear hb0
      have tg : sl a 61 = .bool false := hp 2 (by decide)
      have t63 : sl a 63 = .int .i64 (ss : Nat) := hp 4 (by decide)
      refine ite_y (wanted_yes rfl rfl (by have hz : a.tmps.size = 141 := hs; rw [hz]; decide) tg) (wp_val (.bool false) ?_ ?_)
      · simp only [execOp, eval_tmp, eval_const, t63]; simp [go_sem, hs2]
      · exact ⟨_, rfl, Below.refl _ _, rfl⟩
    · intro a W hb0 hs hp hi; have hb := undrew hb0; clear hb0
      have t61 : sl a 61 = .bool false := hp 2 (by decide)
      have t64 : sl a 64 = .bool false := hp 5 (by decide)
      refine ite_y rfl (wp_val (.bool false) ?_ ?_)
      · simp only [execOp, eval_tmp, eval_const, t61, t64]; simp [go_sem]
      · exact ⟨_, rfl, Below.refl _ _, rfl⟩
    · intro a W hb0 hs hp hi; have hb := undrew hb0; clear hb0
      have t65 : sl a 65 = .bool false := hp 6 (by decide)
      exact ite_y rfl (wp_val (sl a 65) rfl ⟨_, rfl, Below.refl _ _, t65⟩)
    · intro a W hb0 hs hp hi; have hb := undrew hb0; clear hb0
      have tg : sl a 66 = .bool false := hp 7 (by decide)
      have t13 : sl a 13 = .pointer (some ⟨g9, 0, none⟩) := hi 13 (by decide)
      refine ite_y (wanted_yes rfl rfl (by have hz : a.tmps.size = 141 := hs; rw [hz]; decide) tg) (wp_val (.pointer (some ⟨g9, 3, none⟩)) ?_ ?_)
      · simp only [execOp, eval_tmp, eval_const, t13]; simp [go_sem]
      · exact ⟨_, rfl, Below.refl _ _, rfl⟩
    · intro a W hb0 hs hp hi; have hb := undrew hb0; clear hb0
      have tg : sl a 66 = .bool false := hp 7 (by decide)
      have tt : sl a 67 = .pointer (some ⟨g9, 3, none⟩) := hp 8 (by decide)
      have dd := (hb.cell (p := ⟨g9, 3, none⟩) (lt_of_cell b3)).trans b3
      refine ite_y (wanted_yes rfl rfl (by have hz : a.tmps.size = 141 := hs; rw [hz]; decide) tg) (wp_val (.int .i64 (ss : Nat)) ?_ ?_)
      · simp only [execOp, eval_tmp, tt]; simp [go_sem, dd]
      · exact ⟨_, rfl, Below.refl _ _, rfl⟩
    · intro a W hb0 hs hp hi; have hb := undrew hb0; clear hb0
      have tg : sl a 66 = .bool false := hp 7 (by decide)
      have t68 : sl a 68 = .int .i64 (ss : Nat) := hp 9 (by decide)
      refine ite_y (wanted_yes rfl rfl (by have hz : a.tmps.size = 141 := hs; rw [hz]; decide) tg) (wp_val (.bool ee) ?_ ?_)
      · simp only [execOp, eval_tmp, eval_const, t68]; simp [go_sem, hs1]
      · exact ⟨_, rfl, Below.refl _ _, rfl⟩
    · intro a W hb0 hs hp hi; have hb := undrew hb0; clear hb0
      have tg : sl a 66 = .bool false := hp 7 (by decide)
      have tt : sl a 11 = .pointer (some ⟨gp, 0, none⟩) := hi 11 (by decide)
      have dd0 := (hb.cell (p := ⟨gp, 0, none⟩) (lt_of_cell z0)).trans z0
      have dd1 := (hb.cell (p := ⟨gp, 1, none⟩) (lt_of_cell z1)).trans z1
      have dd2 := (hb.cell (p := ⟨gp, 2, none⟩) (lt_of_cell z2)).trans z2
      have dd3 := (hb.cell (p := ⟨gp, 3, none⟩) (lt_of_cell z3)).trans z3
      refine ite_y (wanted_yes rfl rfl (by have hz : a.tmps.size = 141 := hs; rw [hz]; decide) tg) (wp_val (.agg #[.int .i64 (L : Nat), .int .i64 (t : Nat), .int .i64 (k : Nat), .int .u32 (D : Nat)]) ?_ ?_)
      · simp only [execOp, eval_tmp, tt]; simp [go_sem, dd0, dd1, dd2, dd3]
      · exact ⟨_, rfl, Below.refl _ _, rfl⟩
    · intro a W hb0 hs hp hi; have hb := undrew hb0; clear hb0
      have tg : sl a 66 = .bool false := hp 7 (by decide)
      have t3 : sl a 3 = .slice p1 n1 c1 := hi 3 (by decide)
      exact ite_y (wanted_yes rfl rfl (by have hz : a.tmps.size = 141 := hs; rw [hz]; decide) tg) (wp_val (sl a 3) rfl ⟨_, rfl, Below.refl _ _, t3⟩)
    · intro a W hb0 hs hp hi; have hb := undrew hb0; clear hb0
      have tg : sl a 66 = .bool false := hp 7 (by decide)
      have t4 : sl a 4 = .slice p2 n2 c2 := hi 4 (by decide)
      exact ite_y (wanted_yes rfl rfl (by have hz : a.tmps.size = 141 := hs; rw [hz]; decide) tg) (wp_val (sl a 4) rfl ⟨_, rfl, Below.refl _ _, t4⟩)
    · intro a W hb0 hs hp hi; have hb := undrew hb0; clear hb0
      have tg : sl a 66 = .bool false := hp 7 (by decide)
      have t70 : sl a 70 = .agg #[.int .i64 (L : Nat), .int .i64 (t : Nat), .int .i64 (k : Nat), .int .u32 (D : Nat)] := hp 11 (by decide)
      have t71 : sl a 71 = .slice p1 n1 c1 := hp 12 (by decide)
      have t72 : sl a 72 = .slice p2 n2 c2 := hp 13 (by decide)
      refine ite_y (wanted_yes rfl rfl (by have hz : a.tmps.size = 141 := hs; rw [hz]; decide) tg) (wp_enter 43 #[.agg #[.int .i64 (L : Nat), .int .i64 (t : Nat), .int .i64 (k : Nat), .int .u32 (D : Nat)], .slice p1 n1 c1, .slice p2 n2 c2] ?_ (HEn.out _ (bl HB2.out hb HB2.out.size)) ?_)
      · simp only [execOp, resolve, List.map_toArray, List.map, eval_tmp, eval_func, eval_const, t70, t71, t72]; simp [go_sem]
      · rintro e W' ⟨rfl, hw⟩; exact ⟨_, rfl, _, rfl, hw, rfl⟩
    · intro a W hb0 hs hp hi; have hb := undrew hb0; clear hb0
      have tg : sl a 66 = .bool false := hp 7 (by decide)
      have t69 : sl a 69 = .bool ee := hp 10 (by decide)
      have t73 : sl a 73 = .bool ee := hp 14 (by decide)
      refine ite_y (wanted_yes rfl rfl (by have hz : a.tmps.size = 141 := hs; rw [hz]; decide) tg) (wp_val (.bool false) ?_ ?_)
      · simp only [execOp, eval_tmp, eval_const, t69, t73]; simp [go_sem]
      · exact ⟨_, rfl, Below.refl _ _, rfl⟩
    · intro a W hb0 hs hp hi; have hb := undrew hb0; clear hb0
      have t66 : sl a 66 = .bool false := hp 7 (by decide)
      have t74 : sl a 74 = .bool false := hp 15 (by decide)
      refine ite_y rfl (wp_val (.bool false) ?_ ?_)
      · simp only [execOp, eval_tmp, eval_const, t66, t74]; simp [go_sem]
      · exact ⟨_, rfl, Below.refl _ _, rfl⟩
  intro a w3 hb hs hd hI ht
  have ha := act_is [59, 60, 61, 62, 63, 64, 65, 66, 67, 68, 69, 70, 71, 72, 73, 74, 75] hs hd ht (by decide)
  have t75 : sl a 75 = .bool false := hI 16 (by decide)
  simp only [List.foldl, t75] at ha
  generalize sl a 59 = u59 at ha
  generalize sl a 60 = u60 at ha
  generalize sl a 61 = u61 at ha
  generalize sl a 62 = u62 at ha
  generalize sl a 63 = u63 at ha
  generalize sl a 64 = u64 at ha
  generalize sl a 65 = u65 at ha
  generalize sl a 66 = u66 at ha
  generalize sl a 67 = u67 at ha
  generalize sl a 68 = u68 at ha
  generalize sl a 69 = u69 at ha
  generalize sl a 70 = u70 at ha
  generalize sl a 71 = u71 at ha
  generalize sl a 72 = u72 at ha
  generalize sl a 73 = u73 at ha
  generalize sl a 74 = u74 at ha
  simp only [Act.put, List.setIfInBounds_toArray, List.set_cons_zero, List.set_cons_succ] at ha
  rw [ha]
  clear ha hI ht
  have HB3 := Lib.hid (bl HB2.out hb HB2.out.size)
  have HKP3 := Lib.hid ((hb.block _ (lt_of_block HKP.out)).trans HKP.out)
  have HD3 := Lib.hid (HD.out.keep hb)
  have HV3 := Lib.hid (HVS.out.keep hb)
  clear hb HB2 HKP HD HVS z0 z1 z2 z3 b0 b1 b2 b3 b4
  obtain ⟨b0, b1, b2, b3, b4⟩ := cells_five HD3.out.1
  go_wp2
  go_loopw [15, 79] (fun nv iv wr => ∃ i : Nat, i ≤ m ∧ iv = .int .i64 (i : Nat) ∧ nv = .int .i64 (N i : Nat) ∧ Hid (Below w.heap.size w wr) ∧ Hid (wr.heap[gp]? = some (.cells #[.int .i64 (L : Nat), .int .i64 (t : Nat), .int .i64 (k : Nat), .int .u32 (D : Nat)] 27 (0, 0))) ∧ Hid (Held w.heap.size g9 m0 m rr ss q9 c9 q10 n10 c10 SV OB wr) ∧ Hid (Sl2 wr q5 h c5 V)) (fun _ iv _ => m - (intOf iv).toNat)
  case atStart => exact ⟨0, Nat.zero_le _, rfl, by rw [HN0.out]; rfl, HB3.out, HKP3.out, HD3.out, HV3.out⟩
  case round =>
    obtain ⟨i, hi, rfl, rfl, HB, HP, HH, HV⟩ := hrel
    clear HB3 HKP3 HD3 HV3 b0 b1 b2 b3 b4
    by_cases hlt : i < m
    · as_aux_lemma =>
        have hlt' : (i : Int) < (m : Int) := by omega
        obtain ⟨E, r, s, n', e1, e2, e3, e4⟩ := HSTP.out i hlt
        obtain ⟨gq, e9⟩ : ∃ gq, q9 = some ⟨gq, 0, none⟩ := by
          rcases HH.out.2.1.2 with ⟨h2, h3⟩ | ⟨g, cap, cur, hv, _⟩
          · omega
          · cases hv; exact ⟨_, rfl⟩
        subst e9
        have hat : ∀ j, j < 3 → wr.cell? ⟨gq, i * 3 + j, none⟩ = (stepV k t D came i)[j]? := fun j hj => by
          rw [HH.out.2.1.cellAt (i * 3 + j) (by omega)]
          exact HSV.out i j hlt hj
        rw [e1] at hat
        have s0 := hat 0 (by decide)
        have s1 := hat 1 (by decide)
        have s2' := hat 2 (by decide)
        simp only [Nat.add_zero, List.getElem?_cons_zero, List.getElem?_cons_succ] at s0 s1 s2'
        have hn' : n' ≤ h := by rw [← e2]; exact HNL.out (i + 1) (by omega)
        have HNX : Hid (N (i + 1) = n') := e2
        have HNH := Lib.hid hn'
        have HR3 := Lib.hid e3
        have hnh' : ¬ (h : Int) < (n' : Int) := by omega
        have hvc : (n' : Int) ≤ (c5 : Int) := by have := HV.out.le; omega
        obtain ⟨z0, z1, z2, z3⟩ := cells_four HP.out
        have a0 : ∀ o', (wr.alloc o').cell? ⟨gp, 0, none⟩ = _ := fun _ => calloc z0
        have a1 : ∀ o', (wr.alloc o').cell? ⟨gp, 1, none⟩ = _ := fun _ => calloc z1
        have a2 : ∀ o', (wr.alloc o').cell? ⟨gp, 2, none⟩ = _ := fun _ => calloc z2
        have a3 : ∀ o', (wr.alloc o').cell? ⟨gp, 3, none⟩ = _ := fun _ => calloc z3
        clear hat e1 e2 e3 hi
        have hnb : n' ≤ 9223372036854775807 := by have := HV.out.bound; omega
        have k17 : (wr.alloc (.cells #[.int .i64 E, .int .i64 (r : Nat), .int .i64 (s : Nat)] 90 (0, 0))).heap[wr.heap.size]? = some (.cells #[.int .i64 E, .int .i64 (r : Nat), .int .i64 (s : Nat)] 90 (0, 0)) := hnew rfl
        have HBa := Lib.hid (al (o := (.cells #[.int .i64 E, .int .i64 (r : Nat), .int .i64 (s : Nat)] 90 (0, 0))) HB.out HB.out.size)
        have baa : Below wr.heap.size wr (wr.alloc (.cells #[.int .i64 E, .int .i64 (r : Nat), .int .i64 (s : Nat)] 90 (0, 0))) := al (Below.refl _ _) (Nat.le_refl _)
        have HPa := Lib.hid ((baa.block _ (lt_of_block HP.out)).trans HP.out)
        have HHa := Lib.hid (HH.out.keep baa)
        have HVa := Lib.hid (HV.out.keep baa)
        have hrr1 : ((r : Int) != (r : Int)) = false := bne_self_eq_false _
        have HLT := Lib.hid hlt
        clear hlt hn' HB HP HH HV baa
        rcases e4 with ⟨hE, hn2⟩ | ⟨hE, hn2⟩
        · have hE' : (E == 0) = true := beq_iff_eq.2 hE
          have hn3 : (N i : Int) + 1 = (n' : Int) := by omega
          clear hE hn2
          go_wp2
          obtain ⟨g17, hg17⟩ : ∃ g17, g17 = wr.heap.size := ⟨_, rfl⟩
          rw [← hg17] at k17 ⊢
          generalize wr.alloc (.cells #[.int .i64 E, .int .i64 (r : Nat), .int .i64 (s : Nat)] 90 (0, 0)) = wa at *
          clear hg17 a0 a1 a2 a3 z0 z1 z2 z3
          obtain ⟨z0, z1, z2, z3⟩ := cells_four HPa.out
          refine wp_region_slip (fun ix => ([.val (.pointer (some ⟨gp, 2, none⟩)), .val (.int .i64 (k : Nat)), .val (.slice q5 h c5), .val (.int .i64 n'), .val (.slice q5 n' c5), (ShGrT n' k (V.take n').flatten), (ShGrT n' k (V.take n').flatten), (ShGr n' k (V.take n').flatten), (.val (.int .i64 0)), (ShNew 75 wa.heap.size #[.int .i64 0, .int .i64 0, .slice none 0 0]), .any, .any][ix]?).getD (.any)) 141 10 8 92 100 (.int .i64 0) rfl (by kernel_rfl) (by decide +kernel) (by decide +kernel) (by decide +kernel) _ rfl rfl rfl (by decide) rfl (fun a x w h => run_extract_two _ rfl h) (by decide) ?_ ?_
          · refine ⟨?_, ?_, ?_, ?_, ?_, ?_, ?_, ?_, ?_, ?_, trivial⟩
            · intro a W hb0 hs hp hi; have hb := undrew hb0; clear hb0
              have t11 : sl a 11 = .pointer (some ⟨gp, 0, none⟩) := hi 11 (by decide)
              refine ite_y rfl (wp_val (.pointer (some ⟨gp, 2, none⟩)) ?_ ?_)
              · simp only [execOp, eval_tmp, eval_const, t11]; simp [go_sem]
              · exact ⟨_, rfl, Below.refl _ _, rfl⟩
            · intro a W hb0 hs hp hi; have hb := undrew hb0; clear hb0
              have tt : sl a 93 = .pointer (some ⟨gp, 2, none⟩) := hp 0 (by decide)
              have dd := (hb.cell (p := ⟨gp, 2, none⟩) (lt_of_cell z2)).trans z2
              refine ite_y rfl (wp_val (.int .i64 (k : Nat)) ?_ ?_)
              · simp only [execOp, eval_tmp, tt]; simp [go_sem, dd]
              · exact ⟨_, rfl, Below.refl _ _, rfl⟩
            · intro a W hb0 hs hp hi; have hb := undrew hb0; clear hb0
              have t14 : sl a 14 = .slice q5 h c5 := hi 14 (by decide)
              exact ite_y rfl (wp_val (sl a 14) rfl ⟨_, rfl, Below.refl _ _, t14⟩)
            · intro a W hb0 hs hp hi; have hb := undrew hb0; clear hb0
              have t15 : sl a 15 = .int .i64 n' := hi 15 (by decide)
              exact ite_y rfl (wp_val (sl a 15) rfl ⟨_, rfl, Below.refl _ _, t15⟩)
            · intro a W hb0 hs hp hi; have hb := undrew hb0; clear hb0
              have t95 : sl a 95 = .slice q5 h c5 := hp 2 (by decide)
              have t96 : sl a 96 = .int .i64 n' := hp 3 (by decide)
              have v95 : a.tmps[95]?.getD undef = sl a 95 := by simp [sl]
              have v96 : a.tmps[96]?.getD undef = sl a 96 := by simp [sl]
              rw [t95] at v95
              rw [t96] at v96
              refine ite_y rfl (wp_val (.slice q5 n' c5) ?_ ?_)
              · simp only [execOp, eval_tmp, eval_const, t95, t96]; simp [go_sem, v95, v96, hvc]
              · exact ⟨_, rfl, Below.refl _ _, rfl⟩
            · intro a W hb0 hs hp hi; have hb := undrew hb0; clear hb0
              have t94 : sl a 94 = .int .i64 (k : Nat) := hp 1 (by decide)
              have t97 : sl a 97 = .slice q5 n' c5 := hp 4 (by decide)
              refine ite_y rfl (wp_enter 33 #[.int .i64 (k : Nat), .slice q5 n' c5] ?_ (HOf2.out W q5 c5 n' HNH.out (HVa.out.keep hb)) ?_)
              · simp only [execOp, resolve, List.map_toArray, List.map, eval_tmp, eval_func, eval_const, t94, t97]; simp [go_sem]
              · rintro e W' ⟨q7, n7, c7, e7, rfl, ho, hw⟩; exact ⟨_, rfl, _, rfl, hw, q7, n7, c7, e7, rfl, Sl.of_owns ho⟩
            · intro a W hb0 hs hp hi; have hb := undrew hb0; clear hb0
              exact ite_y rfl (wp_val (sl a 98) rfl ⟨_, rfl, Below.refl _ _, hp 5 (by decide)⟩)
            · intro a W hb0 hs hp hi; have hb := undrew hb0; clear hb0
              have tt : GrTT n' k (V.take n').flatten (sl a 92) W := hp 6 (by decide)
              obtain ⟨q7, n7, c7, e7, tt, s7⟩ := tt
              refine ite_y rfl (wp_val (.agg #[.int .i64 n', .int .i64 k, .slice q7 n7 c7]) ?_ ?_)
              · simp only [execOp, eval_tmp, tt]; rfl
              · exact ⟨_, rfl, Below.refl _ _, q7, n7, c7, e7, rfl, s7⟩
            · intro a W hb0 hs hp hi; have hb := undrew hb0; clear hb0
              have tt : GrTT n' k (V.take n').flatten (sl a 92) W := hp 6 (by decide)
              obtain ⟨q7, n7, c7, e7, tt, s7⟩ := tt
              refine ite_y rfl (wp_val (.int .i64 0) ?_ ?_)
              · simp only [execOp, eval_tmp, tt]; rfl
              · exact ⟨_, rfl, Below.refl _ _, rfl⟩
            · intro a W hb0 hs hp hi; have hb := undrew hb0; clear hb0
              refine ite_y rfl (wp_val' (w' := W.alloc (.cells #[.int .i64 0, .int .i64 0, .slice none 0 0] 75)) (.pointer (some ⟨W.heap.size, 0, none⟩)) ?_ ?_)
              · simp only [execOp]; simp [go_sem]
              · exact ⟨_, rfl, al (Below.refl _ _) (Nat.le_refl _), _, rfl, hb.size, hnew rfl⟩
          intro a w3 o ho hb hs hd hI ht
          simp at ho; subst ho
          have y3 := hI 9 (by decide) (by decide)
          obtain ⟨g3, t18, hg3, hh3⟩ := y3
          have y18 := hI 7 (by decide) (by decide)
          obtain ⟨q8, n8, c8, e18, t99, s18⟩ := y18
          have y9 := hI 6 (by decide) (by decide)
          obtain ⟨_, _, _, _, t92x, _⟩ := y9
          refine ⟨⟨_, t92x⟩, ?_⟩
          refine wp_store_row 75 (.tmp 18) (.tmp 99) rfl g3 #[.int .i64 n', .int .i64 k, .slice q8 n8 c8] (by rw [eval_tmp]; exact t18) (by rw [eval_tmp]; exact t99) _ _ hh3 info_grid rfl (by simp [Value.oneCell']) ?_
          refine ⟨rfl, fun ab hbs hbd hbt hbu => ?_⟩
          have ha := act_is [93, 94, 95, 96, 97, 98, 92, 99, 100, 18, 19] hbs hbd (fun t h => (hbt t (fun e => by subst e; revert h; decide)).trans (ht t h)) (by decide)
          have s18 := (hbt 18 (by decide)).trans t18
          simp only [List.foldl, hbu, s18] at ha
          generalize sl ab 93 = u93 at ha
          generalize sl ab 94 = u94 at ha
          generalize sl ab 95 = u95 at ha
          generalize sl ab 96 = u96 at ha
          generalize sl ab 97 = u97 at ha
          generalize sl ab 98 = u98 at ha
          generalize sl ab 92 = u92 at ha
          generalize sl ab 99 = u99 at ha
          generalize sl ab 19 = u19 at ha
          simp only [Act.put, List.setIfInBounds_toArray, List.set_cons_zero, List.set_cons_succ] at ha
          rw [ha]; clear ha hbu hbt hbs hbd hI ht hs hd s18
          simp only [List.drop_succ_cons, List.drop_zero]
          have HB4 : Hid (Below w.heap.size w (w3.setRow g3 #[.int .i64 n', .int .i64 k, .slice q8 n8 c8])) := below_row (bl HBa.out hb HBa.out.size) (by have := HBa.out.size; omega)
          have HS4 : Hid (Sl B8 (w3.setRow g3 #[.int .i64 n', .int .i64 k, .slice q8 n8 c8]) q8 n8 c8 (V.take n').flatten) := sl_noByteRow s18 hh3 noByte3
          have hbx : (w3.setRow g3 #[.int .i64 n', .int .i64 k, .slice q8 n8 c8]).heap[g3]? = _ := hrs hh3
          have hbw : Below wa.heap.size wa (w3.setRow g3 #[.int .i64 n', .int .i64 k, .slice q8 n8 c8]) := below_row hb (by omega)
          have HP4 := Lib.hid ((hbw.block _ (lt_of_block HPa.out)).trans HPa.out)
          have HH4 := Lib.hid (HHa.out.keep hbw)
          have HV4 := Lib.hid (HVa.out.keep hbw)
          have k174 := (hbw.block _ (lt_of_block k17)).trans k17
          generalize w3.setRow g3 #[.int .i64 n', .int .i64 k, .slice q8 n8 c8] = w4 at *
          obtain ⟨d0, d1, d2⟩ := cells3 hbx
          obtain ⟨f0, f1, f2⟩ := cells3 k174
          have HEN := Lib.hid e18
          clear s18 e18 hh3 hb hbw hbx k17 k174 z0 z1 z2 z3 t18 t92x HBa HPa HHa HVa
          go_wp2
          refine wp_region_shapes (fun ix => ([.val (.int .i64 0), .val (.bool false), .val (.bool false), .val (.pointer (some ⟨g17, 1, none⟩)), .val (.int .i64 (r : Nat)), .val (.agg #[.int .i64 n', .int .i64 k, .slice q8 n8 c8]), .val (.int .i64 (r : Nat)), .val (.bool false), .val (.bool false)][ix]?).getD (.any)) 141 rfl (by kernel_rfl) (by decide +kernel) (by decide +kernel) (by decide +kernel) ?_ ?_
          · refine ⟨?_, ?_, ?_, ?_, ?_, ?_, ?_, ?_, ?_, trivial⟩
            · intro a W hb0 hs hp hi; have hb := undrew hb0; clear hb0
              have t19 : sl a 19 = .int .i64 0 := hi 19 (by decide)
              exact ite_y rfl (wp_val (sl a 19) rfl ⟨_, rfl, Below.refl _ _, t19⟩)
            · intro a W hb0 hs hp hi; have hb := undrew hb0; clear hb0
              have t101 : sl a 101 = .int .i64 0 := hp 0 (by decide)
              refine ite_y rfl (wp_val (.bool false) ?_ ?_)
              · simp only [execOp, eval_tmp, eval_const, t101]; simp [go_sem]
              · exact ⟨_, rfl, Below.refl _ _, rfl⟩
            · intro a W hb0 hs hp hi; have hb := undrew hb0; clear hb0
              have t102 : sl a 102 = .bool false := hp 1 (by decide)
              exact ite_y rfl (wp_val (sl a 102) rfl ⟨_, rfl, Below.refl _ _, t102⟩)
            · intro a W hb0 hs hp hi; have hb := undrew hb0; clear hb0
              have tg : sl a 103 = .bool false := hp 2 (by decide)
              have t17 : sl a 17 = .pointer (some ⟨g17, 0, none⟩) := hi 17 (by decide)
              refine ite_y (wanted_yes rfl rfl (by have hz : a.tmps.size = 141 := hs; rw [hz]; decide) tg) (wp_val (.pointer (some ⟨g17, 1, none⟩)) ?_ ?_)
              · simp only [execOp, eval_tmp, eval_const, t17]; simp [go_sem]
              · exact ⟨_, rfl, Below.refl _ _, rfl⟩
            · intro a W hb0 hs hp hi; have hb := undrew hb0; clear hb0
              have tg : sl a 103 = .bool false := hp 2 (by decide)
              have tt : sl a 104 = .pointer (some ⟨g17, 1, none⟩) := hp 3 (by decide)
              have dd := (hb.cell (p := ⟨g17, 1, none⟩) (lt_of_cell f1)).trans f1
              refine ite_y (wanted_yes rfl rfl (by have hz : a.tmps.size = 141 := hs; rw [hz]; decide) tg) (wp_val (.int .i64 (r : Nat)) ?_ ?_)
              · simp only [execOp, eval_tmp, tt]; simp [go_sem, dd]
              · exact ⟨_, rfl, Below.refl _ _, rfl⟩
            · intro a W hb0 hs hp hi; have hb := undrew hb0; clear hb0
              have tg : sl a 103 = .bool false := hp 2 (by decide)
              have tt : sl a 18 = .pointer (some ⟨g3, 0, none⟩) := hi 18 (by decide)
              have dd0 := (hb.cell (p := ⟨g3, 0, none⟩) (lt_of_cell d0)).trans d0
              have dd1 := (hb.cell (p := ⟨g3, 1, none⟩) (lt_of_cell d1)).trans d1
              have dd2 := (hb.cell (p := ⟨g3, 2, none⟩) (lt_of_cell d2)).trans d2
              refine ite_y (wanted_yes rfl rfl (by have hz : a.tmps.size = 141 := hs; rw [hz]; decide) tg) (wp_val (.agg #[.int .i64 n', .int .i64 k, .slice q8 n8 c8]) ?_ ?_)
              · simp only [execOp, eval_tmp, tt]; simp [go_sem, dd0, dd1, dd2]
              · exact ⟨_, rfl, Below.refl _ _, rfl⟩
            · intro a W hb0 hs hp hi; have hb := undrew hb0; clear hb0
              have tg : sl a 103 = .bool false := hp 2 (by decide)
              have t106 : sl a 106 = .agg #[.int .i64 n', .int .i64 k, .slice q8 n8 c8] := hp 5 (by decide)
              refine ite_y (wanted_yes rfl rfl (by have hz : a.tmps.size = 141 := hs; rw [hz]; decide) tg) (wp_enter 34 #[.agg #[.int .i64 n', .int .i64 k, .slice q8 n8 c8]] ?_ (by have := HRk.out _ _ _ _ _ HNH.out HEN.out (HS4.out.keep hb); rw [← HR3.out] at this; exact this) ?_)
              · simp only [execOp, resolve, List.map_toArray, List.map, eval_tmp, eval_func, eval_const, t106]; simp [go_sem]
              · rintro e W' ⟨rfl, hw⟩; exact ⟨_, rfl, _, rfl, hw, rfl⟩
            · intro a W hb0 hs hp hi; have hb := undrew hb0; clear hb0
              have tg : sl a 103 = .bool false := hp 2 (by decide)
              have t105 : sl a 105 = .int .i64 (r : Nat) := hp 4 (by decide)
              have t107 : sl a 107 = .int .i64 (r : Nat) := hp 6 (by decide)
              refine ite_y (wanted_yes rfl rfl (by have hz : a.tmps.size = 141 := hs; rw [hz]; decide) tg) (wp_val (.bool false) ?_ ?_)
              · simp only [execOp, eval_tmp, eval_const, t105, t107]; simp [go_sem, hrr1]
              · exact ⟨_, rfl, Below.refl _ _, rfl⟩
            · intro a W hb0 hs hp hi; have hb := undrew hb0; clear hb0
              have t103 : sl a 103 = .bool false := hp 2 (by decide)
              have t108 : sl a 108 = .bool false := hp 7 (by decide)
              refine ite_y rfl (wp_val (.bool false) ?_ ?_)
              · simp only [execOp, eval_tmp, eval_const, t103, t108]; simp [go_sem]
              · exact ⟨_, rfl, Below.refl _ _, rfl⟩
          intro a w5 hb hs hd hI ht
          have ha := act_is [101, 102, 103, 104, 105, 106, 107, 108, 109] hs hd ht (by decide)
          have t109 : sl a 109 = .bool false := hI 8 (by decide)
          simp only [List.foldl, t109] at ha
          generalize sl a 101 = u101 at ha
          generalize sl a 102 = u102 at ha
          generalize sl a 103 = u103 at ha
          generalize sl a 104 = u104 at ha
          generalize sl a 105 = u105 at ha
          generalize sl a 106 = u106 at ha
          generalize sl a 107 = u107 at ha
          generalize sl a 108 = u108 at ha
          simp only [Act.put, List.setIfInBounds_toArray, List.set_cons_zero, List.set_cons_succ] at ha
          rw [ha]
          clear ha hI ht
          have HB5 := Lib.hid (bl HB4.out hb HB4.out.size)
          have HP5 := Lib.hid ((hb.block _ (lt_of_block HP4.out)).trans HP4.out)
          have HH5 := Lib.hid (HH4.out.keep hb)
          have HV5 := Lib.hid (HV4.out.keep hb)
          clear hb HB4 HP4 HH4 HV4
          go_wp2
          go_roundw
          case rel => exact ⟨i + 1, by have := HLT.out; omega, by go_num, by rw [HNX.out], HB5.out, HP5.out, HH5.out, HV5.out⟩
          case measure => simp [intOf]; have := HLT.out; omega
        · have hE' : (E == 0) = false := beq_eq_false_iff_ne.2 hE
          rw [← hn2]
          clear hE hn2
          go_wp2
          obtain ⟨g17, hg17⟩ : ∃ g17, g17 = wr.heap.size := ⟨_, rfl⟩
          rw [← hg17] at k17 ⊢
          generalize wr.alloc (.cells #[.int .i64 E, .int .i64 (r : Nat), .int .i64 (s : Nat)] 90 (0, 0)) = wa at *
          clear hg17 a0 a1 a2 a3 z0 z1 z2 z3
          obtain ⟨z0, z1, z2, z3⟩ := cells_four HPa.out
          refine wp_region_slip (fun ix => ([.val (.pointer (some ⟨gp, 2, none⟩)), .val (.int .i64 (k : Nat)), .val (.slice q5 h c5), .val (.int .i64 n'), .val (.slice q5 n' c5), (ShGrT n' k (V.take n').flatten), (ShGrT n' k (V.take n').flatten), (ShGr n' k (V.take n').flatten), (.val (.int .i64 0)), (ShNew 75 wa.heap.size #[.int .i64 0, .int .i64 0, .slice none 0 0]), .any, .any][ix]?).getD (.any)) 141 10 8 92 100 (.int .i64 0) rfl (by kernel_rfl) (by decide +kernel) (by decide +kernel) (by decide +kernel) _ rfl rfl rfl (by decide) rfl (fun a x w h => run_extract_two _ rfl h) (by decide) ?_ ?_
          · refine ⟨?_, ?_, ?_, ?_, ?_, ?_, ?_, ?_, ?_, ?_, trivial⟩
            · intro a W hb0 hs hp hi; have hb := undrew hb0; clear hb0
              have t11 : sl a 11 = .pointer (some ⟨gp, 0, none⟩) := hi 11 (by decide)
              refine ite_y rfl (wp_val (.pointer (some ⟨gp, 2, none⟩)) ?_ ?_)
              · simp only [execOp, eval_tmp, eval_const, t11]; simp [go_sem]
              · exact ⟨_, rfl, Below.refl _ _, rfl⟩
            · intro a W hb0 hs hp hi; have hb := undrew hb0; clear hb0
              have tt : sl a 93 = .pointer (some ⟨gp, 2, none⟩) := hp 0 (by decide)
              have dd := (hb.cell (p := ⟨gp, 2, none⟩) (lt_of_cell z2)).trans z2
              refine ite_y rfl (wp_val (.int .i64 (k : Nat)) ?_ ?_)
              · simp only [execOp, eval_tmp, tt]; simp [go_sem, dd]
              · exact ⟨_, rfl, Below.refl _ _, rfl⟩
            · intro a W hb0 hs hp hi; have hb := undrew hb0; clear hb0
              have t14 : sl a 14 = .slice q5 h c5 := hi 14 (by decide)
              exact ite_y rfl (wp_val (sl a 14) rfl ⟨_, rfl, Below.refl _ _, t14⟩)
            · intro a W hb0 hs hp hi; have hb := undrew hb0; clear hb0
              have t15 : sl a 15 = .int .i64 n' := hi 15 (by decide)
              exact ite_y rfl (wp_val (sl a 15) rfl ⟨_, rfl, Below.refl _ _, t15⟩)
            · intro a W hb0 hs hp hi; have hb := undrew hb0; clear hb0
              have t95 : sl a 95 = .slice q5 h c5 := hp 2 (by decide)
              have t96 : sl a 96 = .int .i64 n' := hp 3 (by decide)
              have v95 : a.tmps[95]?.getD undef = sl a 95 := by simp [sl]
              have v96 : a.tmps[96]?.getD undef = sl a 96 := by simp [sl]
              rw [t95] at v95
              rw [t96] at v96
              refine ite_y rfl (wp_val (.slice q5 n' c5) ?_ ?_)
              · simp only [execOp, eval_tmp, eval_const, t95, t96]; simp [go_sem, v95, v96, hvc]
              · exact ⟨_, rfl, Below.refl _ _, rfl⟩
            · intro a W hb0 hs hp hi; have hb := undrew hb0; clear hb0
              have t94 : sl a 94 = .int .i64 (k : Nat) := hp 1 (by decide)
              have t97 : sl a 97 = .slice q5 n' c5 := hp 4 (by decide)
              refine ite_y rfl (wp_enter 33 #[.int .i64 (k : Nat), .slice q5 n' c5] ?_ (HOf2.out W q5 c5 n' HNH.out (HVa.out.keep hb)) ?_)
              · simp only [execOp, resolve, List.map_toArray, List.map, eval_tmp, eval_func, eval_const, t94, t97]; simp [go_sem]
              · rintro e W' ⟨q7, n7, c7, e7, rfl, ho, hw⟩; exact ⟨_, rfl, _, rfl, hw, q7, n7, c7, e7, rfl, Sl.of_owns ho⟩
            · intro a W hb0 hs hp hi; have hb := undrew hb0; clear hb0
              exact ite_y rfl (wp_val (sl a 98) rfl ⟨_, rfl, Below.refl _ _, hp 5 (by decide)⟩)
            · intro a W hb0 hs hp hi; have hb := undrew hb0; clear hb0
              have tt : GrTT n' k (V.take n').flatten (sl a 92) W := hp 6 (by decide)
              obtain ⟨q7, n7, c7, e7, tt, s7⟩ := tt
              refine ite_y rfl (wp_val (.agg #[.int .i64 n', .int .i64 k, .slice q7 n7 c7]) ?_ ?_)
              · simp only [execOp, eval_tmp, tt]; rfl
              · exact ⟨_, rfl, Below.refl _ _, q7, n7, c7, e7, rfl, s7⟩
            · intro a W hb0 hs hp hi; have hb := undrew hb0; clear hb0
              have tt : GrTT n' k (V.take n').flatten (sl a 92) W := hp 6 (by decide)
              obtain ⟨q7, n7, c7, e7, tt, s7⟩ := tt
              refine ite_y rfl (wp_val (.int .i64 0) ?_ ?_)
              · simp only [execOp, eval_tmp, tt]; rfl
              · exact ⟨_, rfl, Below.refl _ _, rfl⟩
            · intro a W hb0 hs hp hi; have hb := undrew hb0; clear hb0
              refine ite_y rfl (wp_val' (w' := W.alloc (.cells #[.int .i64 0, .int .i64 0, .slice none 0 0] 75)) (.pointer (some ⟨W.heap.size, 0, none⟩)) ?_ ?_)
              · simp only [execOp]; simp [go_sem]
              · exact ⟨_, rfl, al (Below.refl _ _) (Nat.le_refl _), _, rfl, hb.size, hnew rfl⟩
          intro a w3 o ho hb hs hd hI ht
          simp at ho; subst ho
          have y3 := hI 9 (by decide) (by decide)
          obtain ⟨g3, t18, hg3, hh3⟩ := y3
          have y18 := hI 7 (by decide) (by decide)
          obtain ⟨q8, n8, c8, e18, t99, s18⟩ := y18
          have y9 := hI 6 (by decide) (by decide)
          obtain ⟨_, _, _, _, t92x, _⟩ := y9
          refine ⟨⟨_, t92x⟩, ?_⟩
          refine wp_store_row 75 (.tmp 18) (.tmp 99) rfl g3 #[.int .i64 n', .int .i64 k, .slice q8 n8 c8] (by rw [eval_tmp]; exact t18) (by rw [eval_tmp]; exact t99) _ _ hh3 info_grid rfl (by simp [Value.oneCell']) ?_
          refine ⟨rfl, fun ab hbs hbd hbt hbu => ?_⟩
          have ha := act_is [93, 94, 95, 96, 97, 98, 92, 99, 100, 18, 19] hbs hbd (fun t h => (hbt t (fun e => by subst e; revert h; decide)).trans (ht t h)) (by decide)
          have s18 := (hbt 18 (by decide)).trans t18
          simp only [List.foldl, hbu, s18] at ha
          generalize sl ab 93 = u93 at ha
          generalize sl ab 94 = u94 at ha
          generalize sl ab 95 = u95 at ha
          generalize sl ab 96 = u96 at ha
          generalize sl ab 97 = u97 at ha
          generalize sl ab 98 = u98 at ha
          generalize sl ab 92 = u92 at ha
          generalize sl ab 99 = u99 at ha
          generalize sl ab 19 = u19 at ha
          simp only [Act.put, List.setIfInBounds_toArray, List.set_cons_zero, List.set_cons_succ] at ha
          rw [ha]; clear ha hbu hbt hbs hbd hI ht hs hd s18
          simp only [List.drop_succ_cons, List.drop_zero]
          have HB4 : Hid (Below w.heap.size w (w3.setRow g3 #[.int .i64 n', .int .i64 k, .slice q8 n8 c8])) := below_row (bl HBa.out hb HBa.out.size) (by have := HBa.out.size; omega)
          have HS4 : Hid (Sl B8 (w3.setRow g3 #[.int .i64 n', .int .i64 k, .slice q8 n8 c8]) q8 n8 c8 (V.take n').flatten) := sl_noByteRow s18 hh3 noByte3
          have hbx : (w3.setRow g3 #[.int .i64 n', .int .i64 k, .slice q8 n8 c8]).heap[g3]? = _ := hrs hh3
          have hbw : Below wa.heap.size wa (w3.setRow g3 #[.int .i64 n', .int .i64 k, .slice q8 n8 c8]) := below_row hb (by omega)
          have HP4 := Lib.hid ((hbw.block _ (lt_of_block HPa.out)).trans HPa.out)
          have HH4 := Lib.hid (HHa.out.keep hbw)
          have HV4 := Lib.hid (HVa.out.keep hbw)
          have k174 := (hbw.block _ (lt_of_block k17)).trans k17
          generalize w3.setRow g3 #[.int .i64 n', .int .i64 k, .slice q8 n8 c8] = w4 at *
          obtain ⟨d0, d1, d2⟩ := cells3 hbx
          obtain ⟨f0, f1, f2⟩ := cells3 k174
          have HEN := Lib.hid e18
          clear s18 e18 hh3 hb hbw hbx k17 k174 z0 z1 z2 z3 t18 t92x HBa HPa HHa HVa
          go_wp2
          refine wp_region_shapes (fun ix => ([.val (.int .i64 0), .val (.bool false), .val (.bool false), .val (.pointer (some ⟨g17, 1, none⟩)), .val (.int .i64 (r : Nat)), .val (.agg #[.int .i64 n', .int .i64 k, .slice q8 n8 c8]), .val (.int .i64 (r : Nat)), .val (.bool false), .val (.bool false)][ix]?).getD (.any)) 141 rfl (by kernel_rfl) (by decide +kernel) (by decide +kernel) (by decide +kernel) ?_ ?_
          · refine ⟨?_, ?_, ?_, ?_, ?_, ?_, ?_, ?_, ?_, trivial⟩
            · intro a W hb0 hs hp hi; have hb := undrew hb0; clear hb0
              have t19 : sl a 19 = .int .i64 0 := hi 19 (by decide)
              exact ite_y rfl (wp_val (sl a 19) rfl ⟨_, rfl, Below.refl _ _, t19⟩)
            · intro a W hb0 hs hp hi; have hb := undrew hb0; clear hb0
              have t101 : sl a 101 = .int .i64 0 := hp 0 (by decide)
              refine ite_y rfl (wp_val (.bool false) ?_ ?_)
              · simp only [execOp, eval_tmp, eval_const, t101]; simp [go_sem]
              · exact ⟨_, rfl, Below.refl _ _, rfl⟩
            · intro a W hb0 hs hp hi; have hb := undrew hb0; clear hb0
              have t102 : sl a 102 = .bool false := hp 1 (by decide)
              exact ite_y rfl (wp_val (sl a 102) rfl ⟨_, rfl, Below.refl _ _, t102⟩)
            · intro a W hb0 hs hp hi; have hb := undrew hb0; clear hb0
              have tg : sl a 103 = .bool false := hp 2 (by decide)
              have t17 : sl a 17 = .pointer (some ⟨g17, 0, none⟩) := hi 17 (by decide)
              refine ite_y (wanted_yes rfl rfl (by have hz : a.tmps.size = 141 := hs; rw [hz]; decide) tg) (wp_val (.pointer (some ⟨g17, 1, none⟩)) ?_ ?_)
              · simp only [execOp, eval_tmp, eval_const, t17]; simp [go_sem]
              · exact ⟨_, rfl, Below.refl _ _, rfl⟩
            · intro a W hb0 hs hp hi; have hb := undrew hb0; clear hb0
              have tg : sl a 103 = .bool false := hp 2 (by decide)
              have tt : sl a 104 = .pointer (some ⟨g17, 1, none⟩) := hp 3 (by decide)
              have dd := (hb.cell (p := ⟨g17, 1, none⟩) (lt_of_cell f1)).trans f1
              refine ite_y (wanted_yes rfl rfl (by have hz : a.tmps.size = 141 := hs; rw [hz]; decide) tg) (wp_val (.int .i64 (r : Nat)) ?_ ?_)
              · simp only [execOp, eval_tmp, tt]; simp [go_sem, dd]
              · exact ⟨_, rfl, Below.refl _ _, rfl⟩
            · intro a W hb0 hs hp hi; have hb := undrew hb0; clear hb0
              have tg : sl a 103 = .bool false := hp 2 (by decide)
              have tt : sl a 18 = .pointer (some ⟨g3, 0, none⟩) := hi 18 (by decide)
              have dd0 := (hb.cell (p := ⟨g3, 0, none⟩) (lt_of_cell d0)).trans d0
              have dd1 := (hb.cell (p := ⟨g3, 1, none⟩) (lt_of_cell d1)).trans d1
              have dd2 := (hb.cell (p := ⟨g3, 2, none⟩) (lt_of_cell d2)).trans d2
              refine ite_y (wanted_yes rfl rfl (by have hz : a.tmps.size = 141 := hs; rw [hz]; decide) tg) (wp_val (.agg #[.int .i64 n', .int .i64 k, .slice q8 n8 c8]) ?_ ?_)
              · simp only [execOp, eval_tmp, tt]; simp [go_sem, dd0, dd1, dd2]
              · exact ⟨_, rfl, Below.refl _ _, rfl⟩
            · intro a W hb0 hs hp hi; have hb := undrew hb0; clear hb0
              have tg : sl a 103 = .bool false := hp 2 (by decide)
              have t106 : sl a 106 = .agg #[.int .i64 n', .int .i64 k, .slice q8 n8 c8] := hp 5 (by decide)
              refine ite_y (wanted_yes rfl rfl (by have hz : a.tmps.size = 141 := hs; rw [hz]; decide) tg) (wp_enter 34 #[.agg #[.int .i64 n', .int .i64 k, .slice q8 n8 c8]] ?_ (by have := HRk.out _ _ _ _ _ HNH.out HEN.out (HS4.out.keep hb); rw [← HR3.out] at this; exact this) ?_)
              · simp only [execOp, resolve, List.map_toArray, List.map, eval_tmp, eval_func, eval_const, t106]; simp [go_sem]
              · rintro e W' ⟨rfl, hw⟩; exact ⟨_, rfl, _, rfl, hw, rfl⟩
            · intro a W hb0 hs hp hi; have hb := undrew hb0; clear hb0
              have tg : sl a 103 = .bool false := hp 2 (by decide)
              have t105 : sl a 105 = .int .i64 (r : Nat) := hp 4 (by decide)
              have t107 : sl a 107 = .int .i64 (r : Nat) := hp 6 (by decide)
              refine ite_y (wanted_yes rfl rfl (by have hz : a.tmps.size = 141 := hs; rw [hz]; decide) tg) (wp_val (.bool false) ?_ ?_)
              · simp only [execOp, eval_tmp, eval_const, t105, t107]; simp [go_sem, hrr1]
              · exact ⟨_, rfl, Below.refl _ _, rfl⟩
            · intro a W hb0 hs hp hi; have hb := undrew hb0; clear hb0
              have t103 : sl a 103 = .bool false := hp 2 (by decide)
              have t108 : sl a 108 = .bool false := hp 7 (by decide)
              refine ite_y rfl (wp_val (.bool false) ?_ ?_)
              · simp only [execOp, eval_tmp, eval_const, t103, t108]; simp [go_sem]
              · exact ⟨_, rfl, Below.refl _ _, rfl⟩
          intro a w5 hb hs hd hI ht
          have ha := act_is [101, 102, 103, 104, 105, 106, 107, 108, 109] hs hd ht (by decide)
          have t109 : sl a 109 = .bool false := hI 8 (by decide)
          simp only [List.foldl, t109] at ha
          generalize sl a 101 = u101 at ha
          generalize sl a 102 = u102 at ha
          generalize sl a 103 = u103 at ha
          generalize sl a 104 = u104 at ha
          generalize sl a 105 = u105 at ha
          generalize sl a 106 = u106 at ha
          generalize sl a 107 = u107 at ha
          generalize sl a 108 = u108 at ha
          simp only [Act.put, List.setIfInBounds_toArray, List.set_cons_zero, List.set_cons_succ] at ha
          rw [ha]
          clear ha hI ht
          have HB5 := Lib.hid (bl HB4.out hb HB4.out.size)
          have HP5 := Lib.hid ((hb.block _ (lt_of_block HP4.out)).trans HP4.out)
          have HH5 := Lib.hid (HH4.out.keep hb)
          have HV5 := Lib.hid (HV4.out.keep hb)
          clear hb HB4 HP4 HH4 HV4
          go_wp2
          go_roundw
          case rel => exact ⟨i + 1, by have := HLT.out; omega, by go_num, by rw [HNX.out], HB5.out, HP5.out, HH5.out, HV5.out⟩
          case measure => simp [intOf]; have := HLT.out; omega
    · obtain rfl : m = i := by omega
      rw [HNM.out]
      clear hlt hi
      obtain ⟨b0, b1, b2, b3, b4⟩ := cells_five HH.out.1
      obtain ⟨z0, z1, z2, z3⟩ := cells_four HP.out
      have hnn : ((h : Int) == (h : Int)) = true := beq_self_eq_true _
      cases ee with
      | true =>
        have hkm : (k : Int) ≤ (m0 : Int) := by have := HSE.out rfl; omega
        have HSA : Hid (Calls Tryz.prog 36 #[.slice q10 n10 c10, .slice q0 L c0] wr fun e w' => e = .returned (.bool true) ∧ Below wr.heap.size wr w') := by
          have hob := HOBJ.out
          rw [if_pos rfl] at hob
          have hsl := HH.out.2.2.sl
          rw [hob] at hsl
          have := Same_any q10 q0 n10 L c10 c0 o o wr hsl (H0.out.keep HB.out)
          rw [decide_eq_true rfl] at this; exact this
        go_wp2_with fail
        refine Calls.mono HSA.out ?_
        rintro e w5 ⟨rfl, hb⟩
        have HBZ := Lib.hid (bl HB.out hb HB.out.size)
        clear hb
        go_wp2
        go_ret
        exact ⟨rfl, HBZ.out⟩
      | false =>
        have hob := HOBJ.out
        rw [if_neg (by decide)] at hob
        obtain rfl : n10 = 0 := by have := HH.out.2.2.sl.len; rw [hob] at this; exact this.symm
        clear hob
        go_wp2
        go_ret
        exact ⟨rfl, HB.out⟩
end Go.Proofs.YtfbmdlfkipipfaaGreatDoor
namespace Go.Proofs.YtfbmdlfkipipfaaGreatDoor
open Go.RowKit Go.By Gf Go.Maps
end Go.Proofs.YtfbmdlfkipipfaaGreatDoor
namespace Go.Proofs.YtfbmdlfkipipfaaGreatDoor
open Go.RowKit Go.By Gf Go.Maps
set_option maxRecDepth 100000 in
set_option maxHeartbeats 4000000 in
/-- an object that no plan fits, or a plan that is too large, or too much, or what is not calm: nothing is asked -/
theorem TripArrives_out (q0 : Option Addr) (n0 c0 : Nat) (o : List UInt8) (s d : Int) (p1 : Option Addr) (n1 c1 : Nat) (srcs : List SrcD) (p2 : Option Addr) (n2 c2 : Nat) (acs : List ActD) (w : World) (h0 : Sl B8 w q0 n0 c0 o) (h1 : SlS w p1 n1 c1 srcs) (h2 : SlA w p2 n2 c2 acs) (hT : HalfT w)
    (hx : ¬ (fitS n0 s = 0 ∧ few22 n0 srcs acs = true ∧ small19 n0 s (needS n0 s) = true ∧ calmS acs = true)) :
    Calls Tryz.prog 7 #[.slice q0 n0 c0, .int .i64 s, .int .u32 d, .slice p1 n1 c1, .slice p2 n2 c2] w fun e w' => e = .returned (.bool true) ∧ Below w.heap.size w w' := by
  have hn0 := h0.bound
  have HT := Lib.hid hT
  have HOf := Lib.hid (fun w => POf_any (n0 : Int) s d w (by omega))
  by_cases hf : fitS n0 s = 0
  · have hof : ofS (n0 : Int) s d = .tuple #[.agg #[.int .i64 n0, .int .i64 s, .int .i64 (needS n0 s), .int .u32 d], .int .i64 0] := by unfold ofS; rw [if_pos hf]
    rw [hof] at HOf
    have HFew : Hid (∀ W, Below w.heap.size w W → Calls Tryz.prog 38 #[.slice q0 n0 c0, .slice p1 n1 c1, .slice p2 n2 c2] W fun e w' => e = .returned (.bool (few22 n0 srcs acs)) ∧ Below W.heap.size W w') := fun W hb => Few22_any q0 n0 c0 p1 n1 c1 srcs p2 n2 c2 acs W hn0 (h1.keep hb) (h2.keep hb)
    have HSm := Lib.hid (fun w => Small19_any (n0 : Int) s (needS n0 s) d w (by omega))
    by_cases hl : n2 ≤ 1000
    · have HCl : Hid (∀ W, Below w.heap.size w W → Calls Tryz.prog 41 #[.slice p2 n2 c2] W fun e w' => e = .returned (.bool (calmS acs)) ∧ Below W.heap.size W w') := fun W hb => calm_any p2 n2 c2 acs W (h2.keep hb) hl
      clear hT h0 h1 h2
      generalize few22 n0 srcs acs = F at *
      generalize small19 n0 s (needS n0 s) = S at *
      generalize calmS acs = C at *
      generalize needS n0 s = k at *
      cases F with
      | false =>
        clear hx hf hof hl HSm HCl
        go_enter Tryz.func7, Tryz.ntmps7
        go_wp2_with fail
        refine Calls.mono (awake22 _ HT.out) ?_
        rintro e wa ⟨rfl, hb⟩
        have HBa := Lib.hid hb
        clear hb
        go_wp2_with fail
        refine Calls.mono (HOf.out _) ?_
        rintro e wb ⟨rfl, hb⟩
        have HBb := Lib.hid (bl HBa.out hb HBa.out.size)
        clear hb HBa
        go_wp2_with fail
        have ba : Below wb.heap.size wb (wb.alloc (.cells #[.int .i64 (n0 : Nat), .int .i64 s, .int .i64 k, .int .u32 d] 27 (0, 0))) := al (Below.refl _ _) (Nat.le_refl _)
        have kp1 : (wb.alloc (.cells #[.int .i64 (n0 : Nat), .int .i64 s, .int .i64 k, .int .u32 d] 27 (0, 0))).heap[wb.heap.size]? = some (.cells #[.int .i64 (n0 : Nat), .int .i64 s, .int .i64 k, .int .u32 d] 27 (0, 0)) := hnew rfl
        have hba := bl HBb.out ba HBb.out.size
        refine Calls.mono (HFew.out _ hba) ?_
        rintro e wc ⟨rfl, hb⟩
        have HBc := Lib.hid (bl hba hb hba.size)
        have kp := (hb.block _ (lt_of_block kp1)).trans kp1
        clear hb ba hba kp1 HBb
        go_wp2
        go_ret
        exact ⟨rfl, HBc.out⟩
      | true =>
        cases S with
        | false =>
          clear hx hf hof hl HCl
          go_enter Tryz.func7, Tryz.ntmps7
          go_wp2_with fail
          refine Calls.mono (awake22 _ HT.out) ?_
          rintro e wa ⟨rfl, hb⟩
          have HBa := Lib.hid hb
          clear hb
          go_wp2_with fail
          refine Calls.mono (HOf.out _) ?_
          rintro e wb ⟨rfl, hb⟩
          have HBb := Lib.hid (bl HBa.out hb HBa.out.size)
          clear hb HBa
          go_wp2_with fail
          have ba : Below wb.heap.size wb (wb.alloc (.cells #[.int .i64 (n0 : Nat), .int .i64 s, .int .i64 k, .int .u32 d] 27 (0, 0))) := al (Below.refl _ _) (Nat.le_refl _)
          have kp1 : (wb.alloc (.cells #[.int .i64 (n0 : Nat), .int .i64 s, .int .i64 k, .int .u32 d] 27 (0, 0))).heap[wb.heap.size]? = some (.cells #[.int .i64 (n0 : Nat), .int .i64 s, .int .i64 k, .int .u32 d] 27 (0, 0)) := hnew rfl
          have hba := bl HBb.out ba HBb.out.size
          refine Calls.mono (HFew.out _ hba) ?_
          rintro e wc ⟨rfl, hb⟩
          have HBc := Lib.hid (bl hba hb hba.size)
          have kp := (hb.block _ (lt_of_block kp1)).trans kp1
          clear hb ba hba kp1 HBb
          obtain ⟨z0, z1, z2, z3⟩ := cells_four kp
          go_wp2_with fail
          refine Calls.mono (HSm.out _) ?_
          rintro e wd ⟨rfl, hb⟩
          have HBd := Lib.hid (bl HBc.out hb HBc.out.size)
          clear hb HBc kp z0 z1 z2 z3
          go_wp2
          go_ret
          exact ⟨rfl, HBd.out⟩
        | true =>
          have hc : C = false := by
            cases C with
            | false => rfl
            | true => exact absurd ⟨hf, rfl, rfl, rfl⟩ hx
          subst hc
          clear hx hf hof hl
          go_enter Tryz.func7, Tryz.ntmps7
          go_wp2_with fail
          refine Calls.mono (awake22 _ HT.out) ?_
          rintro e wa ⟨rfl, hb⟩
          have HBa := Lib.hid hb
          clear hb
          go_wp2_with fail
          refine Calls.mono (HOf.out _) ?_
          rintro e wb ⟨rfl, hb⟩
          have HBb := Lib.hid (bl HBa.out hb HBa.out.size)
          clear hb HBa
          go_wp2_with fail
          have ba : Below wb.heap.size wb (wb.alloc (.cells #[.int .i64 (n0 : Nat), .int .i64 s, .int .i64 k, .int .u32 d] 27 (0, 0))) := al (Below.refl _ _) (Nat.le_refl _)
          have kp1 : (wb.alloc (.cells #[.int .i64 (n0 : Nat), .int .i64 s, .int .i64 k, .int .u32 d] 27 (0, 0))).heap[wb.heap.size]? = some (.cells #[.int .i64 (n0 : Nat), .int .i64 s, .int .i64 k, .int .u32 d] 27 (0, 0)) := hnew rfl
          have hba := bl HBb.out ba HBb.out.size
          refine Calls.mono (HFew.out _ hba) ?_
          rintro e wc ⟨rfl, hb⟩
          have HBc := Lib.hid (bl hba hb hba.size)
          have kp := (hb.block _ (lt_of_block kp1)).trans kp1
          clear hb ba hba kp1 HBb
          obtain ⟨z0, z1, z2, z3⟩ := cells_four kp
          go_wp2_with fail
          refine Calls.mono (HSm.out _) ?_
          rintro e wd ⟨rfl, hb⟩
          have HBd := Lib.hid (bl HBc.out hb HBc.out.size)
          clear hb HBc kp z0 z1 z2 z3
          go_wp2_with fail
          refine Calls.mono (HCl.out _ HBd.out) ?_
          rintro e we ⟨rfl, hb⟩
          have HBe := Lib.hid (bl HBd.out hb HBd.out.size)
          clear hb HBd
          go_wp2
          go_ret
          exact ⟨rfl, HBe.out⟩
    · have hF : few22 n0 srcs acs = false := by
        cases h : few22 n0 srcs acs with
        | false => rfl
        | true =>
          unfold few22 at h
          rw [Bool.and_eq_true, Bool.and_eq_true, Bool.and_eq_true] at h
          obtain ⟨-, -, -, f4⟩ := h
          unfold few20 at f4
          rw [Bool.and_eq_true, Bool.and_eq_true, Bool.and_eq_true] at f4
          have := of_decide_eq_true f4.2.2
          rw [h2.len] at this; omega
      rw [hF] at HFew
      clear hT h0 h1 h2 hF hx hf hof hl HSm
      generalize needS n0 s = k at *
      go_enter Tryz.func7, Tryz.ntmps7
      go_wp2_with fail
      refine Calls.mono (awake22 _ HT.out) ?_
      rintro e wa ⟨rfl, hb⟩
      have HBa := Lib.hid hb
      clear hb
      go_wp2_with fail
      refine Calls.mono (HOf.out _) ?_
      rintro e wb ⟨rfl, hb⟩
      have HBb := Lib.hid (bl HBa.out hb HBa.out.size)
      clear hb HBa
      go_wp2_with fail
      have ba : Below wb.heap.size wb (wb.alloc (.cells #[.int .i64 (n0 : Nat), .int .i64 s, .int .i64 k, .int .u32 d] 27 (0, 0))) := al (Below.refl _ _) (Nat.le_refl _)
      have kp1 : (wb.alloc (.cells #[.int .i64 (n0 : Nat), .int .i64 s, .int .i64 k, .int .u32 d] 27 (0, 0))).heap[wb.heap.size]? = some (.cells #[.int .i64 (n0 : Nat), .int .i64 s, .int .i64 k, .int .u32 d] 27 (0, 0)) := hnew rfl
      have hba := bl HBb.out ba HBb.out.size
      refine Calls.mono (HFew.out _ hba) ?_
      rintro e wc ⟨rfl, hb⟩
      have HBc := Lib.hid (bl hba hb hba.size)
      have kp := (hb.block _ (lt_of_block kp1)).trans kp1
      clear hb ba hba kp1 HBb
      go_wp2
      go_ret
      exact ⟨rfl, HBc.out⟩
  · have hz : (fitS n0 s != 0) = true := bne_iff_ne.2 hf
    rw [of_none hf] at HOf
    clear hx hf hT h0 h1 h2
    generalize fitS n0 s = F at *
    go_enter Tryz.func7, Tryz.ntmps7
    go_wp2_with fail
    refine Calls.mono (awake22 _ HT.out) ?_
    rintro e wa ⟨rfl, hb⟩
    have HBa := Lib.hid hb
    clear hb
    go_wp2_with fail
    refine Calls.mono (HOf.out _) ?_
    rintro e wb ⟨rfl, hb⟩
    have HBb := Lib.hid (bl HBa.out hb HBa.out.size)
    clear hb HBa
    go_wp2
    go_ret
    exact ⟨rfl, al HBb.out HBb.out.size⟩
theorem TripArrives_any (q0 : Option Addr) (n0 c0 : Nat) (o : List UInt8) (s d : Int) (p1 : Option Addr) (n1 c1 : Nat) (srcs : List SrcD) (p2 : Option Addr) (n2 c2 : Nat) (acs : List ActD) (w : World) (h0 : Sl B8 w q0 n0 c0 o) (_w1 : (Lit.int .i64 s).wf = true) (w2 : (Lit.int .u32 d).wf = true) (h1 : SlS w p1 n1 c1 srcs) (h2 : SlA w p2 n2 c2 acs) (hT : HalfT w) :
    Calls Tryz.prog 7 #[.slice q0 n0 c0, .int .i64 s, .int .u32 d, .slice p1 n1 c1, .slice p2 n2 c2] w fun e w' => e = .returned (.bool true) ∧ Below w.heap.size w w' := by
  have hd := Go.bounds_u32 w2
  by_cases hx : fitS n0 s = 0 ∧ few22 n0 srcs acs = true ∧ small19 n0 s (needS n0 s) = true ∧ calmS acs = true
  · obtain ⟨hf, hfw, hsm, hcm⟩ := hx
    obtain ⟨t, k, D, rfl, rfl, hO, hof⟩ := of_obj (n := n0) hf (by have := h0.bound; omega) hd.1 (by omega)
    have hk : needS (n0 : Int) (t : Int) = (k : Int) := by
      have := hO.ok.chk
      unfold checkS at this
      rw [if_pos hf] at this
      by_cases h : (k : Int) = needS n0 t
      · exact h.symm
      · rw [if_neg h] at this; cases this
    rw [hk] at hsm
    have hk12 : k ≤ 12 ∧ t ≤ 1000 := by
      have h := hsm
      unfold small19 at h
      rw [if_pos hO.ok.chk, Bool.and_eq_true] at h
      have h1 := of_decide_eq_true h.1
      have h2 := of_decide_eq_true h.2
      omega
    have hff := hfw
    unfold few22 at hff
    rw [Bool.and_eq_true, Bool.and_eq_true, Bool.and_eq_true] at hff
    obtain ⟨f1, -, f3, f4⟩ := hff
    unfold few20 at f4
    rw [Bool.and_eq_true, Bool.and_eq_true, Bool.and_eq_true] at f4
    have hn1 : n1 ≤ 20 := by have := of_decide_eq_true f3; rw [h1.len] at this; exact this
    have hn2 : n2 ≤ 40 := by have := of_decide_eq_true f4.2.2; rw [h2.len] at this; exact this
    have hs64 : ∀ a, a ∈ srcs → a.s < 18446744073709551616 := fun a ha => by
      obtain ⟨j, hj, e⟩ := List.getElem_of_mem ha
      obtain ⟨_, _, _, _, _, _, _, _, _, _, h⟩ := h1.rs j a (by rw [List.getElem?_eq_getElem hj, e])
      exact h
    exact TripArrives_core n0 t k D q0 c0 o p1 n1 c1 srcs p2 n2 c2 acs w hO h0 h1 h2 hT hk12.1 hk12.2 hn1 hn2 (fun a ha => by have := of_decide_eq_true (List.all_eq_true.1 f1 a ha); omega) hs64 (fun a ha => by have := of_decide_eq_true (List.all_eq_true.1 f4.1.2 a ha); show _ ≤ _; omega) hof hfw hsm hcm
  · exact TripArrives_out q0 n0 c0 o s d p1 n1 c1 srcs p2 n2 c2 acs w h0 h1 h2 hT hx
end Go.Proofs.YtfbmdlfkipipfaaGreatDoor
namespace Go.By
open Go.RowKit
end Go.By
namespace Go.Proofs.YtfbmdlfkipipfaaGreatDoor
open Go.RowKit Go.By
theorem halves_of {rest : List (String × DataW Unit)} {W : World} (h : laidMet Tryz.prog (("wellspring/sum.halves", Rows.laid_wellspring_sum_halves) :: rest) W) : HalfT W := by
  obtain ⟨zs, hz, hzl, hzc⟩ : ∃ zs : List Int, (Rows.laid_wellspring_sum_halves : DataW Unit) = Lib.tabData .u32 zs ∧ zs.length = 16 ∧ ∀ i, i < 16 → zs.getD i 0 = ((crcTab.getD i 0 : Nat) : Int) := ⟨[0, 498536548, 997073096, 651767980, 1994146192, 1802195444, 1303535960, 1342533948, 3988292384, 4027552580, 3604390888, 3412177804, 2607071920, 2262029012, 2685067896, 3183342108], rfl, rfl, by decide⟩
  rw [hz] at h
  have h3 := Lib.tabIs_of_head (g := 0) (t := 291) (e := 23) (n := 16) (by kernel_rfl) (by kernel_rfl) (by kernel_rfl) (by kernel_rfl) (by kernel_rfl) (by kernel_rfl) h
  intro i hi
  have := h3.cell (g := 0) (by kernel_rfl) i (by omega)
  rw [hzc i hi] at this
  exact this
end Go.Proofs.YtfbmdlfkipipfaaGreatDoor
