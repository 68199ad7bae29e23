/- The contract of the reference's Step of layer 20: move, and where nothing is done. -/
import Derived.Test.YtlfcijpkdhdmeaaAl
import Derived.Deep.RegionWith
import Derived.StillTailTactics
import Derived.BigQuiet
namespace Go.Proofs.Ytlfcijpkdhdmeaa
open Go.RowKit Go.By
theorem RetT.named {w w' : World} {vs : List Value} {ks : List Int} {e : Ending} {L : Nat} (h : RetT w vs ks e w') (h1 : vs.length = L) (h2 : ks.length = L) :
    ∃ q1 c1 q2 c2, e = .returned (.tuple #[.slice q1 L c1, .slice q2 L c2]) ∧ w'.ownsRow w.heap.size 28 1 (.slice q1 L c1) L vs ∧ w'.ownsRow w.heap.size 3 1 (.slice q2 L c2) L (ks.map I64) ∧ Below w.heap.size w w' := by
  obtain ⟨q1, c1, q2, c2, e1, o1, o2, hb⟩ := h
  subst h1
  rw [h2] at e1 o2
  exact ⟨q1, c1, q2, c2, e1, o1, o2, hb⟩
theorem putAt_mem {α : Type} {xs : List α} {k : Nat} {x y : α} (h : y ∈ putAt xs k x) : y = x ∨ y ∈ xs := by
  rcases List.mem_cons.1 ((putAt_perm xs k x).subset h) with h | h
  · exact .inl h
  · exact .inr h
theorem Sl.ids {w : World} {base n c : Nat} {q : Option Addr} {vs : List Value} (h : w.ownsRow base 28 1 (.slice q n c) n vs) : Sl id w q n c vs := Sl.of_owns (by rw [List.map_id]; exact h)
theorem set_put {α : Type} {xs : List α} {i n : Nat} (x : α) (hn : n = xs.length) (hi : i < n) : xs.set i x = putAt (dropAt xs i) (min i (n - 1)) x := by
  subst hn
  rw [show min i (xs.length - 1) = i by omega, List.set_eq_take_append_cons_drop, if_pos hi]
  unfold putAt dropAt
  rw [List.take_left' (by rw [List.length_take]; omega), List.drop_left' (by rw [List.length_take]; omega)]
set_option maxRecDepth 100000 in
set_option maxHeartbeats 4000000 in
theorem Step2_any (p1 p2 q : Option Addr) (c1 c2 m c' i j : Nat) (b : Int) (PS : List Pack) (bs : List UInt8) (w : World) (h1 : Sl2 w p1 PS.length c1 (PS.map (·.1))) (h2 : Sl I64 w p2 PS.length c2 (PS.map (·.2))) (hs : Sl B8 w q m c' bs) (hn : PS.length < 4096) (hi : i < PS.length) (hj63 : j ≤ 9223372036854775807) (pk : Pack) (hpk0 : PS[i]? = some pk) :
    Calls Try.prog 21 #[.slice p1 PS.length c1, .slice p2 PS.length c2, .agg #[.int .i64 2, .int .i64 i, .int .i64 j, .int .u32 b, .slice q m c']] w (RetSt w (putAt (dropAt PS i) (min j (PS.length - 1)) pk)) := by
  obtain ⟨Z, hZ1, hZ2, hZ3⟩ := valZ_of h1
  have hB := fun o => al (o := o) (Below.refl w.heap.size w) (Nat.le_refl _)
  have hZl : Hid (Z.length = PS.length) := by have := hZ2.len; rw [List.length_map] at this; exact this
  obtain ⟨n, hnn⟩ : ∃ n, n = PS.length := ⟨_, rfl⟩
  have bn : n ≤ 9223372036854775807 := by omega
  rw [← hnn] at h1 h2 hZ2 hn ⊢
  have HNN := Lib.hid hnn
  have H1 := Lib.hid h1; have H2 := Lib.hid h2; have HS := Lib.hid hs; have HZ1 := Lib.hid hZ1; have HZ2 := Lib.hid hZ2; have HZ3 := Lib.hid hZ3; have HB := Lib.hid hB
  obtain ⟨W, hW⟩ : ∃ W, W = w.alloc (.cells #[.int .i64 2, .int .i64 i, .int .i64 j, .int .u32 b, .slice q m c'] 49) := ⟨_, rfl⟩
  have HBW : Hid (Below w.heap.size w W) := by show Below _ _ _; rw [hW]; exact hB _
  have x1 : W.heap[w.heap.size]? = some (.cells #[.int .i64 2, .int .i64 i, .int .i64 j, .int .u32 b, .slice q m c'] 49 (0, 0)) := by rw [hW]; exact hnew rfl
  have s0 : W.cell? ⟨w.heap.size, 0, none⟩ = some (.int .i64 2) := cell_of_row _ _ 0 _ _ _ x1
  have s1 : W.cell? ⟨w.heap.size, 1, none⟩ = some (.int .i64 i) := cell_of_row _ _ 1 _ _ _ x1
  have s2 : W.cell? ⟨w.heap.size, 2, none⟩ = some (.int .i64 j) := cell_of_row _ _ 2 _ _ _ x1
  have X1 := Lib.hid x1
  clear h1 h2 hs hZ1 hZ2 hZ3 hB hnn x1
  have hi' : i < n := by rw [HNN.out]; exact hi
  clear hi
  have hi := hi'
  clear hi'
  have hil : i < Z.length := by rw [hZl.out, ← HNN.out]; exact hi
  obtain ⟨z, hz⟩ : ∃ z, Z[i]? = some z := ⟨_, List.getElem?_eq_getElem hil⟩
  have hpk := hpk0
  clear hpk0
  have hzp : z.2 = pk.1 := by
    have := congrArg (fun l => l[i]?) HZ1.out
    simp only [List.getElem?_map, hz, hpk] at this
    simpa using this
  obtain ⟨qz, cz, ez, hsz⟩ := HZ3.out z (List.mem_of_getElem? hz)
  obtain ⟨b1, o1, v1, rfl, hc1, hx1⟩ := HZ2.out.at i hi
  obtain ⟨b2, o2, y2, rfl, hc2, hx2⟩ := H2.out.at i hi
  have hv1 : v1 = .slice qz z.2.length cz := by
    have := hx1.out; rw [List.getElem?_map, hz] at this
    rw [← ez]; simpa using this.symm
  have hy2 : y2 = pk.2 := by have := hx2.out; rw [List.getElem?_map, hpk] at this; simpa using this.symm
  subst hv1; subst hy2
  have t1 : W.cell? ⟨b1, o1 + i, none⟩ = some (.slice qz z.2.length cz) := (HBW.out.cell (p := ⟨b1, o1 + i, none⟩) (lt_of_cell hc1)).trans hc1
  have t2 : W.cell? ⟨b2, o2 + i, none⟩ = some (.int .i64 pk.2) := (HBW.out.cell (p := ⟨b2, o2 + i, none⟩) (lt_of_cell hc2)).trans hc2
  have HSZ := Lib.hid hsz
  have i1 : (i : Int) < (n : Int) := by omega
  have HZI := Lib.hid hz; have HPK := Lib.hid hpk; have HZP := Lib.hid hzp; have HEZ := Lib.hid ez
  clear hc1 hc2 hsz hz hpk hzp ez
  have l1 : Hid ((dropAt (Z.map (·.1)) i).length = n - 1) := by show _ = _; rw [dropAt_length (by rw [List.length_map, hZl.out, ← HNN.out]; exact hi), List.length_map, hZl.out, HNN.out]
  have l2 : Hid ((dropAt (PS.map (·.2)) i).length = n - 1) := by show _ = _; rw [dropAt_length (by rw [List.length_map, ← HNN.out]; exact hi), List.length_map, HNN.out]
  obtain ⟨lz, hlz⟩ : ∃ lz, lz = z.2.length := ⟨_, rfl⟩
  rw [← hlz] at t1
  have HLZ := Lib.hid hlz
  clear hlz
  have hZW := Lib.hid (HZ3.out.keep HBW.out)
  go_enter Try.func21, Try.ntmps21
  go_wp2_with fail
  rw [← hW]
  clear hW
  refine Calls.mono (without_any (some ⟨b1, o1, none⟩) (some ⟨b2, o2, none⟩) n c1 c2 i (Z.map (·.1)) (PS.map (·.2)) W (HZ2.out.keep HBW.out) (H2.out.keep HBW.out) HZ3.out.slices (by omega) hi) ?_
  rintro e w1 hR
  obtain ⟨L, hL⟩ : ∃ L, L = n - 1 := ⟨_, rfl⟩
  obtain ⟨q1, d1, q2, d2, rfl, g1, g2, g3⟩ := RetT.named hR (l1.out.trans hL.symm) (l2.out.trans hL.symm)
  have HL := Lib.hid hL
  have hL5 : L < 5000 := by omega
  have G1 := Lib.hid g1; have G2 := Lib.hid g2; have G3 := Lib.hid g3
  have k1 : Below w.heap.size w w1 := HBW.out.trans (g3.mono HBW.out.size)
  have K1 := Lib.hid k1
  have x1 := (g3.block _ (lt_of_cell s0)).trans X1.out
  have u1 : w1.cell? ⟨w.heap.size, 1, none⟩ = some (.int .i64 i) := cell_of_row _ _ 1 _ _ _ x1
  have u2 : w1.cell? ⟨w.heap.size, 2, none⟩ = some (.int .i64 j) := cell_of_row _ _ 2 _ _ _ x1
  have v1' : w1.cell? ⟨b1, o1 + i, none⟩ = some (.slice qz lz cz) := (g3.cell (p := ⟨b1, o1 + i, none⟩) (lt_of_cell t1)).trans t1
  have v2' : w1.cell? ⟨b2, o2 + i, none⟩ = some (.int .i64 pk.2) := (g3.cell (p := ⟨b2, o2 + i, none⟩) (lt_of_cell t2)).trans t2
  clear hR hL g1 g2 g3 k1 x1
  have hZ1' := Lib.hid (hZW.out.keep G3.out)
  have FIN : Hid (∀ W' e w2, Below w1.heap.size w1 W' → RetT W' (putAt (dropAt (Z.map (·.1)) i) (min j L) (.slice qz lz cz)) (putAt (dropAt (PS.map (·.2)) i) (min j L) pk.2) e w2 → RetSt W' (putAt (dropAt PS i) (min j (n - 1)) pk) e w2) := fun W' e w2 hb hR => by
    rw [← HL.out]
    exact RetT.st (Z := putAt (dropAt Z i) (min j L) z) hR (fun y hy => by
      rcases putAt_mem hy with rfl | hy
      · exact hZ1'.out.keep hb _ (List.mem_of_getElem? HZI.out)
      · exact hZ1'.out.keep hb y ((dropAt_sub _ _).subset hy)) (by rw [putAt_map, dropAt_map, HEZ.out, HLZ.out]) (by rw [putAt_map, dropAt_map, putAt_map, dropAt_map, HZ1.out, HZP.out]) (by rw [putAt_map, dropAt_map])
  clear t1 t2 s0 s1 s2
  go_wp2_with fail
  refine wp_region_shapes (fun ix => ([.val (.slice q1 L d1), .val (.slice q2 L d2), .val (.pointer (some ⟨w.heap.size, 2, none⟩)), .val (.int .i64 j), .val (.slice (some ⟨b1, o1, none⟩) n c1), .val (.pointer (some ⟨w.heap.size, 1, none⟩)), .val (.int .i64 i), .val (.pointer (some ⟨b1, o1 + i, none⟩)), .val (.slice qz lz cz), .val (.slice (some ⟨b2, o2, none⟩) n c2), .val (.pointer (some ⟨w.heap.size, 1, none⟩)), .val (.int .i64 i), .val (.pointer (some ⟨b2, o2 + i, none⟩)), .val (.int .i64 pk.2), ShpT (putAt (dropAt PS i) (min j (n - 1)) pk), .rows ((putAt (dropAt PS i) (min j (n - 1)) pk).map (·.1)), ShpI ((putAt (dropAt PS i) (min j (n - 1)) pk).map (·.2)), .rows ((putAt (dropAt PS i) (min j (n - 1)) pk).map (·.1)), ShpI ((putAt (dropAt PS i) (min j (n - 1)) pk).map (·.2))][ix]?).getD (.any)) 218 rfl (by kernel_rfl) (by decide) (by decide) (by decide) ?_ ?_
  · refine ⟨?_, ?_, ?_, ?_, ?_, ?_, ?_, ?_, ?_, ?_, ?_, ?_, ?_, ?_, ?_, ?_, ?_, ?_, ?_, trivial⟩
    · intro a W hb0 hs hp hi; have hb := undrew hb0; clear hb0
      have t8 : sl a 8 = .slice q1 L d1 := hi 8 (by decide)
      exact ite_y rfl (wp_val (sl a 8) rfl ⟨_, rfl, Below.refl _ _, t8⟩)
    · intro a W hb0 hs hp hi; have hb := undrew hb0; clear hb0
      have t9 : sl a 9 = .slice q2 L d2 := hi 9 (by decide)
      exact ite_y rfl (wp_val (sl a 9) rfl ⟨_, rfl, Below.refl _ _, t9⟩)
    · intro a W hb0 hs hp hi; have hb := undrew hb0; clear hb0
      have t5 : sl a 5 = .pointer (some ⟨w.heap.size, 0, none⟩) := hi 5 (by decide)
      refine ite_y rfl (wp_val (.pointer (some ⟨w.heap.size, 2, none⟩)) ?_ ?_)
      · simp only [execOp, eval_tmp, eval_const, t5]; simp [go_sem]
      · exact ⟨_, rfl, Below.refl _ _, rfl⟩
    · intro a W hb0 hs hp hi; have hb := undrew hb0; clear hb0
      have tt : sl a 85 = .pointer (some ⟨w.heap.size, 2, none⟩) := hp 2 (by decide)
      have dd := (hb.cell (p := ⟨w.heap.size, 2, none⟩) (lt_of_cell u2)).trans u2
      refine ite_y rfl (wp_val (.int .i64 j) ?_ ?_)
      · simp only [execOp, eval_tmp, tt]; simp [go_sem, dd]
      · exact ⟨_, rfl, Below.refl _ _, rfl⟩
    · intro a W hb0 hs hp hi; have hb := undrew hb0; clear hb0
      have t0 : sl a 0 = .slice (some ⟨b1, o1, none⟩) n c1 := hi 0 (by decide)
      exact ite_y rfl (wp_val (sl a 0) rfl ⟨_, rfl, Below.refl _ _, t0⟩)
    · intro a W hb0 hs hp hi; have hb := undrew hb0; clear hb0
      have t5 : sl a 5 = .pointer (some ⟨w.heap.size, 0, none⟩) := hi 5 (by decide)
      refine ite_y rfl (wp_val (.pointer (some ⟨w.heap.size, 1, none⟩)) ?_ ?_)
      · simp only [execOp, eval_tmp, eval_const, t5]; simp [go_sem]
      · exact ⟨_, rfl, Below.refl _ _, rfl⟩
    · intro a W hb0 hs hp hi; have hb := undrew hb0; clear hb0
      have tt : sl a 88 = .pointer (some ⟨w.heap.size, 1, none⟩) := hp 5 (by decide)
      have dd := (hb.cell (p := ⟨w.heap.size, 1, none⟩) (lt_of_cell u1)).trans u1
      refine ite_y rfl (wp_val (.int .i64 i) ?_ ?_)
      · simp only [execOp, eval_tmp, tt]; simp [go_sem, dd]
      · exact ⟨_, rfl, Below.refl _ _, rfl⟩
    · intro a W hb0 hs hp hi; have hb := undrew hb0; clear hb0
      have ta : sl a 87 = .slice (some ⟨b1, o1, none⟩) n c1 := hp 4 (by decide)
      have ti : sl a 89 = .int .i64 i := hp 6 (by decide)
      refine ite_y rfl (wp_val (.pointer (some ⟨b1, o1 + i, none⟩)) ?_ ?_)
      · simp only [execOp, eval_tmp, ta, ti]; simp [go_sem, i1]
      · exact ⟨_, rfl, Below.refl _ _, rfl⟩
    · intro a W hb0 hs hp hi; have hb := undrew hb0; clear hb0
      have tt : sl a 90 = .pointer (some ⟨b1, o1 + i, none⟩) := hp 7 (by decide)
      have dd := (hb.cell (p := ⟨b1, o1 + i, none⟩) (lt_of_cell v1')).trans v1'
      refine ite_y rfl (wp_val (.slice qz lz cz) ?_ ?_)
      · simp only [execOp, eval_tmp, tt]; simp [go_sem, dd]
      · exact ⟨_, rfl, Below.refl _ _, rfl⟩
    · intro a W hb0 hs hp hi; have hb := undrew hb0; clear hb0
      have t1 : sl a 1 = .slice (some ⟨b2, o2, none⟩) n c2 := hi 1 (by decide)
      exact ite_y rfl (wp_val (sl a 1) rfl ⟨_, rfl, Below.refl _ _, t1⟩)
    · intro a W hb0 hs hp hi; have hb := undrew hb0; clear hb0
      have t5 : sl a 5 = .pointer (some ⟨w.heap.size, 0, none⟩) := hi 5 (by decide)
      refine ite_y rfl (wp_val (.pointer (some ⟨w.heap.size, 1, none⟩)) ?_ ?_)
      · simp only [execOp, eval_tmp, eval_const, t5]; simp [go_sem]
      · exact ⟨_, rfl, Below.refl _ _, rfl⟩
    · intro a W hb0 hs hp hi; have hb := undrew hb0; clear hb0
      have tt : sl a 93 = .pointer (some ⟨w.heap.size, 1, none⟩) := hp 10 (by decide)
      have dd := (hb.cell (p := ⟨w.heap.size, 1, none⟩) (lt_of_cell u1)).trans u1
      refine ite_y rfl (wp_val (.int .i64 i) ?_ ?_)
      · simp only [execOp, eval_tmp, tt]; simp [go_sem, dd]
      · exact ⟨_, rfl, Below.refl _ _, rfl⟩
    · intro a W hb0 hs hp hi; have hb := undrew hb0; clear hb0
      have ta : sl a 92 = .slice (some ⟨b2, o2, none⟩) n c2 := hp 9 (by decide)
      have ti : sl a 94 = .int .i64 i := hp 11 (by decide)
      refine ite_y rfl (wp_val (.pointer (some ⟨b2, o2 + i, none⟩)) ?_ ?_)
      · simp only [execOp, eval_tmp, ta, ti]; simp [go_sem, i1]
      · exact ⟨_, rfl, Below.refl _ _, rfl⟩
    · intro a W hb0 hs hp hi; have hb := undrew hb0; clear hb0
      have tt : sl a 95 = .pointer (some ⟨b2, o2 + i, none⟩) := hp 12 (by decide)
      have dd := (hb.cell (p := ⟨b2, o2 + i, none⟩) (lt_of_cell v2')).trans v2'
      refine ite_y rfl (wp_val (.int .i64 pk.2) ?_ ?_)
      · simp only [execOp, eval_tmp, tt]; simp [go_sem, dd]
      · exact ⟨_, rfl, Below.refl _ _, rfl⟩
    · intro a W hb0 hs hp hi; have hb := undrew hb0; clear hb0
      have t83 : sl a 83 = .slice q1 L d1 := hp 0 (by decide)
      have t84 : sl a 84 = .slice q2 L d2 := hp 1 (by decide)
      have t86 : sl a 86 = .int .i64 j := hp 3 (by decide)
      have t91 : sl a 91 = .slice qz lz cz := hp 8 (by decide)
      have t96 : sl a 96 = .int .i64 pk.2 := hp 13 (by decide)
      refine ite_y rfl (wp_enter 34 #[.slice q1 L d1, .slice q2 L d2, .int .i64 j, .slice qz lz cz, .int .i64 pk.2] ?_ (put_any q1 q2 qz L d1 d2 lz cz j pk.2 (dropAt (Z.map (·.1)) i) (dropAt (PS.map (·.2)) i) _ ((Sl.ids G1.out).keep hb) ((Sl.of_owns G2.out).keep hb) (fun v hv => HZ3.out.slices v ((dropAt_sub _ _).subset hv)) hL5) ?_)
      · simp only [execOp, resolve, List.map_toArray, List.map, eval_tmp, eval_func, eval_const, t83, t84, t86, t91, t96]; simp [go_sem]
      · rintro e W' hR; obtain ⟨L', q1', d1', q2', d2', hL', rfl, s1', s2', hw⟩ := FIN.out W e W' hb hR; exact ⟨_, rfl, _, rfl, hw, L', q1', d1', q2', d2', hL', rfl, s1', s2'⟩
    · intro a W hb0 hs hp hi; have hb := undrew hb0; clear hb0
      have tt : (ShpT (putAt (dropAt PS i) (min j (n - 1)) pk)).ok (sl a 97) W := hp 14 (by decide)
      obtain ⟨L', q1', d1', q2', d2', hL', et, s1', s2'⟩ := tt
      refine ite_y rfl (wp_val (.slice q1' L' d1') ?_ ?_)
      · simp only [execOp, eval_tmp, et]; rfl
      · exact ⟨_, rfl, Below.refl _ _, q1', L', d1', rfl, s1'⟩
    · intro a W hb0 hs hp hi; have hb := undrew hb0; clear hb0
      have tt : (ShpT (putAt (dropAt PS i) (min j (n - 1)) pk)).ok (sl a 97) W := hp 14 (by decide)
      obtain ⟨L', q1', d1', q2', d2', hL', et, s1', s2'⟩ := tt
      refine ite_y rfl (wp_val (.slice q2' L' d2') ?_ ?_)
      · simp only [execOp, eval_tmp, et]; rfl
      · exact ⟨_, rfl, Below.refl _ _, q2', L', d2', rfl, s2'⟩
    · intro a W hb0 hs hp hi; have hb := undrew hb0; clear hb0
      exact ite_y rfl (wp_val (sl a 98) rfl ⟨_, rfl, Below.refl _ _, hp 15 (by decide)⟩)
    · intro a W hb0 hs hp hi; have hb := undrew hb0; clear hb0
      exact ite_y rfl (wp_val (sl a 99) rfl ⟨_, rfl, Below.refl _ _, hp 16 (by decide)⟩)
  · intro a w9 hb hs hd hI ht
    have ha := act_is [83, 84, 85, 86, 87, 88, 89, 90, 91, 92, 93, 94, 95, 96, 97, 98, 99, 6, 7] hs hd ht (by decide)
    have y6 : (Shp.rows ((putAt (dropAt PS i) (min j (n - 1)) pk).map (·.1))).ok (sl a 6) w9 := hI 17 (by decide)
    obtain ⟨p6, n6, k6, t6, z6⟩ := y6
    have y7 : (ShpI ((putAt (dropAt PS i) (min j (n - 1)) pk).map (·.2))).ok (sl a 7) w9 := hI 18 (by decide)
    obtain ⟨p7, n7, k7, t7, z7⟩ := y7
    simp only [List.foldl, t6, t7] at ha
    generalize sl a 83 = u83 at ha
    generalize sl a 84 = u84 at ha
    generalize sl a 85 = u85 at ha
    generalize sl a 86 = u86 at ha
    generalize sl a 87 = u87 at ha
    generalize sl a 88 = u88 at ha
    generalize sl a 89 = u89 at ha
    generalize sl a 90 = u90 at ha
    generalize sl a 91 = u91 at ha
    generalize sl a 92 = u92 at ha
    generalize sl a 93 = u93 at ha
    generalize sl a 94 = u94 at ha
    generalize sl a 95 = u95 at ha
    generalize sl a 96 = u96 at ha
    generalize sl a 97 = u97 at ha
    generalize sl a 98 = u98 at ha
    generalize sl a 99 = u99 at ha
    simp only [Act.put, List.setIfInBounds_toArray, List.set_cons_zero, List.set_cons_succ] at ha
    rw [ha]; clear ha
    have e67 : n7 = n6 := by have g1 := z6.len; have g2 := z7.len; rw [List.length_map] at g1 g2; omega
    subst e67
    have HST : Hid (RetSt w (putAt (dropAt PS i) (min j (n - 1)) pk) (.returned (.tuple #[.slice p6 n7 k6, .slice p7 n7 k7])) w9) := ⟨n7, p6, k6, p7, k7, by have g1 := z6.len; rw [List.length_map] at g1; exact g1.symm, rfl, z6, z7, K1.out.trans (hb.mono K1.out.size)⟩
    clear z6 z7 hI
    go_wp2
    go_ret2
    exact HST.out
set_option maxRecDepth 100000 in
set_option maxHeartbeats 4000000 in
theorem StepN_any (p1 p2 q : Option Addr) (c1 c2 m c' k9 : Nat) (d i j : Int) (b : Int) (PS : List Pack) (bs : List UInt8) (w : World) (h1 : Sl2 w p1 PS.length c1 (PS.map (·.1))) (h2 : Sl I64 w p2 PS.length c2 (PS.map (·.2))) (hs : Sl B8 w q m c' bs) (hn : PS.length < 4096) (hc : j < 0 ∨ (d ≠ 5 ∧ (i < 0 ∨ (PS.length : Int) ≤ i)) ∨ (0 ≤ j ∧ (d < 0 ∨ 5 < d))) :
    Calls Try.prog 21 #[.slice p1 PS.length c1, .slice p2 PS.length c2, .agg #[.int .i64 d, .int .i64 i, .int .i64 j, .int .u32 b, .slice q m c']] w (RetSt w (PS)) := by
  obtain ⟨Z, hZ1, hZ2, hZ3⟩ := valZ_of h1
  have hB := fun o => al (o := o) (Below.refl w.heap.size w) (Nat.le_refl _)
  have hZl : Hid (Z.length = PS.length) := by have := hZ2.len; rw [List.length_map] at this; exact this
  obtain ⟨n, hnn⟩ : ∃ n, n = PS.length := ⟨_, rfl⟩
  have bn : n ≤ 9223372036854775807 := by omega
  rw [← hnn] at h1 h2 hZ2 hn hc ⊢
  have HNN := Lib.hid hnn
  have H1 := Lib.hid h1; have H2 := Lib.hid h2; have HS := Lib.hid hs; have HZ1 := Lib.hid hZ1; have HZ2 := Lib.hid hZ2; have HZ3 := Lib.hid hZ3; have HB := Lib.hid hB
  obtain ⟨W, hW⟩ : ∃ W, W = w.alloc (.cells #[.int .i64 d, .int .i64 i, .int .i64 j, .int .u32 b, .slice q m c'] 49) := ⟨_, rfl⟩
  have HBW : Hid (Below w.heap.size w W) := by show Below _ _ _; rw [hW]; exact hB _
  have x1 : W.heap[w.heap.size]? = some (.cells #[.int .i64 d, .int .i64 i, .int .i64 j, .int .u32 b, .slice q m c'] 49 (0, 0)) := by rw [hW]; exact hnew rfl
  have s0 : W.cell? ⟨w.heap.size, 0, none⟩ = some (.int .i64 d) := cell_of_row _ _ 0 _ _ _ x1
  have s1 : W.cell? ⟨w.heap.size, 1, none⟩ = some (.int .i64 i) := cell_of_row _ _ 1 _ _ _ x1
  have s2 : W.cell? ⟨w.heap.size, 2, none⟩ = some (.int .i64 j) := cell_of_row _ _ 2 _ _ _ x1
  have X1 := Lib.hid x1
  clear h1 h2 hs hZ1 hZ2 hZ3 hB hnn x1
  have FIN : Hid (RetSt w PS (.returned (.tuple #[.slice p1 n c1, .slice p2 n c2])) W) := ⟨n, p1, c1, p2, c2, HNN.out, rfl, H1.out.keep HBW.out, H2.out.keep HBW.out, HBW.out⟩
  clear s0 s1 s2
  rcases hc with hc | ⟨hc1, hc2⟩ | ⟨hc1, hc2⟩
  · go_enter Try.func21, Try.ntmps21
    go_wp2
    rw [← hW]
    go_ret2
    exact FIN.out
  · by_cases hj : j < 0
    · clear hc1 hc2
      go_enter Try.func21, Try.ntmps21
      go_wp2
      rw [← hW]
      go_ret2
      exact FIN.out
    · have hj' : 0 ≤ j := by omega
      have hb : (d != 5) = true := by simpa using hc1
      clear hj hc1
      rcases hc2 with hc2 | hc2
      · go_enter Try.func21, Try.ntmps21
        go_wp2
        rw [← hW]
        go_ret2
        exact FIN.out
      · have hi0 : 0 ≤ i := by omega
        go_enter Try.func21, Try.ntmps21
        go_wp2
        rw [← hW]
        go_ret2
        exact FIN.out
  · have hb : (d != 5) = true := by simp; omega
    have e0 : (d == 0) = false := by simp; omega
    have e1 : (d == 1) = false := by simp; omega
    have e2 : (d == 2) = false := by simp; omega
    have e3 : (d == 3) = false := by simp; omega
    have e4 : (d == 4) = false := by simp; omega
    have e5 : (d == 5) = false := by simp; omega
    clear hc2
    by_cases hi0 : i < 0
    · go_enter Try.func21, Try.ntmps21
      go_wp2
      rw [← hW]
      go_ret2
      exact FIN.out
    · have hi1 : 0 ≤ i := by omega
      clear hi0
      by_cases hin : (n : Int) ≤ i
      · go_enter Try.func21, Try.ntmps21
        go_wp2
        rw [← hW]
        go_ret2
        exact FIN.out
      · have hin' : i < (n : Int) := by omega
        clear hin
        go_enter Try.func21, Try.ntmps21
        go_wp2
        rw [← hW]
        go_ret2
        exact FIN.out
end Go.Proofs.Ytlfcijpkdhdmeaa
