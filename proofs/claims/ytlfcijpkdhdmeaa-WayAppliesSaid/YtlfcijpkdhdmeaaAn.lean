/- The contract of the reference's Step of layer 20: cut. -/
import Derived.Test.YtlfcijpkdhdmeaaAm
import Derived.Deep.RegionWith
import Derived.StillTailTactics
import Derived.BigQuiet
namespace Go.Proofs.Ytlfcijpkdhdmeaa
open Go.RowKit Go.By
set_option maxRecDepth 100000 in
set_option maxHeartbeats 4000000 in
theorem Step3_any (p1 p2 q : Option Addr) (c1 c2 m c' i j : Nat) (b : Int) (PS : List Pack) (bs : List UInt8) (w : World) (h1 : Sl2 w p1 PS.length c1 (PS.map (·.1))) (h2 : Sl I64 w p2 PS.length c2 (PS.map (·.2))) (hs : Sl B8 w q m c' bs) (hn : PS.length < 4096) (hi : i < PS.length) (hj63 : j ≤ 9223372036854775807) (pk : Pack) (hpk0 : PS[i]? = some pk) :
    Calls Try.prog 21 #[.slice p1 PS.length c1, .slice p2 PS.length c2, .agg #[.int .i64 3, .int .i64 i, .int .i64 j, .int .u32 b, .slice q m c']] w (RetSt w (PS.set i (cutP pk j))) := by
  obtain ⟨Z, hZ1, hZ2, hZ3⟩ := valZ_of h1
  have hB := fun o => al (o := o) (Below.refl w.heap.size w) (Nat.le_refl _)
  have hZl : Hid (Z.length = PS.length) := by have := hZ2.len; rw [List.length_map] at this; exact this
  obtain ⟨n, hnn⟩ : ∃ n, n = PS.length := ⟨_, rfl⟩
  have bn : n ≤ 9223372036854775807 := by omega
  rw [← hnn] at h1 h2 hZ2 hn ⊢
  have HNN := Lib.hid hnn
  have H1 := Lib.hid h1; have H2 := Lib.hid h2; have HS := Lib.hid hs; have HZ1 := Lib.hid hZ1; have HZ2 := Lib.hid hZ2; have HZ3 := Lib.hid hZ3; have HB := Lib.hid hB
  obtain ⟨W, hW⟩ : ∃ W, W = w.alloc (.cells #[.int .i64 3, .int .i64 i, .int .i64 j, .int .u32 b, .slice q m c'] 49) := ⟨_, rfl⟩
  have HBW : Hid (Below w.heap.size w W) := by show Below _ _ _; rw [hW]; exact hB _
  have x1 : W.heap[w.heap.size]? = some (.cells #[.int .i64 3, .int .i64 i, .int .i64 j, .int .u32 b, .slice q m c'] 49 (0, 0)) := by rw [hW]; exact hnew rfl
  have s0 : W.cell? ⟨w.heap.size, 0, none⟩ = some (.int .i64 3) := cell_of_row _ _ 0 _ _ _ x1
  have s1 : W.cell? ⟨w.heap.size, 1, none⟩ = some (.int .i64 i) := cell_of_row _ _ 1 _ _ _ x1
  have s2 : W.cell? ⟨w.heap.size, 2, none⟩ = some (.int .i64 j) := cell_of_row _ _ 2 _ _ _ x1
  have X1 := Lib.hid x1
  clear h1 h2 hs hZ1 hZ2 hZ3 hB hnn x1
  have hi' : i < n := by rw [HNN.out]; exact hi
  clear hi
  have hi := hi'
  clear hi'
  have hil : i < Z.length := by rw [hZl.out, ← HNN.out]; exact hi
  obtain ⟨z, hz⟩ : ∃ z, Z[i]? = some z := ⟨_, List.getElem?_eq_getElem hil⟩
  have hpk := hpk0
  clear hpk0
  have hzp : z.2 = pk.1 := by
    have := congrArg (fun l => l[i]?) HZ1.out
    simp only [List.getElem?_map, hz, hpk] at this
    simpa using this
  obtain ⟨qz, cz, ez, hsz⟩ := HZ3.out z (List.mem_of_getElem? hz)
  obtain ⟨b1, o1, v1, rfl, hc1, hx1⟩ := HZ2.out.at i hi
  obtain ⟨b2, o2, y2, rfl, hc2, hx2⟩ := H2.out.at i hi
  have hv1 : v1 = .slice qz z.2.length cz := by
    have := hx1.out; rw [List.getElem?_map, hz] at this
    rw [← ez]; simpa using this.symm
  have hy2 : y2 = pk.2 := by have := hx2.out; rw [List.getElem?_map, hpk] at this; simpa using this.symm
  subst hv1; subst hy2
  have t1 : W.cell? ⟨b1, o1 + i, none⟩ = some (.slice qz z.2.length cz) := (HBW.out.cell (p := ⟨b1, o1 + i, none⟩) (lt_of_cell hc1)).trans hc1
  have t2 : W.cell? ⟨b2, o2 + i, none⟩ = some (.int .i64 pk.2) := (HBW.out.cell (p := ⟨b2, o2 + i, none⟩) (lt_of_cell hc2)).trans hc2
  have HSZ := Lib.hid hsz
  have i1 : (i : Int) < (n : Int) := by omega
  have HZI := Lib.hid hz; have HPK := Lib.hid hpk; have HZP := Lib.hid hzp; have HEZ := Lib.hid ez
  clear hc1 hc2 hsz hz hpk hzp ez
  have l1 : Hid ((dropAt (Z.map (·.1)) i).length = n - 1) := by show _ = _; rw [dropAt_length (by rw [List.length_map, hZl.out, ← HNN.out]; exact hi), List.length_map, hZl.out, HNN.out]
  have l2 : Hid ((dropAt (PS.map (·.2)) i).length = n - 1) := by show _ = _; rw [dropAt_length (by rw [List.length_map, ← HNN.out]; exact hi), List.length_map, HNN.out]
  have hZW := Lib.hid (HZ3.out.keep HBW.out)
  have bz := HSZ.out.bound
  have bzc := HSZ.out.le
  have bz2 : cz ≤ 9223372036854775807 := by have := HSZ.out.max; unfold maxLen at this; exact this
  by_cases hj : j < z.2.length
  · have hj' : (j : Int) < (z.2.length : Int) := by omega
    obtain ⟨ad, rfl⟩ : ∃ ad, qz = some ad := by
      cases qz with
      | none => have := HSZ.out.nil rfl; omega
      | some ad => exact ⟨ad, rfl⟩
    have hjc : j ≤ cz := by omega
    have hcp : Hid (cutP pk j = (z.2.take j, -1)) := by unfold cutP; rw [Hid, ← HZP.out, if_pos hj]
    obtain ⟨lz, hlz⟩ : ∃ lz, lz = z.2.length := ⟨_, rfl⟩
    rw [← hlz] at t1 HSZ HEZ bz bzc hj hj'
    have HLZ := Lib.hid hlz
    go_enter Try.func21, Try.ntmps21
    go_wp2_with fail
    rw [← hW]
    clear hW
    go_quiet (fail)
    go_wp2_with fail
    have hd0 : Below W.heap.size W (W.drewN nq) := below_drewN _ _
    refine Calls.mono (without_any (some ⟨b1, o1, none⟩) (some ⟨b2, o2, none⟩) n c1 c2 i (Z.map (·.1)) (PS.map (·.2)) (W.drewN nq) ((HZ2.out.keep HBW.out).keep hd0) ((H2.out.keep HBW.out).keep hd0) HZ3.out.slices (by omega) hi) ?_
    rintro e w1 hR
    obtain ⟨L, hL⟩ : ∃ L, L = n - 1 := ⟨_, rfl⟩
    obtain ⟨q1, d1, q2, d2, rfl, g1, g2, g3⟩ := RetT.named hR (l1.out.trans hL.symm) (l2.out.trans hL.symm)
    have HL := Lib.hid hL
    have hL5 : L < 5000 := by omega
    have G1 := Lib.hid g1; have G2 := Lib.hid g2; have G3 := Lib.hid g3
    have k1 : Below w.heap.size w w1 := (bdn HBW.out (n := nq)).trans (g3.mono HBW.out.size)
    have K1 := Lib.hid k1
    have x1 := (g3.block _ (lt_of_cell s0)).trans X1.out
    have u1 : w1.cell? ⟨w.heap.size, 1, none⟩ = some (.int .i64 i) := cell_of_row _ _ 1 _ _ _ x1
    have u2 : w1.cell? ⟨w.heap.size, 2, none⟩ = some (.int .i64 j) := cell_of_row _ _ 2 _ _ _ x1
    have v1' : w1.cell? ⟨b1, o1 + i, none⟩ = some (.slice (some ad) lz cz) := (g3.cell (p := ⟨b1, o1 + i, none⟩) (lt_of_cell t1)).trans t1
    have v2' : w1.cell? ⟨b2, o2 + i, none⟩ = some (.int .i64 pk.2) := (g3.cell (p := ⟨b2, o2 + i, none⟩) (lt_of_cell t2)).trans t2
    clear hR hL g1 g2 g3 k1 x1
    have hZ1' := Lib.hid ((hZW.out.keep hd0).keep G3.out)
    have hTk : Hid (Sl B8 w1 (some ad) j cz (z.2.take j)) := Sl.take_c (((HSZ.out.keep HBW.out).keep hd0).keep G3.out) (by omega)
    have FIN : Hid (∀ W' e w2, Below w1.heap.size w1 W' → RetT W' (putAt (dropAt (Z.map (·.1)) i) (min i L) (.slice (some ad) j cz)) (putAt (dropAt (PS.map (·.2)) i) (min i L) (-1)) e w2 → RetSt W' (PS.set i (cutP pk j)) e w2) := fun W' e w2 hb hR => by
      rw [hcp.out, set_put _ HNN.out hi, ← HL.out]
      have hlt : (z.2.take j).length = j := by rw [List.length_take, ← HLZ.out]; omega
      exact RetT.st (Z := putAt (dropAt Z i) (min i L) (.slice (some ad) j cz, z.2.take j)) hR (fun y hy => by
        rcases putAt_mem hy with rfl | hy
        · exact ⟨some ad, cz, by rw [hlt], by rw [hlt]; exact hTk.out.keep hb⟩
        · exact hZ1'.out.keep hb y ((dropAt_sub _ _).subset hy)) (by rw [putAt_map, dropAt_map]) (by rw [putAt_map, dropAt_map, putAt_map, dropAt_map, HZ1.out]) (by rw [putAt_map, dropAt_map])
    clear t1 t2 s0 s1 s2 hd0
    go_wp2_with fail
    refine wp_region_shapes (fun ix => ([.val (.slice q1 L d1), .val (.slice q2 L d2), .val (.pointer (some ⟨w.heap.size, 1, none⟩)), .val (.int .i64 i), .val (.slice (some ⟨b1, o1, none⟩) n c1), .val (.pointer (some ⟨w.heap.size, 1, none⟩)), .val (.int .i64 i), .val (.pointer (some ⟨b1, o1 + i, none⟩)), .val (.slice (some ad) lz cz), .val (.pointer (some ⟨w.heap.size, 2, none⟩)), .val (.int .i64 j), .val (.slice (some ad) j cz), ShpT (PS.set i (cutP pk j)), .rows ((PS.set i (cutP pk j)).map (·.1)), ShpI ((PS.set i (cutP pk j)).map (·.2)), .rows ((PS.set i (cutP pk j)).map (·.1)), ShpI ((PS.set i (cutP pk j)).map (·.2))][ix]?).getD (.any)) 218 rfl (by kernel_rfl) (by decide) (by decide) (by decide) ?_ ?_
    · refine ⟨?_, ?_, ?_, ?_, ?_, ?_, ?_, ?_, ?_, ?_, ?_, ?_, ?_, ?_, ?_, ?_, ?_, trivial⟩
      · intro a W hb0 hs hp hi; have hb := undrew hb0; clear hb0
        have t10 : sl a 10 = .slice q1 L d1 := hi 10 (by decide)
        exact ite_y rfl (wp_val (sl a 10) rfl ⟨_, rfl, Below.refl _ _, t10⟩)
      · intro a W hb0 hs hp hi; have hb := undrew hb0; clear hb0
        have t11 : sl a 11 = .slice q2 L d2 := hi 11 (by decide)
        exact ite_y rfl (wp_val (sl a 11) rfl ⟨_, rfl, Below.refl _ _, t11⟩)
      · intro a W hb0 hs hp hi; have hb := undrew hb0; clear hb0
        have t5 : sl a 5 = .pointer (some ⟨w.heap.size, 0, none⟩) := hi 5 (by decide)
        refine ite_y rfl (wp_val (.pointer (some ⟨w.heap.size, 1, none⟩)) ?_ ?_)
        · simp only [execOp, eval_tmp, eval_const, t5]; simp [go_sem]
        · exact ⟨_, rfl, Below.refl _ _, rfl⟩
      · intro a W hb0 hs hp hi; have hb := undrew hb0; clear hb0
        have tt : sl a 121 = .pointer (some ⟨w.heap.size, 1, none⟩) := hp 2 (by decide)
        have dd := (hb.cell (p := ⟨w.heap.size, 1, none⟩) (lt_of_cell u1)).trans u1
        refine ite_y rfl (wp_val (.int .i64 i) ?_ ?_)
        · simp only [execOp, eval_tmp, tt]; simp [go_sem, dd]
        · exact ⟨_, rfl, Below.refl _ _, rfl⟩
      · intro a W hb0 hs hp hi; have hb := undrew hb0; clear hb0
        have t0 : sl a 0 = .slice (some ⟨b1, o1, none⟩) n c1 := hi 0 (by decide)
        exact ite_y rfl (wp_val (sl a 0) rfl ⟨_, rfl, Below.refl _ _, t0⟩)
      · intro a W hb0 hs hp hi; have hb := undrew hb0; clear hb0
        have t5 : sl a 5 = .pointer (some ⟨w.heap.size, 0, none⟩) := hi 5 (by decide)
        refine ite_y rfl (wp_val (.pointer (some ⟨w.heap.size, 1, none⟩)) ?_ ?_)
        · simp only [execOp, eval_tmp, eval_const, t5]; simp [go_sem]
        · exact ⟨_, rfl, Below.refl _ _, rfl⟩
      · intro a W hb0 hs hp hi; have hb := undrew hb0; clear hb0
        have tt : sl a 124 = .pointer (some ⟨w.heap.size, 1, none⟩) := hp 5 (by decide)
        have dd := (hb.cell (p := ⟨w.heap.size, 1, none⟩) (lt_of_cell u1)).trans u1
        refine ite_y rfl (wp_val (.int .i64 i) ?_ ?_)
        · simp only [execOp, eval_tmp, tt]; simp [go_sem, dd]
        · exact ⟨_, rfl, Below.refl _ _, rfl⟩
      · intro a W hb0 hs hp hi; have hb := undrew hb0; clear hb0
        have ta : sl a 123 = .slice (some ⟨b1, o1, none⟩) n c1 := hp 4 (by decide)
        have ti : sl a 125 = .int .i64 i := hp 6 (by decide)
        refine ite_y rfl (wp_val (.pointer (some ⟨b1, o1 + i, none⟩)) ?_ ?_)
        · simp only [execOp, eval_tmp, ta, ti]; simp [go_sem, i1]
        · exact ⟨_, rfl, Below.refl _ _, rfl⟩
      · intro a W hb0 hs hp hi; have hb := undrew hb0; clear hb0
        have tt : sl a 126 = .pointer (some ⟨b1, o1 + i, none⟩) := hp 7 (by decide)
        have dd := (hb.cell (p := ⟨b1, o1 + i, none⟩) (lt_of_cell v1')).trans v1'
        refine ite_y rfl (wp_val (.slice (some ad) lz cz) ?_ ?_)
        · simp only [execOp, eval_tmp, tt]; simp [go_sem, dd]
        · exact ⟨_, rfl, Below.refl _ _, rfl⟩
      · intro a W hb0 hs hp hi; have hb := undrew hb0; clear hb0
        have t5 : sl a 5 = .pointer (some ⟨w.heap.size, 0, none⟩) := hi 5 (by decide)
        refine ite_y rfl (wp_val (.pointer (some ⟨w.heap.size, 2, none⟩)) ?_ ?_)
        · simp only [execOp, eval_tmp, eval_const, t5]; simp [go_sem]
        · exact ⟨_, rfl, Below.refl _ _, rfl⟩
      · intro a W hb0 hs hp hi; have hb := undrew hb0; clear hb0
        have tt : sl a 128 = .pointer (some ⟨w.heap.size, 2, none⟩) := hp 9 (by decide)
        have dd := (hb.cell (p := ⟨w.heap.size, 2, none⟩) (lt_of_cell u2)).trans u2
        refine ite_y rfl (wp_val (.int .i64 j) ?_ ?_)
        · simp only [execOp, eval_tmp, tt]; simp [go_sem, dd]
        · exact ⟨_, rfl, Below.refl _ _, rfl⟩
      · intro a W hb0 hs hp hi; have hb := undrew hb0; clear hb0
        have ta : sl a 127 = .slice (some ad) lz cz := hp 8 (by decide)
        have ti : sl a 129 = .int .i64 j := hp 10 (by decide)
        have vi : a.tmps[129]?.getD undef = .int .i64 j := by simpa [sl] using ti
        refine ite_y rfl (wp_val (.slice (some ad) j cz) ?_ ?_)
        · simp only [execOp, eval_tmp, ta, ti]; simp [go_sem, vi, show ¬ ((j : Int) < 0) by omega, show ¬ ((cz : Int) < (j : Int)) by omega, show ¬ (cz < j) by omega, show j ≤ cz by omega, bz2]
        · exact ⟨_, rfl, Below.refl _ _, rfl⟩
      · intro a W hb0 hs hp hi; have hb := undrew hb0; clear hb0
        have t119 : sl a 119 = .slice q1 L d1 := hp 0 (by decide)
        have t120 : sl a 120 = .slice q2 L d2 := hp 1 (by decide)
        have t122 : sl a 122 = .int .i64 i := hp 3 (by decide)
        have t130 : sl a 130 = .slice (some ad) j cz := hp 11 (by decide)
        refine ite_y rfl (wp_enter 34 #[.slice q1 L d1, .slice q2 L d2, .int .i64 i, .slice (some ad) j cz, .int .i64 (-1)] ?_ (put_any q1 q2 (some ad) L d1 d2 j cz i (-1) (dropAt (Z.map (·.1)) i) (dropAt (PS.map (·.2)) i) _ ((Sl.ids G1.out).keep hb) ((Sl.of_owns G2.out).keep hb) (fun v hv => HZ3.out.slices v ((dropAt_sub _ _).subset hv)) hL5) ?_)
        · simp only [execOp, resolve, List.map_toArray, List.map, eval_tmp, eval_func, eval_const, t119, t120, t122, t130]; simp [go_sem]
        · rintro e W' hR; obtain ⟨L', q1', d1', q2', d2', hL', rfl, s1', s2', hw⟩ := FIN.out W e W' hb hR; exact ⟨_, rfl, _, rfl, hw, L', q1', d1', q2', d2', hL', rfl, s1', s2'⟩
      · intro a W hb0 hs hp hi; have hb := undrew hb0; clear hb0
        have tt : (ShpT (PS.set i (cutP pk j))).ok (sl a 131) W := hp 12 (by decide)
        obtain ⟨L', q1', d1', q2', d2', hL', et, s1', s2'⟩ := tt
        refine ite_y rfl (wp_val (.slice q1' L' d1') ?_ ?_)
        · simp only [execOp, eval_tmp, et]; rfl
        · exact ⟨_, rfl, Below.refl _ _, q1', L', d1', rfl, s1'⟩
      · intro a W hb0 hs hp hi; have hb := undrew hb0; clear hb0
        have tt : (ShpT (PS.set i (cutP pk j))).ok (sl a 131) W := hp 12 (by decide)
        obtain ⟨L', q1', d1', q2', d2', hL', et, s1', s2'⟩ := tt
        refine ite_y rfl (wp_val (.slice q2' L' d2') ?_ ?_)
        · simp only [execOp, eval_tmp, et]; rfl
        · exact ⟨_, rfl, Below.refl _ _, q2', L', d2', rfl, s2'⟩
      · intro a W hb0 hs hp hi; have hb := undrew hb0; clear hb0
        exact ite_y rfl (wp_val (sl a 132) rfl ⟨_, rfl, Below.refl _ _, hp 13 (by decide)⟩)
      · intro a W hb0 hs hp hi; have hb := undrew hb0; clear hb0
        exact ite_y rfl (wp_val (sl a 133) rfl ⟨_, rfl, Below.refl _ _, hp 14 (by decide)⟩)
    · intro a w9 hb hs hd hI ht
      have ha := act_is [119, 120, 121, 122, 123, 124, 125, 126, 127, 128, 129, 130, 131, 132, 133, 6, 7] hs hd ht (by decide)
      have y6 : (Shp.rows ((PS.set i (cutP pk j)).map (·.1))).ok (sl a 6) w9 := hI 15 (by decide)
      obtain ⟨p6, n6, k6, t6, z6⟩ := y6
      have y7 : (ShpI ((PS.set i (cutP pk j)).map (·.2))).ok (sl a 7) w9 := hI 16 (by decide)
      obtain ⟨p7, n7, k7, t7, z7⟩ := y7
      simp only [List.foldl, t6, t7] at ha
      generalize sl a 119 = u119 at ha
      generalize sl a 120 = u120 at ha
      generalize sl a 121 = u121 at ha
      generalize sl a 122 = u122 at ha
      generalize sl a 123 = u123 at ha
      generalize sl a 124 = u124 at ha
      generalize sl a 125 = u125 at ha
      generalize sl a 126 = u126 at ha
      generalize sl a 127 = u127 at ha
      generalize sl a 128 = u128 at ha
      generalize sl a 129 = u129 at ha
      generalize sl a 130 = u130 at ha
      generalize sl a 131 = u131 at ha
      generalize sl a 132 = u132 at ha
      generalize sl a 133 = u133 at ha
      simp only [Act.put, List.setIfInBounds_toArray, List.set_cons_zero, List.set_cons_succ] at ha
      rw [ha]; clear ha
      have e67 : n7 = n6 := by have g1 := z6.len; have g2 := z7.len; rw [List.length_map] at g1 g2; omega
      subst e67
      have HST : Hid (RetSt w (PS.set i (cutP pk j)) (.returned (.tuple #[.slice p6 n7 k6, .slice p7 n7 k7])) w9) := ⟨n7, p6, k6, p7, k7, by have g1 := z6.len; rw [List.length_map] at g1; exact g1.symm, rfl, z6, z7, K1.out.trans (hb.mono K1.out.size)⟩
      clear z6 z7 hI
      go_wp2
      go_ret2
      exact HST.out
  · have hj' : (z.2.length : Int) ≤ (j : Int) := by omega
    have hcp : Hid (PS.set i (cutP pk j) = PS) := by unfold cutP; rw [Hid, ← HZP.out, if_neg hj]; exact set_get HPK.out
    have FIN : Hid (∀ k, RetSt w PS (.returned (.tuple #[.slice (some ⟨b1, o1, none⟩) n c1, .slice (some ⟨b2, o2, none⟩) n c2])) (W.drewN k)) := fun k => ⟨n, _, c1, _, c2, HNN.out, rfl, (H1.out.keep HBW.out).keep (below_drewN _ _), (H2.out.keep HBW.out).keep (below_drewN _ _), bdn HBW.out⟩
    obtain ⟨lz, hlz⟩ : ∃ lz, lz = z.2.length := ⟨_, rfl⟩
    rw [← hlz] at t1 bz bzc hj'
    clear hj hlz
    go_enter Try.func21, Try.ntmps21
    go_wp2_with fail
    rw [← hW]
    clear hW
    go_quiet (fail)
    go_wp2
    go_ret2
    rw [hcp.out]
    exact FIN.out _
end Go.Proofs.Ytlfcijpkdhdmeaa
