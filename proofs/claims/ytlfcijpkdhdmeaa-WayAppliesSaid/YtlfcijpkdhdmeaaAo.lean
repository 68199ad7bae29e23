/- The contract of the reference's Step of layer 20: mask. -/
import Derived.Test.YtlfcijpkdhdmeaaAm
namespace Go.Proofs.Ytlfcijpkdhdmeaa
open Go.RowKit Go.By
theorem maskF_still (b j : Nat) (xs : List UInt8) : ∀ k, (maskF b j xs k).2 = false → (maskF b j xs k).1 = xs
  | 0, _ => rfl
  | k + 1, h => by
    unfold maskF at h ⊢
    split at h
    · simp at h
    · rename_i hc
      rw [if_neg hc]
      exact maskF_still b j xs k h
theorem rem_two (b k : Nat) : ((b : Int) / 2 ^ k % 2 == 1) = b.testBit k ∧ (((b : Int) / 2 ^ k).tmod 2 == 1) = b.testBit k := by
  have e : (b : Int) / 2 ^ k % 2 = ((b / 2 ^ k % 2 : Nat) : Int) := by simp
  have h1 : ((b : Int) / 2 ^ k % 2 == 1) = b.testBit k := by
    rw [e, Nat.testBit_eq_decide_div_mod_eq]
    rcases Nat.mod_two_eq_zero_or_one (b / 2 ^ k) with h | h <;> rw [h] <;> rfl
  refine ⟨h1, ?_⟩
  rw [← h1, Int.tmod_eq_emod_of_nonneg (Int.ediv_nonneg (by omega) (by exact_mod_cast Nat.zero_le _))]
set_option maxRecDepth 100000 in
set_option maxHeartbeats 4000000 in
theorem Step4_any (p1 p2 q : Option Addr) (c1 c2 m c' i j b : Nat) (pk : Pack) (PS : List Pack) (bs : List UInt8) (w : World) (h1 : Sl2 w p1 PS.length c1 (PS.map (·.1))) (h2 : Sl I64 w p2 PS.length c2 (PS.map (·.2))) (hs : Sl B8 w q m c' bs) (hn : PS.length < 4096) (hi : i < PS.length) (hj63 : j ≤ 9223372036854775807) (hb32 : b < 4294967296) (hpk0 : PS[i]? = some pk) (hroom : Room pk.1.length) :
    Calls Try.prog 21 #[.slice p1 PS.length c1, .slice p2 PS.length c2, .agg #[.int .i64 4, .int .i64 i, .int .i64 j, .int .u32 b, .slice q m c']] w (RetSt w (PS.set i (maskP pk b j))) := by
  obtain ⟨Z, hZ1, hZ2, hZ3⟩ := valZ_of h1
  have hB := fun o => al (o := o) (Below.refl w.heap.size w) (Nat.le_refl _)
  have hZl : Hid (Z.length = PS.length) := by have := hZ2.len; rw [List.length_map] at this; exact this
  obtain ⟨n, hnn⟩ : ∃ n, n = PS.length := ⟨_, rfl⟩
  have bn : n ≤ 9223372036854775807 := by omega
  rw [← hnn] at h1 h2 hZ2 hn ⊢
  have HNN := Lib.hid hnn
  have H1 := Lib.hid h1; have H2 := Lib.hid h2; have HS := Lib.hid hs; have HZ1 := Lib.hid hZ1; have HZ2 := Lib.hid hZ2; have HZ3 := Lib.hid hZ3; have HB := Lib.hid hB
  obtain ⟨W, hW⟩ : ∃ W, W = w.alloc (.cells #[.int .i64 4, .int .i64 i, .int .i64 j, .int .u32 b, .slice q m c'] 49) := ⟨_, rfl⟩
  have HBW : Hid (Below w.heap.size w W) := by show Below _ _ _; rw [hW]; exact hB _
  have x1 : W.heap[w.heap.size]? = some (.cells #[.int .i64 4, .int .i64 i, .int .i64 j, .int .u32 b, .slice q m c'] 49 (0, 0)) := by rw [hW]; exact hnew rfl
  have s0 : W.cell? ⟨w.heap.size, 0, none⟩ = some (.int .i64 4) := cell_of_row _ _ 0 _ _ _ x1
  have s1 : W.cell? ⟨w.heap.size, 1, none⟩ = some (.int .i64 i) := cell_of_row _ _ 1 _ _ _ x1
  have s2 : W.cell? ⟨w.heap.size, 2, none⟩ = some (.int .i64 j) := cell_of_row _ _ 2 _ _ _ x1
  have X1 := Lib.hid x1
  clear h1 h2 hs hZ1 hZ2 hZ3 hB hnn x1
  have hi' : i < n := by rw [HNN.out]; exact hi
  clear hi
  have hi := hi'
  clear hi'
  have hil : i < Z.length := by rw [hZl.out, ← HNN.out]; exact hi
  obtain ⟨z, hz⟩ : ∃ z, Z[i]? = some z := ⟨_, List.getElem?_eq_getElem hil⟩
  have hpk := hpk0
  clear hpk0
  have hzp : z.2 = pk.1 := by
    have := congrArg (fun l => l[i]?) HZ1.out
    simp only [List.getElem?_map, hz, hpk] at this
    simpa using this
  obtain ⟨qz, cz, ez, hsz⟩ := HZ3.out z (List.mem_of_getElem? hz)
  obtain ⟨b1, o1, v1, rfl, hc1, hx1⟩ := HZ2.out.at i hi
  obtain ⟨b2, o2, y2, rfl, hc2, hx2⟩ := H2.out.at i hi
  have hv1 : v1 = .slice qz z.2.length cz := by
    have := hx1.out; rw [List.getElem?_map, hz] at this
    rw [← ez]; simpa using this.symm
  have hy2 : y2 = pk.2 := by have := hx2.out; rw [List.getElem?_map, hpk] at this; simpa using this.symm
  subst hv1; subst hy2
  have t1 : W.cell? ⟨b1, o1 + i, none⟩ = some (.slice qz z.2.length cz) := (HBW.out.cell (p := ⟨b1, o1 + i, none⟩) (lt_of_cell hc1)).trans hc1
  have t2 : W.cell? ⟨b2, o2 + i, none⟩ = some (.int .i64 pk.2) := (HBW.out.cell (p := ⟨b2, o2 + i, none⟩) (lt_of_cell hc2)).trans hc2
  have HSZ := Lib.hid hsz
  have i1 : (i : Int) < (n : Int) := by omega
  have HZI := Lib.hid hz; have HPK := Lib.hid hpk; have HZP := Lib.hid hzp; have HEZ := Lib.hid ez
  clear hc1 hc2 hsz hz hpk hzp ez
  have l1 : Hid ((dropAt (Z.map (·.1)) i).length = n - 1) := by show _ = _; rw [dropAt_length (by rw [List.length_map, hZl.out, ← HNN.out]; exact hi), List.length_map, hZl.out, HNN.out]
  have l2 : Hid ((dropAt (PS.map (·.2)) i).length = n - 1) := by show _ = _; rw [dropAt_length (by rw [List.length_map, ← HNN.out]; exact hi), List.length_map, HNN.out]
  have hZW := Lib.hid (HZ3.out.keep HBW.out)
  obtain ⟨i0, hi0, hz0, hz1, hz2⟩ := info_parts info_u8
  have s3 : W.cell? ⟨w.heap.size, 3, none⟩ = some (.int .u32 b) := cell_of_row _ _ 3 _ _ _ X1.out
  have hlzr : z.2.length ≤ 140737488355328 := by rw [HZP.out]; exact hroom
  obtain ⟨lz, hlz⟩ : ∃ lz, lz = z.2.length := ⟨_, rfl⟩
  rw [← hlz] at t1 HSZ HEZ hlzr
  have HLZ := Lib.hid hlz
  have bz := HSZ.out.le
  have bz2 := HSZ.out.max
  clear hlz hroom s0 s1 s2 s3 t2
  subst hW
  go_enter Try.func21, Try.ntmps21
  go_wp2_with (at_builtin; refine wpList_append_rs _ rfl _ _ 28 rfl (w.heap.size + 1) 5 i0 (.int .u8 0) 1 Try.underlying28 hi0 hz0 hz1 hz2 rfl _ 0 [] rfl (World.ownsRow_nil _ _ _ _) B8 _ _ _ z.2 (fun _ _ => rfl) rfl (HSZ.out.keep (HB.out _)) ?c1 ?c2 ?c3 ?_)
  case c1 => omega
  case c2 => omega
  case c3 => simp
  intro v' w2 ho2 hg2
  obtain ⟨q3, c3, rfl⟩ := owns_shape ho2
  have kw2 : Hid (Below w.heap.size w w2) := (HB.out _).grown hg2 (by simp) (by simp [Value.ownBlock])
  have hx2 : Hid (w2.heap[w.heap.size]? = some (.cells #[.int .i64 4, .int .i64 i, .int .i64 j, .int .u32 b, .slice q m c'] 49 (0, 0))) := by
    show _ = _
    rw [hg2.block _ (by simp) (by simp [Value.ownBlock])]; exact X1.out
  have HO2 := Lib.hid ho2
  clear ho2 hg2 t1
  go_wp2
  go_loopw [13, 14] (fun f i' wr => ∃ k : Nat, k ≤ 32 ∧ i' = .int .i64 k ∧ f = .bool (maskF b j z.2 k).2 ∧ Hid (wr.ownsRow (w.heap.size + 1) 5 1 (.slice q3 lz c3) lz ((maskF b j z.2 k).1.map B8)) ∧ Hid (Below w.heap.size w wr) ∧
    Hid (wr.heap[w.heap.size]? = some (.cells #[.int .i64 4, .int .i64 i, .int .i64 j, .int .u32 b, .slice q m c'] 49 (0, 0)))) (fun _ i' _ => 32 - (intOf i').toNat)
  case atStart => exact ⟨0, by omega, rfl, rfl, HO2.out, kw2.out, hx2.out⟩
  case round =>
    obtain ⟨k, hk, rfl, rfl, hO, hB', hX⟩ := hrel
    by_cases hlt : k < 32
    · have u2 : wr.cell? ⟨w.heap.size, 2, none⟩ = some (.int .i64 j) := cell_of_row _ _ 2 _ _ _ hX.out
      have u3 : wr.cell? ⟨w.heap.size, 3, none⟩ = some (.int .u32 b) := cell_of_row _ _ 3 _ _ _ hX.out
      have hrem := (rem_two b k).1
      have hrem2 := (rem_two b k).2
      have hstep : Hid (maskF b j z.2 (k + 1) = if b.testBit k = true ∧ (j + k) / 8 < z.2.length then (flip (maskF b j z.2 k).1 (j + k), true) else maskF b j z.2 k) := rfl
      by_cases hnear : j < 8 * lz
      · have n1 : (j : Int) < 8 * (lz : Int) := by omega
        by_cases hin : j + k < 8 * lz
        · have n2 : (j : Int) + (k : Int) < 8 * (lz : Int) := by omega
          have hdiv : (j + k) / 8 < lz := by omega
          obtain ⟨gb, rfl⟩ : ∃ gb, q3 = some ⟨gb, 0, none⟩ := by
            obtain ⟨gb, hq, _⟩ := owns_at hO.out (by omega); exact ⟨gb, hq⟩
          have hx : ∃ x, (maskF b j z.2 k).1[(j + k) / 8]? = some x := by
            have : (j + k) / 8 < (maskF b j z.2 k).1.length := by rw [maskF_len, ← HLZ.out]; exact hdiv
            exact ⟨_, List.getElem?_eq_getElem this⟩
          obtain ⟨x, hx⟩ := hx
          have cx : wr.cell? ⟨gb, (j + k) / 8, none⟩ = some (B8 x) := by rw [hO.out.cellAt _ (by omega), List.getElem?_map, hx]; rfl
          have zx : wr.frozen? ⟨gb, (j + k) / 8, none⟩ = false := hO.out.frozenAt _
          have in1 : ((j : Int) + (k : Int)) / 8 < (lz : Int) := by omega
          have hidx : (((j : Int) + (k : Int)) / 8).toNat = (j + k) / 8 := by omega
          have HX := Lib.hid hx
          clear hx
          by_cases hbit : b.testBit k = true
          · rw [hbit] at hrem hrem2
            go_wp2_with fail
            go_region
            rw [flip_val x _ (Nat.mod_lt _ (by decide))]
            have hgb := (hO.out.lt gb rfl)
            have e : Hid (maskF b j z.2 (k + 1) = ((maskF b j z.2 k).1.set ((j + k) / 8) (x ^^^ UInt8.ofNat (2 ^ ((j + k) % 8))), true)) := by
              show _ = _
              rw [hstep.out, if_pos ⟨hbit, by rw [← HLZ.out]; exact hdiv⟩]
              unfold flip
              rw [show (maskF b j z.2 k).1.getD ((j + k) / 8) 0 = x by simp [List.getD, HX.out]]
            have P2 : Hid ((wr.setCell ⟨gb, (j + k) / 8, none⟩ (B8 (x ^^^ UInt8.ofNat (2 ^ ((j + k) % 8))))).ownsRow (w.heap.size + 1) 5 1 (.slice (some ⟨gb, 0, none⟩) lz c3) lz ((maskF b j z.2 (k + 1)).1.map B8) ∧ Below w.heap.size w (wr.setCell ⟨gb, (j + k) / 8, none⟩ (B8 (x ^^^ UInt8.ofNat (2 ^ ((j + k) % 8))))) ∧
                (wr.setCell ⟨gb, (j + k) / 8, none⟩ (B8 (x ^^^ UInt8.ofNat (2 ^ ((j + k) % 8))))).heap[w.heap.size]? = some (.cells #[.int .i64 4, .int .i64 i, .int .i64 j, .int .u32 b, .slice q m c'] 49 (0, 0))) := by
              refine ⟨?_, hB'.out.setCell (by show w.heap.size ≤ gb; omega) _, hsc hX.out (by show w.heap.size ≠ gb; omega)⟩
              rw [e.out, List.map_set]; exact (hO.out.stored _ _).1
            clear cx zx u2 u3 hrem hrem2
            generalize wr.setCell ⟨gb, (j + k) / 8, none⟩ (B8 (x ^^^ UInt8.ofNat (2 ^ ((j + k) % 8)))) = w5 at *
            go_wp2
            go_roundw
            case rel => exact ⟨k + 1, by omega, by go_num, by rw [e.out], P2.out.1.kept (grownBy_drew _ none) (.inr (by simp [Value.ownBlock])), P2.out.2.1.drew, P2.out.2.2⟩
            case measure => simp [intOf]; omega
          · have hbf : b.testBit k = false := by simpa using hbit
            rw [hbf] at hrem hrem2
            have e : Hid (maskF b j z.2 (k + 1) = maskF b j z.2 k) := by show _ = _; rw [hstep.out, if_neg (fun h => hbit h.1)]
            clear cx zx
            go_wp2
            go_roundw
            case rel => exact ⟨k + 1, by omega, by go_num, by rw [e.out], by rw [e.out]; exact hO.out, hB'.out, hX.out⟩
            case measure => simp [intOf]; omega
        · have n2 : 8 * (lz : Int) ≤ (j : Int) + (k : Int) := by omega
          have e : Hid (maskF b j z.2 (k + 1) = maskF b j z.2 k) := by show _ = _; rw [hstep.out, if_neg (fun h => by have := h.2; rw [← HLZ.out] at this; omega)]
          clear hrem hrem2 hin
          go_wp2
          go_roundw
          case rel => exact ⟨k + 1, by omega, by go_num, by rw [e.out], by rw [e.out]; exact hO.out, hB'.out, hX.out⟩
          case measure => simp [intOf]; omega
      · have n1 : 8 * (lz : Int) ≤ (j : Int) := by omega
        have e : Hid (maskF b j z.2 (k + 1) = maskF b j z.2 k) := by show _ = _; rw [hstep.out, if_neg (fun h => by have := h.2; rw [← HLZ.out] at this; omega)]
        clear hrem hrem2 hnear
        go_wp2
        go_roundw
        case rel => exact ⟨k + 1, by omega, by go_num, by rw [e.out], by rw [e.out]; exact hO.out, hB'.out, hX.out⟩
        case measure => simp [intOf]; omega
    · have hk32 : k = 32 := by omega
      subst hk32
      obtain ⟨M, hM⟩ : ∃ M, M = maskF b j z.2 32 := ⟨_, rfl⟩
      rw [← hM] at hO ⊢
      have hmp : Hid (maskP pk b j = (M.1, if M.2 then -1 else pk.2)) := by unfold maskP; rw [Hid, hM, HZP.out]
      have hml : Hid (M.1.length = lz) := by show _ = _; rw [hM, maskF_len, HLZ.out]
      have hquiet : Hid (M.2 = false → M.1 = pk.1) := fun h => by rw [hM] at h ⊢; rw [← HZP.out]; exact maskF_still _ _ _ _ h
      obtain ⟨M1, M2⟩ := M
      simp only at hO hmp hml hquiet ⊢
      clear hM
      cases M2 with
      | true =>
        have u1 : wr.cell? ⟨w.heap.size, 1, none⟩ = some (.int .i64 i) := cell_of_row _ _ 1 _ _ _ hX.out
        go_wp2_with fail
        refine Calls.mono (without_any (some ⟨b1, o1, none⟩) (some ⟨b2, o2, none⟩) n c1 c2 i (Z.map (·.1)) (PS.map (·.2)) wr (HZ2.out.keep hB'.out) (H2.out.keep hB'.out) HZ3.out.slices (by omega) hi) ?_
        rintro e w6 hR
        obtain ⟨L, hL⟩ : ∃ L, L = n - 1 := ⟨_, rfl⟩
        obtain ⟨q1, d1, q2, d2, rfl, g1, g2, g3⟩ := RetT.named hR (l1.out.trans hL.symm) (l2.out.trans hL.symm)
        have hL5 : L < 5000 := by omega
        have HL := Lib.hid hL
        have G1 := Lib.hid g1; have G2 := Lib.hid g2
        have K6 : Hid (Below w.heap.size w w6) := hB'.out.trans (g3.mono hB'.out.size)
        have u1' : w6.cell? ⟨w.heap.size, 1, none⟩ = some (.int .i64 i) := (g3.cell (p := ⟨w.heap.size, 1, none⟩) (lt_of_cell u1)).trans u1
        have hO6 : Hid (Sl B8 w6 q3 lz c3 M1) := (Sl.of_owns hO.out).keep g3
        clear hR hL g1 g2 g3 u1
        go_wp2_with fail
        refine Calls.mono (put_any q1 q2 q3 L d1 d2 lz c3 i (-1) (dropAt (Z.map (·.1)) i) (dropAt (PS.map (·.2)) i) w6 (Sl.ids G1.out) (Sl.of_owns G2.out) (fun v hv => HZ3.out.slices v ((dropAt_sub _ _).subset hv)) hL5) ?_
        rintro e w7 hR
        have HST : Hid (RetSt w (PS.set i (maskP pk b j)) e w7) := by
          show RetSt _ _ _ _
          rw [hmp.out, if_pos trivial, set_put _ HNN.out hi, ← HL.out]
          exact (RetT.st (Z := putAt (dropAt Z i) (min i L) (.slice q3 lz c3, M1)) hR (fun y hy => by
            rcases putAt_mem hy with rfl | hy
            · exact ⟨q3, c3, by rw [hml.out], by rw [hml.out]; exact hO6.out⟩
            · exact HZ3.out.keep K6.out y ((dropAt_sub _ _).subset hy)) (by rw [putAt_map, dropAt_map]) (by rw [putAt_map, dropAt_map, putAt_map, dropAt_map, HZ1.out]) (by rw [putAt_map, dropAt_map])).below K6.out
        obtain ⟨L', q1', d1', q2', d2', -, rfl, -⟩ := HST.out
        clear hR
        go_wp2
        go_ret2
        exact HST.out
      | false =>
        have HST : Hid (RetSt w (PS.set i (maskP pk b j)) (.returned (.tuple #[.slice (some ⟨b1, o1, none⟩) n c1, .slice (some ⟨b2, o2, none⟩) n c2])) wr) := by
          have e : PS.set i (maskP pk b j) = PS := by rw [hmp.out, hquiet.out rfl]; exact set_get HPK.out
          show RetSt _ _ _ _
          rw [e]
          exact ⟨n, _, c1, _, c2, HNN.out, rfl, H1.out.keep hB'.out, H2.out.keep hB'.out, hB'.out⟩
        go_wp2
        go_ret2
        exact HST.out
end Go.Proofs.Ytlfcijpkdhdmeaa
