/- The contract of the act mask. -/
import Derived.Test.YtlfcijpkdhdmeaaAa
import Derived.BigQuiet
namespace Go.Proofs.Ytlfcijpkdhdmeaa
open Go.RowKit Go.By
/-- what a mask does to a parcel -/
def maskP (p : List UInt8 × Int) (b j : Nat) : List UInt8 × Int := ((maskF b j p.1 32).1, if (maskF b j p.1 32).2 then -1 else p.2)
theorem maskF_far (b j : Nat) (xs : List UInt8) (h : xs.length ≤ j / 8) : ∀ k, maskF b j xs k = (xs, false)
  | 0 => rfl
  | k + 1 => by
    unfold maskF
    rw [if_neg (by rintro ⟨_, h2⟩; have : j / 8 ≤ (j + k) / 8 := Nat.div_le_div_right (by omega); omega)]
    exact maskF_far b j xs h k
theorem wraps_u32' (n : Int) (h₀ : 0 ≤ n) (h₁ : n < 2 ^ 32) : IntKind.u32.wrap n = n := by rw [IntKind.wrap_u32]; omega
theorem flip_val (x : UInt8) (e : Nat) (he : e < 8) : Value.int .u8 (bits .xor .u8 (x.toNat : Int) ((2 : Int) ^ e % 256)) = B8 (x ^^^ UInt8.ofNat (2 ^ e)) := by
  have h2 : ∀ e, e < 8 → ((UInt8.ofNat (2 ^ e)).toNat : Int) = (2 : Int) ^ e % 256 := by decide
  rw [← h2 e he, bits_xor]
theorem and_one (b k : Nat) (hb : b < 4294967296) : bits .and .u32 ((b : Int) / 2 ^ k) 1 = if b.testBit k = true then 1 else 0 := by
  have e : (b : Int) / 2 ^ k = ((b / 2 ^ k : Nat) : Int) := by simp
  have hlt : b / 2 ^ k < 2 ^ 32 := Nat.lt_of_le_of_lt (Nat.div_le_self _ _) hb
  have h := (bits_nat .u32 32 (by decide) wraps_u32' (b / 2 ^ k) 1 hlt (by decide)).1
  rw [e]
  refine h.trans ?_
  rw [Nat.and_one_is_mod, Nat.testBit_eq_decide_div_mod_eq]
  rcases Nat.mod_two_eq_zero_or_one (b / 2 ^ k) with h | h <;> simp [h]
set_option maxRecDepth 100000 in
set_option maxHeartbeats 4000000 in
theorem mask_any (base n i j b : Nat) (v : Value) (ts : List Par) (t : Par) (d : Int) (av : Value) (w : World) (h : PL w base v n ts) (ht : ts[i]? = some t) (hbase : base ≤ w.heap.size) (hr : Room t.2.2.length) (hj : j ≤ 9223372036854775807) (hb32 : b < 4294967296) :
    Calls Try.prog 50 #[actV d i j b av, v] w (RetP base w ((ts.map parIs).set i (maskP (parIs t) b j))) := by
  have hi := par_lt h ht
  obtain ⟨q, c, rfl⟩ : ∃ q c, v = .slice q n c := by
    rcases h.own.2 with ⟨h1, h0⟩ | ⟨g, cap, cur, hv, _⟩
    · omega
    · exact ⟨_, _, hv⟩
  obtain ⟨g, cur, rfl, hg, hh, hnc, hcm, hcl, hct⟩ := owns2_open h.own (by omega)
  unfold maxLen at hcm
  have hgs : g < w.heap.size := lt_of_cell (par_cells h ht).1
  obtain ⟨q1, m1, c1, ht1, hto⟩ := h.row t (List.mem_of_getElem? ht)
  obtain ⟨t1, k1, xs⟩ := t
  simp only at ht1 hto hr
  subst ht1
  obtain ⟨d0, d1⟩ := par_cells h ht
  simp only at d0 d1
  have hB := fun o1 => al (o := o1) (Below.refl w.heap.size w) (Nat.le_refl _)
  obtain ⟨W, hW⟩ : ∃ W, W = w.alloc (.cells #[.int .i64 d, .int .i64 i, .int .i64 j, .int .u32 b, av] 39) := ⟨_, rfl⟩
  have hBW : Below w.heap.size w W := by rw [hW]; exact hB _
  have x1 : W.heap[w.heap.size]? = some (.cells #[.int .i64 d, .int .i64 i, .int .i64 j, .int .u32 b, av] 39 (0, 0)) := by rw [hW]; exact hnew rfl
  have hWs : W.heap.size = w.heap.size + 1 := by rw [hW]; simp
  have s0 : W.cell? ⟨g, i * 2, none⟩ = some (.slice q1 m1 c1) := (hBW.cell (p := ⟨g, i * 2, none⟩) hgs).trans d0
  have s2 : W.cell? ⟨w.heap.size, 1, none⟩ = some (.int .i64 i) := cell_of_row _ _ 1 _ _ _ x1
  have s3 : W.cell? ⟨w.heap.size, 2, none⟩ = some (.int .i64 j) := cell_of_row _ _ 2 _ _ _ x1
  have i1 : (i : Int) < (n : Int) := by omega
  obtain ⟨m0, hm0⟩ : ∃ m0, m0 = xs.length := ⟨_, rfl⟩
  have hml : m1 = m0 := by have := hto.1; simp at this; omega
  rw [← hm0] at hr
  have HM0 := Lib.hid hm0
  clear hm0
  subst hml
  have H := Lib.hid h; have HT := Lib.hid ht; have HBW := Lib.hid hBW
  have HS := Lib.hid (Sl.of_owns hto)
  have bm := HS.out.le; have bc := HS.out.max; unfold maxLen at bc
  unfold Room at hr
  have X1 := Lib.hid x1
  clear h hh hct hcl d0 d1 ht hB hBW x1
  by_cases hjm : j / 8 < m1
  · have j1 : ¬ (m1 : Int) ≤ (j : Int) / 8 := by omega
    have HTO := Lib.hid hto
    clear hto
    go_enter Try.func50, Try.ntmps50
    go_wp2_with fail
    rw [← hW]
    clear hW
    go_quiet (fail)
    go_wp2_with fail
    obtain ⟨gb, rfl⟩ : ∃ gb, q1 = some ⟨gb, 0, none⟩ := by
      rcases HTO.out.2 with ⟨h1, h0⟩ | ⟨g', cap, cur', hv, _⟩
      · omega
      · obtain ⟨rfl, -⟩ : q1 = some ⟨g', 0, none⟩ ∧ c1 = cap := by simpa using hv
        exact ⟨g', rfl⟩
    have jk : j ≤ 2 ^ 52 := by omega
    clear s0 s2 s3
    go_loopw [22] (fun i' wr => ∃ k : Nat, k ≤ 32 ∧ i' = .int .i64 k ∧ Hid (PL wr base (.slice (some ⟨g, 0, none⟩) n c) n (ts.set i (.slice (some ⟨gb, 0, none⟩) m1 c1, if (maskF b j xs k).2 then -1 else k1, (maskF b j xs k).1))) ∧ Hid (Below base w wr) ∧
      Hid (wr.heap[w.heap.size]? = some (.cells #[.int .i64 d, .int .i64 i, .int .i64 j, .int .u32 b, av] 39 (0, 0)))) (fun i' _ => 32 - (intOf i').toNat)
    case atStart => exact ⟨0, by omega, rfl, by
      show PL _ _ _ _ _
      rw [show (ts.set i (Value.slice (some ⟨gb, 0, none⟩) m1 c1, if (maskF b j xs 0).2 then -1 else k1, (maskF b j xs 0).1)) = ts from set_get HT.out]
      exact H.out.keep (bdn HBW.out), bdn (HBW.out.mono hbase), X1.out⟩
    case round =>
      obtain ⟨k, hk, rfl, hP, hBl, hX⟩ := hrel
      by_cases hlt : k < 32
      · have hss := List.getElem?_set_self (l := ts) (i := i) (a := (Value.slice (some ⟨gb, 0, none⟩) m1 c1, (if (maskF b j xs k).2 then (-1 : Int) else k1), (maskF b j xs k).1)) (by rw [H.out.len]; exact hi)
        have s0 := (par_cells hP.out hss).1
        simp only at s0
        have s2 : wr.cell? ⟨w.heap.size, 2, none⟩ = some (.int .i64 j) := cell_of_row _ _ 2 _ _ _ hX.out
        have s3 : wr.cell? ⟨w.heap.size, 3, none⟩ = some (.int .u32 b) := cell_of_row _ _ 3 _ _ _ hX.out
        have HSS := Lib.hid hss; clear hss
        by_cases hin : (j + k) / 8 < m1
        · have in1 : ((j : Int) + (k : Int)) / 8 < (m1 : Int) := by omega
          have hidx : (((j : Int) + (k : Int)) / 8).toNat = (j + k) / 8 := by omega
          have hand := and_one b k hb32
          obtain ⟨q2, m2, c2, e2, hrow⟩ := hP.out.row _ (List.mem_of_getElem? HSS.out)
          simp only at e2 hrow
          obtain ⟨rfl, rfl, rfl⟩ : some ⟨gb, 0, none⟩ = q2 ∧ m1 = m2 ∧ c1 = c2 := by simpa using e2
          have hx : ∃ x, (maskF b j xs k).1[(j + k) / 8]? = some x := by
            have : (j + k) / 8 < (maskF b j xs k).1.length := by rw [maskF_len, ← HM0.out]; exact hin
            exact ⟨_, List.getElem?_eq_getElem this⟩
          obtain ⟨x, hx⟩ := hx
          have cx : wr.cell? ⟨gb, (j + k) / 8, none⟩ = some (B8 x) := by rw [hrow.cellAt _ (by omega), List.getElem?_map, hx]; rfl
          have zx : wr.frozen? ⟨gb, (j + k) / 8, none⟩ = false := hrow.frozenAt _
          have HX := Lib.hid hx
          clear hx e2
          by_cases hbit : b.testBit k = true
          · rw [if_pos hbit] at hand
            go_wp2_with fail
            go_region
            rw [flip_val x _ (Nat.mod_lt _ (by decide))]
            have P2 := Pl.byte_set (k := (j + k) / 8) hP.out HSS.out (x ^^^ UInt8.ofNat (2 ^ ((j + k) % 8)))
            rw [List.set_set] at P2
            have HSS2 := List.getElem?_set_self (l := ts) (i := i) (a := (Value.slice (some ⟨gb, 0, none⟩) m1 c1, (if (maskF b j xs k).2 then (-1 : Int) else k1), (maskF b j xs k).1.set ((j + k) / 8) (x ^^^ UInt8.ofNat (2 ^ ((j + k) % 8))))) (by rw [H.out.len]; exact hi)
            have hgb : gb < wr.heap.size ∧ base ≤ gb := ⟨lt_of_cell cx, (hrow.lt gb rfl).1⟩
            have hne1 : w.heap.size ≠ gb := by have := (HTO.out.lt gb rfl).2; omega
            have hX2 : Hid ((wr.setCell ⟨gb, (j + k) / 8, none⟩ (B8 (x ^^^ UInt8.ofNat (2 ^ ((j + k) % 8))))).heap[w.heap.size]? = some (.cells #[.int .i64 d, .int .i64 i, .int .i64 j, .int .u32 b, av] 39 (0, 0))) := hsc hX.out hne1
            have hBl2 : Hid (Below base w (wr.setCell ⟨gb, (j + k) / 8, none⟩ (B8 (x ^^^ UInt8.ofNat (2 ^ ((j + k) % 8)))))) := hBl.out.setCell hgb.2 _
            have HP2 := Lib.hid P2; have HH2 := Lib.hid HSS2
            clear cx zx s0 s2 s3 hrow P2 HSS2
            generalize wr.setCell ⟨gb, (j + k) / 8, none⟩ (B8 (x ^^^ UInt8.ofNat (2 ^ ((j + k) % 8)))) = w2 at *
            obtain ⟨y0, y1⟩ := par_cells HP2.out HH2.out
            simp only at y1
            have z1 : w2.frozen? ⟨g, i * 2 + 1, none⟩ = false := HP2.out.own.frozenAt _
            clear y0
            go_wp2
            go_roundw
            case rel =>
              refine ⟨k + 1, by omega, by go_num, ?_, ?_, ?_⟩
              · have P3 := Pl.from_set (HP2.out.keep (Below.refl _ _).drew) HH2.out (-1)
                rw [List.set_set] at P3
                have e : maskF b j xs (k + 1) = ((maskF b j xs k).1.set ((j + k) / 8) (x ^^^ UInt8.ofNat (2 ^ ((j + k) % 8))), true) := by
                  show (if b.testBit k = true ∧ (j + k) / 8 < xs.length then (flip (maskF b j xs k).1 (j + k), true) else maskF b j xs k) = _
                  rw [if_pos ⟨hbit, by rw [← HM0.out]; exact hin⟩]
                  unfold flip
                  rw [show (maskF b j xs k).1.getD ((j + k) / 8) 0 = x by simp [List.getD, HX.out]]
                rw [e]
                exact P3
              · exact (hBl2.out.drew).setCell hg _
              · exact hsc (show w2.drew.heap[w.heap.size]? = _ from hX2.out) (by show w.heap.size ≠ g; omega)
            case measure => simp [intOf]; omega
          · rw [if_neg hbit] at hand
            clear cx zx hrow
            go_wp2
            go_roundw
            case rel =>
              have e : maskF b j xs (k + 1) = maskF b j xs k := by
                show (if b.testBit k = true ∧ (j + k) / 8 < xs.length then (flip (maskF b j xs k).1 (j + k), true) else maskF b j xs k) = _
                rw [if_neg (fun h => hbit h.1)]
              exact ⟨k + 1, by omega, by go_num, by rw [e]; exact hP.out, hBl.out, hX.out⟩
            case measure => simp [intOf]; omega
        · have in1 : ¬ ((j : Int) + (k : Int)) / 8 < (m1 : Int) := by omega
          have hand := and_one b k hb32
          have e : Hid (maskF b j xs (k + 1) = maskF b j xs k) := by
            show (if b.testBit k = true ∧ (j + k) / 8 < xs.length then (flip (maskF b j xs k).1 (j + k), true) else maskF b j xs k) = _
            rw [if_neg (fun h => hin (by rw [HM0.out]; exact h.2))]
          by_cases hbit : b.testBit k = true
          · rw [if_pos hbit] at hand
            go_wp2
            go_roundw
            case rel => exact ⟨k + 1, by omega, by go_num, by rw [e.out]; exact hP.out, hBl.out, hX.out⟩
            case measure => simp [intOf]; omega
          · rw [if_neg hbit] at hand
            go_wp2
            go_roundw
            case rel => exact ⟨k + 1, by omega, by go_num, by rw [e.out]; exact hP.out, hBl.out, hX.out⟩
            case measure => simp [intOf]; omega
      · have hk32 : k = 32 := by omega
        subst hk32
        go_wp2
        go_ret
        refine RetP.of hP.out hBl.out ?_
        rw [List.map_set]; rfl
  · have j1 : (m1 : Int) ≤ (j : Int) / 8 := by omega
    have HC : Hid (maskP (parIs (.slice q1 m1 c1, k1, xs)) b j = (xs, k1)) := by unfold maskP parIs; rw [Hid]; simp only; rw [maskF_far b j xs (by rw [← HM0.out]; omega) 32]; rfl
    rw [HC.out]
    clear hto
    go_enter Try.func50, Try.ntmps50
    go_wp2_with fail
    rw [← hW]
    clear hW
    go_quiet (fail)
    go_wp2
    go_ret
    refine RetP.of (H.out.keep (bdn HBW.out)) (bdn (HBW.out.mono hbase)) ?_
    exact (set_get (by rw [List.getElem?_map, HT.out]; rfl)).symm
end Go.Proofs.Ytlfcijpkdhdmeaa
