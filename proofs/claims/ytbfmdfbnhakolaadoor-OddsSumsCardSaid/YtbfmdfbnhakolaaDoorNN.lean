/- Numbers: Sub. -/
import Derived.Test.YtbfmdfbnhakolaaDoorNM
namespace Go.By
open Go.RowKit
/-- a difference, or that there is none -/
def RetD (T : TypeId) (w : World) (M N : Nat) (e : Ending) (w' : World) : Prop := (N ≤ M ∧ RetN T w (M - N) e w') ∨ (M < N ∧ Ret0 w 2 e w')
theorem sub_end {S A B n c : Nat} (h : S + B = A + 18446744073709551616 ^ n * c) (hS : S < 18446744073709551616 ^ n) (hle : B ≤ A) : S = A - B := by
  rcases Nat.eq_zero_or_pos c with h0 | h0
  · subst h0; rw [Nat.mul_zero] at h; omega
  · have : 18446744073709551616 ^ n * 1 ≤ 18446744073709551616 ^ n * c := Nat.mul_le_mul_left _ h0
    omega
end Go.By
namespace Go.Proofs.YtbfmdfbnhakolaaDoor
open Go.RowKit Go.By
/-- one word of a difference -/
theorem sub64_ex (x y c : Nat) (hc : c ≤ 1) (hx : x < 18446744073709551616) (hy : y < 18446744073709551616) : ∃ (s : UInt64) (c' : Nat), (∀ w, (callFunc 66 #[.int .u64 x, .int .u64 y, .int .u64 c]).run Tryd.prog w = .ok (.value (.tuple #[W64 s, .int .u64 c'])) w) ∧ c' ≤ 1 ∧ Hid (s.toNat + y + c = x + 18446744073709551616 * c') := by
  have e : (UInt64.ofNat ((x + 18446744073709551616 - y - c) % 18446744073709551616)).toNat = (x + 18446744073709551616 - y - c) % 18446744073709551616 := by simp
  refine ⟨UInt64.ofNat ((x + 18446744073709551616 - y - c) % 18446744073709551616), if x < y + c then 1 else 0, fun w => ?_, by split <;> omega, ?_⟩
  · rw [run_callFunc_extern Tryd.func66 (by kernel_rfl) (by kernel_rfl) (by kernel_rfl) (e := sub64Entry) (by kernel_rfl), run_sub64 x y c hc]
    have e2 : W64 (UInt64.ofNat ((x + 18446744073709551616 - y - c) % 18446744073709551616)) = .int .u64 (((x + 18446744073709551616 - y - c) % 18446744073709551616 : Nat) : Int) := by show Value.int .u64 _ = _; rw [e]
    rw [e2]
    rfl
  · show _ = _
    rw [e]
    split <;> omega
set_option maxRecDepth 100000 in
set_option maxHeartbeats 2000000 in
theorem Sub_nat (p q : Option Addr) (n c m d M N : Nat) (w : World) (h1 : Ws 34 w p n c M) (h2 : Ws 34 w q m d N) :
    Calls Tryd.prog 39 #[.agg #[.slice p n c], .agg #[.slice q m d]] w (RetD 34 w M N) := by
  have hinfo := info_nat
  obtain ⟨i0, hi, hz0, hz1, hz2⟩ := info_parts info_u64
  have hn := h1.le; have hm := h2.le
  have H1 := Lib.hid h1; have H2 := Lib.hid h2
  clear h1 h2
  go_enter Tryd.func39, Tryd.ntmps39
  go_wp2_with fail
  obtain ⟨W, hW⟩ : ∃ W, W = ((w.alloc (.cells #[.slice p n c] 29)).alloc (.cells #[.slice q m d] 29)).alloc (.cells #[.slice none 0 0] 29) := ⟨_, rfl⟩
  have hbW : Below w.heap.size w W := by rw [hW]; exact al (al (al (Below.refl _ _) (Nat.le_refl _)) (by simp)) (by simp <;> omega)
  have hszW : W.heap.size = w.heap.size + 3 := by rw [hW]; simp
  have t0 : W.heap[w.heap.size]? = some (.cells #[.slice p n c] 29 (0, 0)) := by rw [hW]; exact hal (hal (hnew rfl))
  have t1 : W.heap[w.heap.size + 1]? = some (.cells #[.slice q m d] 29 (0, 0)) := by rw [hW]; exact hal (hnew (by simp))
  have t2 : W.heap[w.heap.size + 1 + 1]? = some (.cells #[.slice none 0 0] 29 (0, 0)) := by rw [hW]; exact hnew (by simp)
  rw [← hW]
  clear hW
  refine Calls.mono (Cmp_any p q n c m d M N W (H1.out.keep hbW) (H2.out.keep hbW)) ?_
  rintro e w1 ⟨rfl, hb1⟩
  have k0 : w1.heap[w.heap.size]? = some (.cells #[.slice p n c] 29 (0, 0)) := (hb1.block _ (blk_lt t0)).trans t0
  have k1 : w1.heap[w.heap.size + 1]? = some (.cells #[.slice q m d] 29 (0, 0)) := (hb1.block _ (blk_lt t1)).trans t1
  have k2 : w1.heap[w.heap.size + 1 + 1]? = some (.cells #[.slice none 0 0] 29 (0, 0)) := (hb1.block _ (blk_lt t2)).trans t2
  have HB : Hid (Below w.heap.size w w1) := bl hbW hb1 (by omega)
  obtain ⟨_, a1, a2, a3, a4⟩ := One.of k0
  obtain ⟨_, b1, b2, b3, b4⟩ := One.of k1
  obtain ⟨_, c1, c2, c3, c4⟩ := One.of k2
  have K0 := Lib.hid k0; have K1 := Lib.hid k1; have K2 := Lib.hid k2
  clear t0 t1 t2 hbW hb1 k0 k1 k2
  rcases Nat.lt_or_ge M N with hlt | hge
  · rw [cmpN_lt hlt]
    have HL := Lib.hid hlt
    have F : Hid (Below w.heap.size w (w1.setCell ⟨w.heap.size + 1 + 1, 0, none⟩ (.slice none 0 0))) := HB.out.setCell (show w.heap.size ≤ w.heap.size + 1 + 1 by omega) _
    clear hlt
    go_wp2
    exact bodyPost_ret (res_cell_tmp rfl _ _ _ 29 #[.slice none 0 0] (0, 0) _ (.int .i64 2) rfl (hss K2.out) rfl Tryd.underlying29 rfl hinfo) rfl (Or.inr ⟨HL.out, rfl, F.out⟩)
  · obtain ⟨C, hC0, hC⟩ : ∃ C : Int, ¬ C < 0 ∧ cmpN M N = C := ⟨cmpN M N, by unfold cmpN; rw [if_neg (by omega)]; split <;> omega, rfl⟩
    rw [hC]
    obtain ⟨xs, s1, n1, v1⟩ := (H1.out.keep HB.out).ex
    obtain ⟨ys, s2, n2, v2⟩ := (H2.out.keep HB.out).ex
    have hmn : m ≤ n := by
      rcases Nat.lt_or_ge n m with h | h
      · have := valW_shorter (xs := xs) (ys := ys) n2 (by rw [s1.len, s2.len]; exact h); omega
      · exact h
    have HL : Hid (xs.length = n ∧ ys.length = m ∧ valW xs = M ∧ valW ys = N ∧ N ≤ M) := ⟨s1.len, s2.len, v1, v2, hge⟩
    have S1 := Lib.hid s1; have S2 := Lib.hid s2
    have HM1 : Hid (n ≤ maxLen) := by show n ≤ maxLen; unfold maxLen; omega
    have HM2 : Hid (8 * n ≤ 281474976710656) := by show 8 * n ≤ _; omega
    clear hC s1 s2 n1 n2 v1 v2 hge
    go_wp2_with (at_make; refine wpList_make_full _ rfl _ _ 27 rfl w1.heap.size 34 i0 (.int .u64 0) 1 Tryd.underlying27 hi hz0 hz1 .i64 .i64 _ _ n rfl rfl rfl rfl (by rw [hz2]; exact HM2.out) HM1.out (Nat.le_refl _) ?_)
    intro w2 ho hg
    have HO : Hid (w2.ownsRow w1.heap.size 34 1 (.slice (some ⟨w1.heap.size, 0, none⟩) n n) n ((List.replicate n (0 : UInt64)).map W64)) := by
      have e : (madeCells #[Value.int .u64 0] n).toList = (List.replicate n (0 : UInt64)).map W64 := by rw [List.map_replicate]; exact toList_madeCells_one _ _
      show World.ownsRow _ _ _ _ _ _ _
      rw [← e]; simpa using ho
    have hb2 : Below w1.heap.size w1 w2 := (Below.refl _ _).grown hg (Nat.le_refl _) (by simp)
    have HB2 := Lib.hid hb2
    obtain ⟨_, a1, a2, a3, a4⟩ := One.of ((hb2.block _ (blk_lt K0.out)).trans K0.out)
    obtain ⟨_, b1, b2, b3, b4⟩ := One.of ((hb2.block _ (blk_lt K1.out)).trans K1.out)
    clear ho hg hb2
    go_wp2
    go_loopw [7, 22] (fun cv i wr => ∃ (k cy : Nat) (S : List UInt64), k ≤ n ∧ cy ≤ 1 ∧ cv = .int .u64 cy ∧ i = .int .i64 k ∧ Hid (S.length = n) ∧ Hid (wr.ownsRow w1.heap.size 34 1 (.slice (some ⟨w1.heap.size, 0, none⟩) n n) n (S.map W64)) ∧ Hid (valW (S.take k) + valW (ys.take k) = valW (xs.take k) + 18446744073709551616 ^ k * cy) ∧ Hid (Below w1.heap.size w1 wr)) (fun _ i _ => n - (intOf i).toNat)
    case atStart => exact ⟨0, 0, _, Nat.zero_le _, Nat.zero_le _, rfl, rfl, by simp [Hid], HO.out, by simp [Hid, valW, valD], HB2.out⟩
    case round =>
      clear HO HB2
      obtain ⟨k, cy, S, hk, hcy, rfl, rfl, hSl, hO, hV, hB⟩ := hrel
      obtain ⟨_, a1, a2, a3, a4⟩ := One.of ((hB.out.block _ (blk_lt K0.out)).trans K0.out)
      obtain ⟨_, b1, b2, b3, b4⟩ := One.of ((hB.out.block _ (blk_lt K1.out)).trans K1.out)
      by_cases hlt : k < n
      · obtain ⟨b, o, x, rfl, hc, hx⟩ := S1.out.at k hlt
        have hcx := (hB.out.cell (p := ⟨b, o + k, none⟩) (lt_of_cell hc)).trans hc
        have fin : Hid (∀ (s : UInt64) (c' : Nat), valW (S.take k) + 18446744073709551616 ^ k * s.toNat + valW (ys.take (k + 1)) = valW (xs.take (k + 1)) + 18446744073709551616 ^ (k + 1) * c' →
            (S.set k s).length = n ∧ (wr.setCell ⟨w1.heap.size, k, none⟩ (W64 s)).ownsRow w1.heap.size 34 1 (.slice (some ⟨w1.heap.size, 0, none⟩) n n) n ((S.set k s).map W64) ∧ valW ((S.set k s).take (k + 1)) + valW (ys.take (k + 1)) = valW (xs.take (k + 1)) + 18446744073709551616 ^ (k + 1) * c' ∧ Below w1.heap.size w1 (wr.setCell ⟨w1.heap.size, k, none⟩ (W64 s))) := fun s c' he => by
          refine ⟨by rw [List.length_set]; exact hSl.out, ?_, by rw [valW_set_take (by have := hSl.out; omega)]; exact he, hB.out.setCell (Nat.le_refl _) _⟩
          rw [List.map_set]
          exact (hO.out.stored k (W64 s)).1
        obtain ⟨z, hz⟩ : ∃ v, wr.cell? ⟨w1.heap.size, k, none⟩ = some v := ⟨_, by rw [hO.out.cellAt k (by omega), List.getElem?_eq_getElem (by rw [List.length_map, hSl.out]; omega)]⟩
        have hzf : wr.frozen? ⟨w1.heap.size, k, none⟩ = false := hO.out.frozenAt _
        have hlt' : (k : Int) < (n : Int) := by omega
        have HB' := Lib.hid hB.out
        clear hc hO hSl hB
        by_cases hlm : k < m
        · obtain ⟨b', o', y, rfl, hcy', hy⟩ := S2.out.at k hlm
          have hcY := (HB'.out.cell (p := ⟨b', o' + k, none⟩) (lt_of_cell hcy')).trans hcy'
          obtain ⟨s, c', hrun, hc1, hsum⟩ := sub64_ex x.toNat y.toNat cy hcy x.toNat_lt y.toNat_lt
          have F := Lib.hid (fin.out s c' (by
            rw [valW_take hx.out, valW_take hy.out]
            exact sub_step hV.out hsum.out))
          have hlm' : (k : Int) < (m : Int) := by omega
          clear hcy' hlm hlt
          go_wp2_with (simp only [hrun])
          go_roundw
          case rel => exact ⟨k + 1, c', _, by omega, hc1, rfl, by go_num, F.out.1, F.out.2.1, F.out.2.2.1, F.out.2.2.2⟩
          case measure => simp [intOf]; omega
        · obtain ⟨s, c', hrun, hc1, hsum⟩ := sub64_ex x.toNat 0 cy hcy x.toNat_lt (by decide)
          have F := Lib.hid (fin.out s c' (by
            rw [valW_take hx.out, valW_take_none (by have := HL.out.2.1; omega)]
            have := sub_step (B := valW (ys.take k)) (b := 18446744073709551616) (i := k) hV.out hsum.out
            rwa [Nat.mul_zero, Nat.add_zero] at this))
          have hlm' : ¬ (k : Int) < (m : Int) := by omega
          have hrun' : ∀ w, (callFunc 66 #[.int .u64 x.toNat, .int .u64 0, .int .u64 cy]).run Tryd.prog w = .ok (.value (.tuple #[W64 s, .int .u64 c'])) w := hrun
          clear hlm hlt hrun
          go_wp2_with (simp only [hrun'])
          go_roundw
          case rel => exact ⟨k + 1, c', _, by omega, hc1, rfl, by go_num, F.out.1, F.out.2.1, F.out.2.2.1, F.out.2.2.2⟩
          case measure => simp [intOf]; omega
      · obtain rfl : k = n := by omega
        have hval : Hid (valW S = M - N) := by
          have hv := hV.out
          rw [valW_take_all (by have := hSl.out; omega), valW_take_all (by have := HL.out.2.1; omega), valW_take_all (by have := HL.out.1; omega), HL.out.2.2.1, HL.out.2.2.2.1] at hv
          have h3 := valW_lt S
          rw [hSl.out] at h3
          exact sub_end hv h3 HL.out.2.2.2.2
        have hmade := made_any _ _ _ S wr (Sl.of_owns hO.out) (lies_of_owns hO.out)
        rw [hval.out] at hmade
        have HMD := Lib.hid hmade
        have hsz := hB.out.size
        have k2 : wr.heap[w.heap.size + 1 + 1]? = some (.cells #[.slice none 0 0] 29 (0, 0)) := (hB.out.block _ (blk_lt K2.out)).trans K2.out
        have KK := Lib.hid k2
        have HB3 : Hid (Below w.heap.size w wr) := HB.out.trans (hB.out.mono HB.out.size)
        have HCap : Hid (M - N < capN) := Nat.lt_of_le_of_lt (Nat.sub_le _ _) H1.out.lt
        clear hO hSl hB hV hlt hmade k2
        go_wp2_with fail
        refine Calls.mono HMD.out ?_
        rintro e w5 hr
        obtain ⟨q5, n5, c5, rfl, hw5, hb5⟩ := hr.ok HCap.out
        have k2 : w5.heap[w.heap.size + 1 + 1]? = some (.cells #[.slice none 0 0] 29 (0, 0)) := (hb5.block _ (blk_lt KK.out)).trans KK.out
        obtain ⟨_, x1, x2, x3, x4⟩ := One.of k2
        have F : Hid ((w5.setCell ⟨w.heap.size + 1 + 1, 0, none⟩ (.slice q5 n5 c5)).heap[w.heap.size + 1 + 1]? = some (.cells #[.slice q5 n5 c5] 29 (0, 0)) ∧ Ws 34 (w5.setCell ⟨w.heap.size + 1 + 1, 0, none⟩ (.slice q5 n5 c5)) q5 n5 c5 (M - N) ∧ Below w.heap.size w (w5.setCell ⟨w.heap.size + 1 + 1, 0, none⟩ (.slice q5 n5 c5))) := ⟨hss k2, hw5.set k2 (by decide), (HB3.out.trans (hb5.mono HB3.out.size)).setCell (show w.heap.size ≤ w.heap.size + 1 + 1 by omega) _⟩
        clear hr hw5 hb5 k2
        go_wp2
        exact bodyPost_ret (res_cell_tmp rfl _ _ _ 29 #[.slice q5 n5 c5] (0, 0) _ (.int .i64 0) rfl F.out.1 rfl Tryd.underlying29 rfl hinfo) rfl (Or.inl ⟨HL.out.2.2.2.2, _, _, _, rfl, F.out.2.1, F.out.2.2⟩)
end Go.Proofs.YtbfmdfbnhakolaaDoor
