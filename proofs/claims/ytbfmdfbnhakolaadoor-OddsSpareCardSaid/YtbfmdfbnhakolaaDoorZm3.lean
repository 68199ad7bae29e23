/- Numbers: Sub. The laws' small parts on numbers: To, Is, awake. The laws of numbers: what they carry along. A region that draws its order, with one store into a box of one cell of its own (a number): each operation has a shape that lasts. Counts of grids by rank: plain laws. Counts of grids: what their functions carry along. Counts of grids: power, Spare, All, without. Counts of grids: Full, Fails. Arrays of numbers in memory. Counts of grids: OfRank. OddsSums: the walk. -/
import Derived.Test.YtbfmdfbnhakolaaDoorZm2
import Derived.WalkKit
import Derived.IntWalk
namespace Go.By
open Go.RowKit
/-- a difference, or that there is none -/
def RetD (T : TypeId) (w : World) (M N : Nat) (e : Ending) (w' : World) : Prop := (N ≤ M ∧ RetN T w (M - N) e w') ∨ (M < N ∧ Ret0 w 2 e w')
theorem sub_end {S A B n c : Nat} (h : S + B = A + 18446744073709551616 ^ n * c) (hS : S < 18446744073709551616 ^ n) (hle : B ≤ A) : S = A - B := by
  rcases Nat.eq_zero_or_pos c with h0 | h0
  · subst h0; rw [Nat.mul_zero] at h; omega
  · have : 18446744073709551616 ^ n * 1 ≤ 18446744073709551616 ^ n * c := Nat.mul_le_mul_left _ h0
    omega
end Go.By
namespace Go.Proofs.YtbfmdfbnhakolaaDoor
open Go.RowKit Go.By
/-- one word of a difference -/
theorem sub64_ex (x y c : Nat) (hc : c ≤ 1) (hx : x < 18446744073709551616) (hy : y < 18446744073709551616) : ∃ (s : UInt64) (c' : Nat), (∀ w, (callFunc 66 #[.int .u64 x, .int .u64 y, .int .u64 c]).run Tryd.prog w = .ok (.value (.tuple #[W64 s, .int .u64 c'])) w) ∧ c' ≤ 1 ∧ Hid (s.toNat + y + c = x + 18446744073709551616 * c') := by
  have e : (UInt64.ofNat ((x + 18446744073709551616 - y - c) % 18446744073709551616)).toNat = (x + 18446744073709551616 - y - c) % 18446744073709551616 := by simp
  refine ⟨UInt64.ofNat ((x + 18446744073709551616 - y - c) % 18446744073709551616), if x < y + c then 1 else 0, fun w => ?_, by split <;> omega, ?_⟩
  · rw [run_callFunc_extern Tryd.func66 (by kernel_rfl) (by kernel_rfl) (by kernel_rfl) (e := sub64Entry) (by kernel_rfl), run_sub64 x y c hc]
    have e2 : W64 (UInt64.ofNat ((x + 18446744073709551616 - y - c) % 18446744073709551616)) = .int .u64 (((x + 18446744073709551616 - y - c) % 18446744073709551616 : Nat) : Int) := by show Value.int .u64 _ = _; rw [e]
    rw [e2]
    rfl
  · show _ = _
    rw [e]
    split <;> omega
set_option maxRecDepth 100000 in
set_option maxHeartbeats 2000000 in
theorem Sub_nat (p q : Option Addr) (n c m d M N : Nat) (w : World) (h1 : Ws 34 w p n c M) (h2 : Ws 34 w q m d N) :
    Calls Tryd.prog 39 #[.agg #[.slice p n c], .agg #[.slice q m d]] w (RetD 34 w M N) := by
  have hinfo := info_nat
  obtain ⟨i0, hi, hz0, hz1, hz2⟩ := info_parts info_u64
  have hn := h1.le; have hm := h2.le
  have H1 := Lib.hid h1; have H2 := Lib.hid h2
  clear h1 h2
  go_enter Tryd.func39, Tryd.ntmps39
  go_wp2_with fail
  obtain ⟨W, hW⟩ : ∃ W, W = ((w.alloc (.cells #[.slice p n c] 29)).alloc (.cells #[.slice q m d] 29)).alloc (.cells #[.slice none 0 0] 29) := ⟨_, rfl⟩
  have hbW : Below w.heap.size w W := by rw [hW]; exact al (al (al (Below.refl _ _) (Nat.le_refl _)) (by simp)) (by simp <;> omega)
  have hszW : W.heap.size = w.heap.size + 3 := by rw [hW]; simp
  have t0 : W.heap[w.heap.size]? = some (.cells #[.slice p n c] 29 (0, 0)) := by rw [hW]; exact hal (hal (hnew rfl))
  have t1 : W.heap[w.heap.size + 1]? = some (.cells #[.slice q m d] 29 (0, 0)) := by rw [hW]; exact hal (hnew (by simp))
  have t2 : W.heap[w.heap.size + 1 + 1]? = some (.cells #[.slice none 0 0] 29 (0, 0)) := by rw [hW]; exact hnew (by simp)
  rw [← hW]
  clear hW
  refine Calls.mono (Cmp_any p q n c m d M N W (H1.out.keep hbW) (H2.out.keep hbW)) ?_
  rintro e w1 ⟨rfl, hb1⟩
  have k0 : w1.heap[w.heap.size]? = some (.cells #[.slice p n c] 29 (0, 0)) := (hb1.block _ (blk_lt t0)).trans t0
  have k1 : w1.heap[w.heap.size + 1]? = some (.cells #[.slice q m d] 29 (0, 0)) := (hb1.block _ (blk_lt t1)).trans t1
  have k2 : w1.heap[w.heap.size + 1 + 1]? = some (.cells #[.slice none 0 0] 29 (0, 0)) := (hb1.block _ (blk_lt t2)).trans t2
  have HB : Hid (Below w.heap.size w w1) := bl hbW hb1 (by omega)
  obtain ⟨_, a1, a2, a3, a4⟩ := One.of k0
  obtain ⟨_, b1, b2, b3, b4⟩ := One.of k1
  obtain ⟨_, c1, c2, c3, c4⟩ := One.of k2
  have K0 := Lib.hid k0; have K1 := Lib.hid k1; have K2 := Lib.hid k2
  clear t0 t1 t2 hbW hb1 k0 k1 k2
  rcases Nat.lt_or_ge M N with hlt | hge
  · rw [cmpN_lt hlt]
    have HL := Lib.hid hlt
    have F : Hid (Below w.heap.size w (w1.setCell ⟨w.heap.size + 1 + 1, 0, none⟩ (.slice none 0 0))) := HB.out.setCell (show w.heap.size ≤ w.heap.size + 1 + 1 by omega) _
    clear hlt
    go_wp2
    exact bodyPost_ret (res_cell_tmp rfl _ _ _ 29 #[.slice none 0 0] (0, 0) _ (.int .i64 2) rfl (hss K2.out) rfl Tryd.underlying29 rfl hinfo) rfl (Or.inr ⟨HL.out, rfl, F.out⟩)
  · obtain ⟨C, hC0, hC⟩ : ∃ C : Int, ¬ C < 0 ∧ cmpN M N = C := ⟨cmpN M N, by unfold cmpN; rw [if_neg (by omega)]; split <;> omega, rfl⟩
    rw [hC]
    obtain ⟨xs, s1, n1, v1⟩ := (H1.out.keep HB.out).ex
    obtain ⟨ys, s2, n2, v2⟩ := (H2.out.keep HB.out).ex
    have hmn : m ≤ n := by
      rcases Nat.lt_or_ge n m with h | h
      · have := valW_shorter (xs := xs) (ys := ys) n2 (by rw [s1.len, s2.len]; exact h); omega
      · exact h
    have HL : Hid (xs.length = n ∧ ys.length = m ∧ valW xs = M ∧ valW ys = N ∧ N ≤ M) := ⟨s1.len, s2.len, v1, v2, hge⟩
    have S1 := Lib.hid s1; have S2 := Lib.hid s2
    have HM1 : Hid (n ≤ maxLen) := by show n ≤ maxLen; unfold maxLen; omega
    have HM2 : Hid (8 * n ≤ 281474976710656) := by show 8 * n ≤ _; omega
    clear hC s1 s2 n1 n2 v1 v2 hge
    go_wp2_with (at_make; refine wpList_make_full _ rfl _ _ 27 rfl w1.heap.size 34 i0 (.int .u64 0) 1 Tryd.underlying27 hi hz0 hz1 .i64 .i64 _ _ n rfl rfl rfl rfl (by rw [hz2]; exact HM2.out) HM1.out (Nat.le_refl _) ?_)
    intro w2 ho hg
    have HO : Hid (w2.ownsRow w1.heap.size 34 1 (.slice (some ⟨w1.heap.size, 0, none⟩) n n) n ((List.replicate n (0 : UInt64)).map W64)) := by
      have e : (madeCells #[Value.int .u64 0] n).toList = (List.replicate n (0 : UInt64)).map W64 := by rw [List.map_replicate]; exact toList_madeCells_one _ _
      show World.ownsRow _ _ _ _ _ _ _
      rw [← e]; simpa using ho
    have hb2 : Below w1.heap.size w1 w2 := (Below.refl _ _).grown hg (Nat.le_refl _) (by simp)
    have HB2 := Lib.hid hb2
    obtain ⟨_, a1, a2, a3, a4⟩ := One.of ((hb2.block _ (blk_lt K0.out)).trans K0.out)
    obtain ⟨_, b1, b2, b3, b4⟩ := One.of ((hb2.block _ (blk_lt K1.out)).trans K1.out)
    clear ho hg hb2
    go_wp2
    go_loopw [7, 22] (fun cv i wr => ∃ (k cy : Nat) (S : List UInt64), k ≤ n ∧ cy ≤ 1 ∧ cv = .int .u64 cy ∧ i = .int .i64 k ∧ Hid (S.length = n) ∧ Hid (wr.ownsRow w1.heap.size 34 1 (.slice (some ⟨w1.heap.size, 0, none⟩) n n) n (S.map W64)) ∧ Hid (valW (S.take k) + valW (ys.take k) = valW (xs.take k) + 18446744073709551616 ^ k * cy) ∧ Hid (Below w1.heap.size w1 wr)) (fun _ i _ => n - (intOf i).toNat)
    case atStart => exact ⟨0, 0, _, Nat.zero_le _, Nat.zero_le _, rfl, rfl, by simp [Hid], HO.out, by simp [Hid, valW, valD], HB2.out⟩
    case round =>
      clear HO HB2
      obtain ⟨k, cy, S, hk, hcy, rfl, rfl, hSl, hO, hV, hB⟩ := hrel
      obtain ⟨_, a1, a2, a3, a4⟩ := One.of ((hB.out.block _ (blk_lt K0.out)).trans K0.out)
      obtain ⟨_, b1, b2, b3, b4⟩ := One.of ((hB.out.block _ (blk_lt K1.out)).trans K1.out)
      by_cases hlt : k < n
      · obtain ⟨b, o, x, rfl, hc, hx⟩ := S1.out.at k hlt
        have hcx := (hB.out.cell (p := ⟨b, o + k, none⟩) (lt_of_cell hc)).trans hc
        have fin : Hid (∀ (s : UInt64) (c' : Nat), valW (S.take k) + 18446744073709551616 ^ k * s.toNat + valW (ys.take (k + 1)) = valW (xs.take (k + 1)) + 18446744073709551616 ^ (k + 1) * c' →
            (S.set k s).length = n ∧ (wr.setCell ⟨w1.heap.size, k, none⟩ (W64 s)).ownsRow w1.heap.size 34 1 (.slice (some ⟨w1.heap.size, 0, none⟩) n n) n ((S.set k s).map W64) ∧ valW ((S.set k s).take (k + 1)) + valW (ys.take (k + 1)) = valW (xs.take (k + 1)) + 18446744073709551616 ^ (k + 1) * c' ∧ Below w1.heap.size w1 (wr.setCell ⟨w1.heap.size, k, none⟩ (W64 s))) := fun s c' he => by
          refine ⟨by rw [List.length_set]; exact hSl.out, ?_, by rw [valW_set_take (by have := hSl.out; omega)]; exact he, hB.out.setCell (Nat.le_refl _) _⟩
          rw [List.map_set]
          exact (hO.out.stored k (W64 s)).1
        obtain ⟨z, hz⟩ : ∃ v, wr.cell? ⟨w1.heap.size, k, none⟩ = some v := ⟨_, by rw [hO.out.cellAt k (by omega), List.getElem?_eq_getElem (by rw [List.length_map, hSl.out]; omega)]⟩
        have hzf : wr.frozen? ⟨w1.heap.size, k, none⟩ = false := hO.out.frozenAt _
        have hlt' : (k : Int) < (n : Int) := by omega
        have HB' := Lib.hid hB.out
        clear hc hO hSl hB
        by_cases hlm : k < m
        · obtain ⟨b', o', y, rfl, hcy', hy⟩ := S2.out.at k hlm
          have hcY := (HB'.out.cell (p := ⟨b', o' + k, none⟩) (lt_of_cell hcy')).trans hcy'
          obtain ⟨s, c', hrun, hc1, hsum⟩ := sub64_ex x.toNat y.toNat cy hcy x.toNat_lt y.toNat_lt
          have F := Lib.hid (fin.out s c' (by
            rw [valW_take hx.out, valW_take hy.out]
            exact sub_step hV.out hsum.out))
          have hlm' : (k : Int) < (m : Int) := by omega
          clear hcy' hlm hlt
          go_wp2_with (simp only [hrun])
          go_roundw
          case rel => exact ⟨k + 1, c', _, by omega, hc1, rfl, by go_num, F.out.1, F.out.2.1, F.out.2.2.1, F.out.2.2.2⟩
          case measure => simp [intOf]; omega
        · obtain ⟨s, c', hrun, hc1, hsum⟩ := sub64_ex x.toNat 0 cy hcy x.toNat_lt (by decide)
          have F := Lib.hid (fin.out s c' (by
            rw [valW_take hx.out, valW_take_none (by have := HL.out.2.1; omega)]
            have := sub_step (B := valW (ys.take k)) (b := 18446744073709551616) (i := k) hV.out hsum.out
            rwa [Nat.mul_zero, Nat.add_zero] at this))
          have hlm' : ¬ (k : Int) < (m : Int) := by omega
          have hrun' : ∀ w, (callFunc 66 #[.int .u64 x.toNat, .int .u64 0, .int .u64 cy]).run Tryd.prog w = .ok (.value (.tuple #[W64 s, .int .u64 c'])) w := hrun
          clear hlm hlt hrun
          go_wp2_with (simp only [hrun'])
          go_roundw
          case rel => exact ⟨k + 1, c', _, by omega, hc1, rfl, by go_num, F.out.1, F.out.2.1, F.out.2.2.1, F.out.2.2.2⟩
          case measure => simp [intOf]; omega
      · obtain rfl : k = n := by omega
        have hval : Hid (valW S = M - N) := by
          have hv := hV.out
          rw [valW_take_all (by have := hSl.out; omega), valW_take_all (by have := HL.out.2.1; omega), valW_take_all (by have := HL.out.1; omega), HL.out.2.2.1, HL.out.2.2.2.1] at hv
          have h3 := valW_lt S
          rw [hSl.out] at h3
          exact sub_end hv h3 HL.out.2.2.2.2
        have hmade := made_any _ _ _ S wr (Sl.of_owns hO.out) (lies_of_owns hO.out)
        rw [hval.out] at hmade
        have HMD := Lib.hid hmade
        have hsz := hB.out.size
        have k2 : wr.heap[w.heap.size + 1 + 1]? = some (.cells #[.slice none 0 0] 29 (0, 0)) := (hB.out.block _ (blk_lt K2.out)).trans K2.out
        have KK := Lib.hid k2
        have HB3 : Hid (Below w.heap.size w wr) := HB.out.trans (hB.out.mono HB.out.size)
        have HCap : Hid (M - N < capN) := Nat.lt_of_le_of_lt (Nat.sub_le _ _) H1.out.lt
        clear hO hSl hB hV hlt hmade k2
        go_wp2_with fail
        refine Calls.mono HMD.out ?_
        rintro e w5 hr
        obtain ⟨q5, n5, c5, rfl, hw5, hb5⟩ := hr.ok HCap.out
        have k2 : w5.heap[w.heap.size + 1 + 1]? = some (.cells #[.slice none 0 0] 29 (0, 0)) := (hb5.block _ (blk_lt KK.out)).trans KK.out
        obtain ⟨_, x1, x2, x3, x4⟩ := One.of k2
        have F : Hid ((w5.setCell ⟨w.heap.size + 1 + 1, 0, none⟩ (.slice q5 n5 c5)).heap[w.heap.size + 1 + 1]? = some (.cells #[.slice q5 n5 c5] 29 (0, 0)) ∧ Ws 34 (w5.setCell ⟨w.heap.size + 1 + 1, 0, none⟩ (.slice q5 n5 c5)) q5 n5 c5 (M - N) ∧ Below w.heap.size w (w5.setCell ⟨w.heap.size + 1 + 1, 0, none⟩ (.slice q5 n5 c5))) := ⟨hss k2, hw5.set k2 (by decide), (HB3.out.trans (hb5.mono HB3.out.size)).setCell (show w.heap.size ≤ w.heap.size + 1 + 1 by omega) _⟩
        clear hr hw5 hb5 k2
        go_wp2
        exact bodyPost_ret (res_cell_tmp rfl _ _ _ 29 #[.slice q5 n5 c5] (0, 0) _ (.int .i64 0) rfl F.out.1 rfl Tryd.underlying29 rfl hinfo) rfl (Or.inl ⟨HL.out.2.2.2.2, _, _, _, rfl, F.out.2.1, F.out.2.2⟩)
end Go.Proofs.YtbfmdfbnhakolaaDoor
namespace Go.By
open Go.RowKit
theorem hexText_bound (xs : List UInt8) : (hexText (valB xs)).length ≤ 2 * xs.length + 1 := by
  refine tLen ?_
  have := valB_lt xs
  rwa [show (256 : Nat) = 16 ^ 2 from rfl, ← Nat.pow_mul] at this
theorem strB_toList (l : List UInt8) : (strB l).toList = l := by rw [ByteArray.toList_eq, strB_data]
theorem strB_beq (a b : List UInt8) : ((strB a).toList == (strB b).toList) = decide (a = b) := by
  rw [strB_toList, strB_toList]
  by_cases h : a = b
  · subst h; simp
  · rw [decide_eq_false h]; simpa using h
theorem hex_beq (M N : Nat) : ((strB (hexText M)).toList == (strB (hexText N)).toList) = decide (M = N) := by
  rw [strB_beq]
  by_cases h : M = N
  · rw [h]; simp
  · rw [decide_eq_false h, decide_eq_false (fun e => h (hexText_inj e))]
theorem hex255 : hexText 255 = [102, 102] := by
  rw [hexText_big (by decide), show 255 / 16 = 15 from rfl, hexText_small (by decide)]; rfl
theorem hex65025 : hexText 65025 = [102, 101, 48, 49] := by
  rw [hexText_big (by decide), show 65025 / 16 = 4064 from rfl, hexText_big (by decide), show 4064 / 16 = 254 from rfl, hexText_big (by decide), show 254 / 16 = 15 from rfl, hexText_small (by decide)]; rfl
theorem bytesN_len_le (xs : List UInt8) : (bytesN (valB xs)).length ≤ xs.length := by
  rw [bytesN_len]
  exact (lowD_pad (b := 256) (by decide) xs.length (valB xs) (valB_lt xs)).2
end Go.By
namespace Go.Proofs.YtbfmdfbnhakolaaDoor
open Go.RowKit Go.By
set_option maxRecDepth 100000 in
set_option maxHeartbeats 1000000 in
theorem Is_any (p q : Option Addr) (m d n c N : Nat) (xs : List UInt8) (w : World) (hN : Ws 34 w p m d N) (h : Sl B8 w q n c xs) (hn : n ≤ 100000) (hT : Tab w) :
    Calls Tryd.prog 24 #[.agg #[.slice p m d], .slice q n c] w fun e w' => e = .returned (.bool (decide (N = valB xs))) ∧ Below w.heap.size w w' := by
  have hl := h.len
  have hA : ∀ o, Below w.heap.size w (w.alloc o) := fun o => al (Below.refl _ _) (Nat.le_refl _)
  have HA := Lib.hid hA
  have H := Lib.hid h
  have HN := Lib.hid hN
  have HT := Lib.hid hT
  clear h hA hN hT
  go_enter Tryd.func24, Tryd.ntmps24
  go_wp2_with fail
  refine Calls.mono (Text_nat p m d N _ (HN.out.keep (HA.out _)) (HT.out.keep (HA.out _))) ?_
  rintro e w1 ⟨rfl, hb1⟩
  have HB1 := Lib.hid (bl (HA.out _) hb1 (by simp))
  clear hb1
  go_wp2_with fail
  refine Calls.mono (Trim_ref q n c xs w1 (H.out.keep HB1.out)) ?_
  rintro e w2 ⟨q1, n1, c1, rfl, hs1, rfl⟩
  have hn1 : n1 ≤ n := by rw [← hs1.len, ← hl]; exact bytesN_len_le xs
  have HS1 := Lib.hid hs1
  clear hs1
  go_wp2_with fail
  refine Calls.mono (Text_ref q1 n1 c1 _ _ HS1.out (by omega)) ?_
  rintro e w3 ⟨rfl, hb3⟩
  rw [valB_bytesN]
  have HB3 := Lib.hid (HB1.out.trans (hb3.mono HB1.out.size))
  have HE := Lib.hid (hex_beq N (valB xs))
  clear hb3
  go_wp2
  go_ret
  exact ⟨by rw [← HE.out]; rfl, HB3.out⟩
end Go.Proofs.YtbfmdfbnhakolaaDoor
namespace Go.By
open Go.RowKit
theorem powW_eq (k : Nat) : powW k = 256 ^ (8 * k) := by
  unfold powW
  rw [show (18446744073709551616 : Nat) = 256 ^ 8 from rfl, ← Nat.pow_mul]
theorem capN_eq {j k : Nat} (hj : j = 512) (hk : k = 8 * j) : capN = 256 ^ k := by
  show powW 512 = _
  rw [← hj, powW_eq, hk]
theorem lt_cap {N k : Nat} (h : N < 256 ^ k) (hk : k ≤ 4096) : N < capN := by
  obtain ⟨j, hj⟩ : ∃ j, j = 512 := ⟨_, rfl⟩
  obtain ⟨i, hi⟩ : ∃ i, i = 8 * j := ⟨_, rfl⟩
  rw [capN_eq hj hi]
  exact Nat.lt_of_lt_of_le h (Nat.pow_le_pow_right (by decide) (by omega))
theorem add_lt256 {M N k : Nat} (h1 : M < 256 ^ k) (h2 : N < 256 ^ k) : M + N < 256 ^ (k + 1) := by
  rw [Nat.pow_succ]; omega
theorem mul_lt256 {M N j k : Nat} (h1 : M < 256 ^ j) (h2 : N < 256 ^ k) : M * N < 256 ^ (j + k) := by
  rw [Nat.pow_add]
  exact Nat.mul_lt_mul'' h1 h2
theorem up256 {N j k : Nat} (h : N < 256 ^ j) (hk : j ≤ k) : N < 256 ^ k := Nat.lt_of_lt_of_le h (Nat.pow_le_pow_right (by decide) hk)
theorem pow_lt256 {N j : Nat} (h : N < 256 ^ j) : ∀ k, N ^ k < 256 ^ (j * k + 1)
  | 0 => by simp
  | k + 1 => by
    have h1 := pow_lt256 h k
    rw [Nat.pow_succ, show j * (k + 1) + 1 = (j * k + 1) + j by rw [Nat.mul_add]; omega]
    exact mul_lt256 h1 h
theorem RetW.ok {T : TypeId} {w w' : World} {N k : Nat} {e : Ending} (h : RetW T w N k e w') (hN : ∀ j, j ≤ k → N ^ j < capN) : RetN T w (N ^ k) e w' := by
  rcases h with h | ⟨⟨j, hj, hc⟩, _⟩
  · exact h.2
  · have := hN j hj; omega
theorem RetD.ok {T : TypeId} {w w' : World} {M N : Nat} {e : Ending} (h : RetD T w M N e w') (hN : N ≤ M) : RetN T w (M - N) e w' := by
  rcases h with h | h
  · exact h.2
  · omega
theorem RetD.less {T : TypeId} {w w' : World} {M N : Nat} {e : Ending} (h : RetD T w M N e w') (hN : M < N) : Ret0 w 2 e w' := by
  rcases h with h | h
  · omega
  · exact h.2
theorem ba1 (w : World) (o : Obj) : Below w.heap.size w (w.alloc o) := al (Below.refl _ _) (Nat.le_refl _)
theorem ba2 (w : World) (o o2 : Obj) : Below w.heap.size w ((w.alloc o).alloc o2) := bl (ba1 w o) (ba1 _ o2) (ba1 w o).size
/-- a box that holds a number -/
def NBox (T U : TypeId) (W : World) (b N : Nat) : Prop := ∃ q n c, W.heap[b]? = some (.cells #[.slice q n c] T (0, 0)) ∧ Ws U W q n c N
theorem NBox.keep {T U : TypeId} {w w' : World} {b N : Nat} (h : NBox T U w b N) (hb : Below w.heap.size w w') : NBox T U w' b N := by
  obtain ⟨q, n, c, k, hw⟩ := h
  exact ⟨q, n, c, (hb.block _ (blk_lt k)).trans k, hw.keep hb⟩
theorem NBox.new {T U : TypeId} {w : World} {q : Option Addr} {n c N : Nat} (h : Ws U w q n c N) : NBox T U (w.alloc (.cells #[.slice q n c] T)) w.heap.size N :=
  ⟨q, n, c, hnew rfl, h.keep (al (Below.refl _ _) (Nat.le_refl _))⟩
/-- what the laws carry along: the numbers' boxes -/
structure NS (T U : TypeId) (w0 : World) (L : List (Nat × Nat)) (W : World) : Prop where
  bel : Below w0.heap.size w0 W
  box : ∀ b N, (b, N) ∈ L → NBox T U W b N
theorem NS.keep {T U : TypeId} {w0 W W' : World} {L : List (Nat × Nat)} (h : NS T U w0 L W) (hb : Below W.heap.size W W') : NS T U w0 L W' := ⟨bl h.bel hb h.bel.size, fun b N hm => (h.box b N hm).keep hb⟩
theorem NS.more {T U : TypeId} {w0 W W' : World} {L : List (Nat × Nat)} {b N : Nat} (h : NS T U w0 L W) (hb : Below W.heap.size W W') (hn : NBox T U W' b N) : NS T U w0 ((b, N) :: L) W' :=
  ⟨bl h.bel hb h.bel.size, fun b' N' hm => by
    rcases List.mem_cons.1 hm with e | hm
    · cases e; exact hn
    · exact (h.box b' N' hm).keep hb⟩
theorem NS.new {T U : TypeId} {w0 w : World} {L : List (Nat × Nat)} {q : Option Addr} {n c N : Nat} (h : NS T U w0 L w) (hw : Ws U w q n c N) : NS T U w0 ((w.heap.size, N) :: L) (w.alloc (.cells #[.slice q n c] T)) :=
  h.more (al (Below.refl _ _) (Nat.le_refl _)) (NBox.new hw)
/-- a call behind a new box and a new block -/
theorem NS.on {T U : TypeId} {w0 w w' : World} {L : List (Nat × Nat)} {q : Option Addr} {n c N : Nat} {o : Obj} (h : NS T U w0 L w) (hw : Ws U w q n c N) (hb : Below ((w.alloc (.cells #[.slice q n c] T)).alloc o).heap.size ((w.alloc (.cells #[.slice q n c] T)).alloc o) w') : NS T U w0 ((w.heap.size, N) :: L) w' :=
  ((h.new hw).keep (al (Below.refl _ _) (Nat.le_refl _))).keep hb
theorem NS.on1 {T U : TypeId} {w0 w w' : World} {L : List (Nat × Nat)} {q : Option Addr} {n c N : Nat} (h : NS T U w0 L w) (hw : Ws U w q n c N) (hb : Below (w.alloc (.cells #[.slice q n c] T)).heap.size (w.alloc (.cells #[.slice q n c] T)) w') : NS T U w0 ((w.heap.size, N) :: L) w' :=
  (h.new hw).keep hb
theorem Ws.on {T : TypeId} {w : World} {q : Option Addr} {n c N : Nat} (h : Ws T w q n c N) {o o2 : Obj} : Ws T ((w.alloc o).alloc o2) q n c N := (h.keep (al (Below.refl _ _) (Nat.le_refl _))).keep (al (Below.refl _ _) (Nat.le_refl _))
theorem Ws.on1 {T : TypeId} {w : World} {q : Option Addr} {n c N : Nat} (h : Ws T w q n c N) {o : Obj} : Ws T (w.alloc o) q n c N := h.keep (al (Below.refl _ _) (Nat.le_refl _))
theorem NS.three {T U : TypeId} {w0 w w' : World} {q1 q2 q3 : Option Addr} {n1 c1 n2 c2 n3 c3 A B C : Nat} {o : Obj} (h : Below w0.heap.size w0 w) (h1 : Ws U w q1 n1 c1 A) (h2 : Ws U w q2 n2 c2 B) (h3 : Ws U w q3 n3 c3 C)
    (hb : Below ((((w.alloc (.cells #[.slice q1 n1 c1] T)).alloc (.cells #[.slice q2 n2 c2] T)).alloc (.cells #[.slice q3 n3 c3] T)).alloc o).heap.size ((((w.alloc (.cells #[.slice q1 n1 c1] T)).alloc (.cells #[.slice q2 n2 c2] T)).alloc (.cells #[.slice q3 n3 c3] T)).alloc o) w') :
    NS T U w0 [(w.heap.size + 1 + 1, C), (w.heap.size + 1, B), (w.heap.size, A)] w' := by
  have s0 : NS T U w0 [] w := ⟨h, fun b N hm => by cases hm⟩
  have s1 := s0.new h1
  have s2 := s1.new h2.on1
  have s3 := s2.on h3.on hb
  simpa using s3
theorem use_wn {P : Program} {f : FuncId} {args : Array Value} {W : World} {Q : Ending → World → Prop} (I : World → Prop) (h : I W) (k : ∀ W', I W' → Calls P f args W' Q) : Calls P f args W Q := k W h
theorem cmpN_self (N : Nat) : cmpN N N = 0 := cmpN_eq rfl
end Go.By
namespace Go.Proofs.YtbfmdfbnhakolaaDoor
open Go.RowKit Go.By
theorem Add2_ok {p : Option Addr} {c M N : Nat} {w : World} (h : Nsl 34 w p 2 c [M, N]) (hc : M + N < capN) : Calls Tryd.prog 13 #[.slice p 2 c] w (RetN 34 w (M + N)) :=
  (AddN_any p 2 c _ w h).mono fun e w' hr => by
    have e2 : [M, N].sum = M + N := by simp
    rw [e2] at hr; exact hr.ok hc
theorem Add3_ok {p : Option Addr} {c M N K : Nat} {w : World} (h : Nsl 34 w p 3 c [M, N, K]) (hc : M + N + K < capN) : Calls Tryd.prog 13 #[.slice p 3 c] w (RetN 34 w (M + N + K)) :=
  (AddN_any p 3 c _ w h).mono fun e w' hr => by
    have e2 : [M, N, K].sum = M + N + K := by simp [Nat.add_assoc]
    rw [e2] at hr; exact hr.ok hc
theorem Mul2_ok {p : Option Addr} {c M N : Nat} {w : World} (h : Nsl 34 w p 2 c [M, N]) (h1 : M < capN) (hc : M * N < capN) : Calls Tryd.prog 14 #[.slice p 2 c] w (RetN 34 w (M * N)) :=
  (Mul_nat p 2 c _ w h).mono fun e w' hr => (hr.two h1).ok hc
theorem Mul3_ok {p : Option Addr} {c M N K : Nat} {w : World} (h : Nsl 34 w p 3 c [M, N, K]) (h1 : M < capN) (h2 : M * N < capN) (hc : M * N * K < capN) : Calls Tryd.prog 14 #[.slice p 3 c] w (RetN 34 w (M * N * K)) :=
  (Mul_nat p 3 c _ w h).mono fun e w' hr => hr.three h1 h2 hc
theorem Pow_ok {p : Option Addr} {m c N k : Nat} {w : World} (h : Ws 34 w p m c N) (hk : k ≤ 65536) (hN : ∀ j, j ≤ k → N ^ j < capN) : Calls Tryd.prog 44 #[.agg #[.slice p m c], .int .i64 k] w (RetN 34 w (N ^ k)) :=
  (Pow_any p m c N k w h hk).mono fun e w' hr => hr.ok hN
theorem Sub_ok {p q : Option Addr} {n c m d M N : Nat} {w : World} (h1 : Ws 34 w p n c M) (h2 : Ws 34 w q m d N) (hN : N ≤ M) : Calls Tryd.prog 39 #[.agg #[.slice p n c], .agg #[.slice q m d]] w (RetN 34 w (M - N)) :=
  (Sub_nat p q n c m d M N w h1 h2).mono fun e w' hr => hr.ok hN
theorem Cmp_same {p q : Option Addr} {n c m d M N : Nat} {w : World} (h1 : Ws 34 w p n c M) (h2 : Ws 34 w q m d N) (h : M = N) : Calls Tryd.prog 11 #[.agg #[.slice p n c], .agg #[.slice q m d]] w fun e w' => e = .returned (.int .i64 0) ∧ Below w.heap.size w w' := by
  have := Cmp_any p q n c m d M N w h1 h2
  rwa [cmpN_eq h] at this
end Go.Proofs.YtbfmdfbnhakolaaDoor
namespace Go.By
open Go.RowKit
/-- a store into a block of one cell, of element type X, numbered B or more -/
structure StepN (B X : Nat) (w w' : World) : Prop where
  os : w'.os = w.os
  tape : w'.tape = w.tape
  output : w'.output = w.output
  size : w.heap.size ≤ w'.heap.size
  keep : ∀ k, k < w.heap.size → (k < B ∨ ∀ (cs : Array Value) fr, w.heap[k]? = some (Obj.cells cs X fr) → cs.size ≠ 1) → w'.heap[k]? = w.heap[k]?
  cells : ∀ (k : Nat) (cs : Array Value), w.heap[k]? = some (Obj.cells cs X (0, 0)) → ∃ cs' : Array Value, cs'.size = cs.size ∧ w'.heap[k]? = some (Obj.cells cs' X (0, 0))
structure ShN (B X : Nat) where
  ok : Value → World → Prop
  keep : ∀ (v : Value) (w w' : World), ok v w → Below w.heap.size w w' → ok v w'
  step : ∀ (v : Value) (w w' : World), ok v w → StepN B X w w' → ok v w'
def NBoxS (B X size : Nat) (v : Value) (w : World) : Prop := ∃ b cs, v = .pointer (some ⟨b, 0, none⟩) ∧ B ≤ b ∧ cs.size = size ∧ w.heap[b]? = some (.cells cs X (0, 0))
section
variable (B X : Nat)
def ShN.val (u : Value) : ShN B X := ⟨fun v _ => v = u, fun _ _ _ h _ => h, fun _ _ _ h _ => h⟩
def ShN.any : ShN B X := ⟨fun _ _ => True, fun _ _ _ h _ => h, fun _ _ _ h _ => h⟩
def ShN.box : ShN B X := ⟨NBoxS B X 1, fun _ _ _ ⟨b, cs, e, hb, hs, hh⟩ hw => ⟨b, cs, e, hb, hs, (hw.block b (lt_of_block hh)).trans hh⟩,
  fun _ _ _ ⟨b, cs, e, hb, hs, hh⟩ hw => by
    obtain ⟨cs', h1, h2⟩ := hw.cells b cs hh
    exact ⟨b, cs', e, hb, h1.trans hs, h2⟩⟩
end
/-- behind the store: the box in slot t holds a value that reads so -/
def BoxedN (B X t : Nat) (s : ShN B X) (σ : Nat → Value) (w : World) : Prop := ∃ b cs, σ t = .pointer (some ⟨b, 0, none⟩) ∧ B ≤ b ∧ w.heap[b]? = some (.cells cs X (0, 0)) ∧ s.ok (.agg cs) w
def InvN (ops : Array Oper) (B X : Nat) (sh : Nat → ShN B X) (st t : Nat) (s : ShN B X) (i : Nat) (σ : Nat → Value) (w : World) : Prop :=
  if i = st then BoxedN B X t s σ w else match dstOf ops i with
  | some d => (sh i).ok (σ d) w
  | none => True
def RelN (B X st : Nat) (i : Nat) (w w' : World) : Prop := if i = st then StepN B X w w' else Below w.heap.size w w'
/-- all that was there stays -/
def ExN (B : Nat) (W w : World) : Prop := Below B W w ∧ W.heap.size ≤ w.heap.size
def StepNS (P : Program) (ops : Array Oper) (Q : Exit → Act → World → Prop) (a0 : Act) (W0 : World) (B X : Nat) (sh : Nat → ShN B X) (st t : Nat) (s : ShN B X) (i : Nat) (o : Oper) : Prop :=
  ∀ (a : Act) (w : World), Below B W0 w → a.tmps.size = a0.tmps.size → (∀ k, k ∈ preds o → InvN ops B X sh st t s k (sl a) w) → (∀ u, initAt ops i u = true → sl a u = sl a0 u) →
    if Region.wanted o (yielded ops a.tmps) = true then o.wp P a w (fun a' w' => ∃ v, a' = a.put o.dst v ∧ RelN B X st i w w' ∧ (if i = st then BoxedN B X t s (sl a) w' else (sh i).ok v w')) Q
    else i ≠ st ∧ (sh i).ok undef w
def EachN (P : Program) (ops : Array Oper) (Q : Exit → Act → World → Prop) (a0 : Act) (W0 : World) (B X : Nat) (sh : Nat → ShN B X) (st t : Nat) (s : ShN B X) : List Oper → Nat → Prop
  | [], _ => True
  | o :: rest, i => StepNS P ops Q a0 W0 B X sh st t s i o ∧ EachN P ops Q a0 W0 B X sh st t s rest (i + 1)
/-- the store writes no slot, all others do; the box's slot is written by one that the store waits for -/
def dstsN (ops : Array Oper) (n st t : Nat) : Bool := (List.range ops.size).all fun i => match ops[i]? with
  | some o => (match o.dst with
    | some d => decide (d < n) && i != st && (d != t || (match ops[st]? with
      | some os => (preds os).contains i
      | none => false))
    | none => i == st)
  | none => true
theorem eachN_of {P : Program} {ops : Array Oper} {Q : Exit → Act → World → Prop} {a0 : Act} {W0 : World} {B X : Nat} {sh : Nat → ShN B X} {st t : Nat} {s : ShN B X} {n : Nat} (hn : a0.tmps.size = n) (hd : dstsN ops n st t = true) : ∀ (l : List Oper) (k : Nat), (∀ j o, l[j]? = some o → ops[k + j]? = some o) →
    EachN P ops Q a0 W0 B X sh st t s l k → Each P ops Q a0 W0.drew (fun W w => Below B W w) (RelN B X st) (InvN ops B X sh st t s) l k := by
  intro l
  induction l with
  | nil => intro k _ _; trivial
  | cons o l ih =>
    intro k hk h
    refine ⟨?_, ih (k + 1) (fun j o' hj => by have := hk (j + 1) o' (by simpa using hj); rwa [show k + (j + 1) = k + 1 + j by omega] at this) h.2⟩
    intro a w hE hs hp hi
    have ho : ops[k]? = some o := by have := hk 0 o (by simp); simpa using this
    have hks : k < ops.size := (Array.getElem?_eq_some_iff.1 ho).1
    have hdk := List.all_eq_true.1 hd k (List.mem_range.2 hks)
    rw [ho] at hdk
    dsimp only at hdk
    have hs1 := h.1 a w ⟨hE.os, hE.tape, hE.output, hE.size, hE.block⟩ hs hp hi
    cases hdo : o.dst with
    | none =>
      rw [hdo] at hdk
      dsimp only at hdk
      have hkst : k = st := by simpa using hdk
      split
      · rename_i hw
        rw [if_pos hw] at hs1
        refine Oper.wp_mono ?_ hs1
        rintro a' w' ⟨v, e, hb, hok⟩
        rw [if_pos hkst] at hok
        refine ⟨v, e.trans (by rw [hdo]), hb, ?_⟩
        unfold InvN
        rw [if_pos hkst, e, hdo]; exact hok
      · rename_i hw
        rw [if_neg hw] at hs1
        exact absurd hkst hs1.1
    | some d =>
      rw [hdo] at hdk
      dsimp only at hdk
      simp only [Bool.and_eq_true, decide_eq_true_eq, bne_iff_ne] at hdk
      have hkst : k ≠ st := hdk.1.2
      have hdn : d < a.tmps.size := by rw [hs, hn]; exact hdk.1.1
      have hdst : dstOf ops k = some d := by simp [dstOf, ho, hdo]
      split
      · rename_i hw
        rw [if_pos hw] at hs1
        refine Oper.wp_mono ?_ hs1
        rintro a' w' ⟨v, e, hb, hok⟩
        rw [if_neg hkst] at hok
        refine ⟨v, e.trans (by rw [hdo]), hb, ?_⟩
        unfold InvN
        rw [if_neg hkst, hdst]
        show (sh k).ok (sl a' d) w'
        rw [e, hdo, put_same _ _ _ hdn]; exact hok
      · rename_i hw
        rw [if_neg hw] at hs1
        refine ⟨?_, ?_⟩
        · unfold RelN; rw [if_neg hkst]; exact Below.refl _ _
        · unfold InvN
          rw [if_neg hkst, hdst]
          show (sh k).ok (sl (a.put (some d) undef) d) w
          rw [put_same _ _ _ hdn]; exact hs1.2
theorem stepN_below {B X : Nat} {W w w' : World} (hE : Below B W w) (h : StepN B X w w') (hB : B ≤ W.heap.size) : Below B W w' :=
  hE.trans ⟨h.os, h.tape, h.output, h.size, fun k hk => h.keep k (by have := hE.size; omega) (.inl hk)⟩
theorem wp_region_boxN {P : Program} {ops : Array Oper} {Q : Exit → Act → World → Prop} {id : Nat} {a0 : Act} {w0 : World} (X : Nat) (sh : Nat → ShN w0.heap.size X) (st t : Nat) (s : ShN w0.heap.size X) (n : Nat) (hn : a0.tmps.size = n) (hm : P.follows .mixedOrders = true) (hback : backB ops = true) (hdist : distB ops = true) (hdsts : dstsN ops n st t = true)
    (each : EachN P ops Q a0 w0 w0.heap.size X sh st t s ops.toList 0)
    (fin : ∀ a w, Below w0.heap.size w0 w → a.tmps.size = a0.tmps.size → a.defers = a0.defers → (∀ j, j < ops.size → InvN ops w0.heap.size X sh st t s j (sl a) w) → (∀ u, (ops.toList.all fun o => o.dst != some u) = true → sl a u = sl a0 u) → Q .normal a w) :
    (Code.region id ops true).wp P Q a0 w0 := by
  refine wp_region_each hm hback (fun W w => Below w0.heap.size W w) (RelN w0.heap.size X st) (InvN ops w0.heap.size X sh st t s) (Below.refl _ _) ?_ ?_ (eachN_of (W0 := w0) hn hdsts ops.toList 0 (fun j o hj => by simpa using hj) each) (fun a w hE hs hd hI ht => fin a w ⟨hE.os, hE.tape, hE.output, hE.size, hE.block⟩ hs hd hI ht)
  · intro i w w' h hR
    unfold RelN at hR
    split at hR
    · exact stepN_below h hR (Nat.le_refl _)
    · exact h.trans (hR.mono h.size)
  intro i j oi oj σ σ' w w' hij hoi hoj _ hI hR hσ _ hord
  have hi' : i < ops.size := (Array.getElem?_eq_some_iff.1 hoi).1
  have hj' : j < ops.size := (Array.getElem?_eq_some_iff.1 hoj).1
  have hdi := List.all_eq_true.1 hdsts i (List.mem_range.2 hi')
  rw [hoi] at hdi
  dsimp only at hdi
  unfold InvN at hI ⊢
  by_cases hjs : j = st
  · rw [if_pos hjs] at hI ⊢
    obtain ⟨b, cs, hb, hBb, hh, hok⟩ := hI
    have his : i ≠ st := fun e => hij (e.trans hjs.symm)
    unfold RelN at hR
    rw [if_neg his] at hR
    have hne : oi.dst ≠ some t := by
      intro e
      rw [e] at hdi
      dsimp only at hdi
      simp only [Bool.and_eq_true, decide_eq_true_eq, bne_self_eq_false, Bool.false_or] at hdi
      have h2 := hdi.2
      rw [← hjs, hoj] at h2
      exact hord t e (by simpa using h2)
    exact ⟨b, cs, by rw [hσ t hne]; exact hb, hBb, (hR.block b (lt_of_block hh)).trans hh, s.keep _ _ _ hok hR⟩
  · rw [if_neg hjs] at hI ⊢
    cases hdj : dstOf ops j with
    | none => trivial
    | some d =>
      rw [hdj] at hI
      show (sh j).ok (σ' d) w'
      have hne : oi.dst ≠ some d := by
        intro e
        have := List.all_eq_true.1 (List.all_eq_true.1 hdist i (List.mem_range.2 hi')) j (List.mem_range.2 hj')
        rw [hoi, hoj] at this
        have hdj' : oj.dst = some d := by simpa [dstOf, hoj] using hdj
        simp [e, hdj', hij] at this
      rw [hσ d hne]
      unfold RelN at hR
      by_cases his : i = st
      · rw [if_pos his] at hR; exact (sh j).step _ _ _ hI hR
      · rw [if_neg his] at hR; exact (sh j).keep _ _ _ hI hR
/-- a store of a whole value into a box is such a step -/
theorem stepN_setRow {B X b : Nat} {w : World} {cs cs' : Array Value} (hb : B ≤ b) (h : w.heap[b]? = some (.cells cs X (0, 0))) (h1 : cs.size = 1) (hs : cs'.size = cs.size) : StepN B X w (w.setRow b cs') := by
  refine ⟨rfl, rfl, rfl, by simp, ?_, ?_⟩
  · intro k hk hp
    simp only [World.setRow, Array.getElem?_modify]
    have : b ≠ k := by
      rintro rfl
      rcases hp with hp | hp
      · omega
      · exact hp _ _ h h1
    rw [if_neg this]
  · intro k cs1 h2
    by_cases e : k = b
    · subst e
      rw [h] at h2; cases h2
      exact ⟨cs', hs, hrs h⟩
    · exact ⟨cs1, rfl, hro h2 e⟩
section
variable {B X : Nat}
theorem Ws.step {T : TypeId} {w w' : World} {q : Option Addr} {n c N : Nat} (h : Ws T w q n c N) (hb : StepN B X w w') (hne : T ≠ X) : Ws T w' q n c N := by
  obtain ⟨ws, hs, hn, hv⟩ := h.ex
  have key : ∀ a, q = some a → w'.heap[a.block]? = w.heap[a.block]? := fun a ha => by
    obtain ⟨cs, fr, hc⟩ := h.lies a ha
    exact hb.keep _ (lt_of_block hc) (.inr fun cs' fr' hc' => by rw [hc] at hc'; cases hc'; exact absurd rfl hne)
  refine ⟨⟨ws, ⟨hs.len, hs.le, hs.max, hs.nil, fun i hi => ?_⟩, hn, hv⟩, h.le, fun a ha => ?_⟩
  · obtain ⟨b, o, hp, hc⟩ := hs.rs i hi
    exact ⟨b, o, hp, (World.cell?_of_block (a := ⟨b, o + i, none⟩) (key ⟨b, o, none⟩ hp)).trans hc⟩
  · obtain ⟨cs, fr, hc⟩ := h.lies a ha
    exact ⟨cs, fr, (key a ha).trans hc⟩
theorem stepN_set {b : Nat} {w : World} {u v : Value} (hb : B ≤ b) (h : w.heap[b]? = some (.cells #[u] X (0, 0))) : StepN B X w (w.setCell ⟨b, 0, none⟩ v) := by
  have hs : (w.setCell ⟨b, 0, none⟩ v).heap[b]? = some (.cells #[v] X (0, 0)) := hss h
  refine ⟨rfl, rfl, rfl, by simp, ?_, ?_⟩
  · intro k hk hp
    have : k ≠ b := by
      rintro rfl
      rcases hp with hp | hp
      · omega
      · exact hp _ _ h rfl
    rw [Below.heap_setCell _ _ _ _ this]
  · intro k cs1 h2
    by_cases e : k = b
    · subst e
      rw [h] at h2; cases h2
      exact ⟨#[v], rfl, hs⟩
    · exact ⟨cs1, rfl, hsc h2 e⟩
theorem size1 {cs : Array Value} (h : cs.size = 1) : ∃ u, cs = #[u] := ⟨cs[0], by
  apply Array.ext
  · simp [h]
  · intro i h1 h2
    have : i = 0 := by omega
    subst this; rfl⟩
/-- a number, by value -/
def IsN (T : TypeId) (N : Nat) (v : Value) (w : World) : Prop := ∃ q n c, v = .agg #[.slice q n c] ∧ Ws T w q n c N
def ShN.num (T : TypeId) (N : Nat) (hne : T ≠ X) : ShN B X := ⟨IsN T N, fun _ _ _ ⟨q, n, c, e, h⟩ hb => ⟨q, n, c, e, h.keep hb⟩, fun _ _ _ ⟨q, n, c, e, h⟩ hb => ⟨q, n, c, e, h.step hb hne⟩⟩
def ShpN (T : TypeId) (N : Nat) : Shp := ⟨IsN T N, fun _ _ _ ⟨q, n, c, e, h⟩ hb => ⟨q, n, c, e, h.keep hb⟩⟩
/-- a number, and a code -/
def IsNT (T : TypeId) (N : Nat) (code : Int) (v : Value) (w : World) : Prop := ∃ q n c, v = .tuple #[.agg #[.slice q n c], .int .i64 code] ∧ Ws T w q n c N
def ShN.numT (T : TypeId) (N : Nat) (code : Int) (hne : T ≠ X) : ShN B X := ⟨IsNT T N code, fun _ _ _ ⟨q, n, c, e, h⟩ hb => ⟨q, n, c, e, h.keep hb⟩, fun _ _ _ ⟨q, n, c, e, h⟩ hb => ⟨q, n, c, e, h.step hb hne⟩⟩
/-- a slice of two numbers -/
def IsN2 (X T : TypeId) (M N : Nat) (v : Value) (w : World) : Prop := ∃ g q1 n1 c1 q2 n2 c2, v = .slice (some ⟨g, 0, none⟩) 2 2 ∧ w.heap[g]? = some (.cells #[.slice q1 n1 c1, .slice q2 n2 c2] X (0, 0)) ∧ Ws T w q1 n1 c1 M ∧ Ws T w q2 n2 c2 N
theorem IsN2.sl {T : TypeId} {M N : Nat} {v : Value} {w : World} (h : IsN2 X T M N v w) : ∃ p, v = .slice p 2 2 ∧ Nsl T w p 2 2 [M, N] := by
  obtain ⟨g, q1, n1, c1, q2, n2, c2, e, hg, h1, h2⟩ := h
  exact ⟨_, e, Nsl.two hg h1 h2⟩
def ShN.num2 (T : TypeId) (M N : Nat) (hne : T ≠ X) : ShN B X := ⟨IsN2 X T M N,
  fun _ _ _ ⟨g, q1, n1, c1, q2, n2, c2, e, hg, h1, h2⟩ hb => ⟨g, q1, n1, c1, q2, n2, c2, e, (hb.block _ (lt_of_block hg)).trans hg, h1.keep hb, h2.keep hb⟩,
  fun _ _ _ ⟨g, q1, n1, c1, q2, n2, c2, e, hg, h1, h2⟩ hb => ⟨g, q1, n1, c1, q2, n2, c2, e, (hb.keep _ (lt_of_block hg) (.inr fun cs fr hc => by rw [hg] at hc; cases hc; simp)).trans hg, h1.step hb hne, h2.step hb hne⟩⟩
end
end Go.By
namespace Go.By
/-- of grids of n rows of k bytes, how many have rank r: row by row -/
def cntR (k : Nat) : Nat → Nat → Nat
  | 0, 0 => 1
  | 0, _ + 1 => 0
  | n + 1, 0 => cntR k n 0
  | n + 1, r + 1 => cntR k n (r + 1) * 256 ^ (r + 1) + cntR k n r * (256 ^ k - 256 ^ r)
theorem cnt_zero (k : Nat) : ∀ n, cntR k n 0 = 1
  | 0 => rfl
  | n + 1 => cnt_zero k n
theorem cnt_more (k : Nat) : ∀ n r, n < r → cntR k n r = 0
  | 0, r + 1, _ => rfl
  | n + 1, r + 1, h => by
    show cntR k n (r + 1) * _ + cntR k n r * _ = 0
    rw [cnt_more k n (r + 1) (by omega), cnt_more k n r (by omega), Nat.zero_mul, Nat.zero_mul]
/-- the first m of a sequence, added -/
def sumF (f : Nat → Nat) : Nat → Nat
  | 0 => 0
  | m + 1 => sumF f m + f m
theorem sumF_le {f : Nat → Nat} {m r : Nat} (h : r < m) : f r ≤ sumF f m := by
  induction m with
  | zero => omega
  | succ m ih =>
    show f r ≤ sumF f m + f m
    by_cases e : r = m
    · subst e; omega
    · have := ih (by omega); omega
theorem sumF_mono {f : Nat → Nat} {m j : Nat} (h : m ≤ j) : sumF f m ≤ sumF f j := by
  induction j with
  | zero => have : m = 0 := by omega
            subst this; exact Nat.le_refl _
  | succ j ih =>
    by_cases e : m = j + 1
    · subst e; exact Nat.le_refl _
    · have := ih (by omega)
      show _ ≤ sumF f j + f j
      omega
theorem cnt_part (k n : Nat) : ∀ m, m ≤ k → sumF (cntR k (n + 1)) (m + 1) = sumF (cntR k n) m * 256 ^ k + cntR k n m * 256 ^ m
  | 0, _ => by
    show 0 + cntR k n 0 = 0 * _ + cntR k n 0 * 1
    omega
  | m + 1, h => by
    show sumF (cntR k (n + 1)) (m + 1) + (cntR k n (m + 1) * 256 ^ (m + 1) + cntR k n m * (256 ^ k - 256 ^ m)) = (sumF (cntR k n) m + cntR k n m) * 256 ^ k + _
    rw [cnt_part k n m (by omega)]
    have hp : (256 : Nat) ^ m ≤ 256 ^ k := Nat.pow_le_pow_right (by decide) (by omega)
    obtain ⟨d, hd⟩ : ∃ d, (256 : Nat) ^ k = 256 ^ m + d := ⟨256 ^ k - 256 ^ m, by omega⟩
    rw [hd, Nat.add_sub_cancel_left]
    generalize (256 : Nat) ^ m = q
    generalize (256 : Nat) ^ (m + 1) = q2
    grind
/-- grids of all ranks are all -/
theorem cnt_sum (k : Nat) : ∀ n, sumF (cntR k n) (k + 1) = 256 ^ (n * k)
  | 0 => by
    have : ∀ m, sumF (cntR k 0) (m + 1) = 1 := by
      intro m
      induction m with
      | zero => rfl
      | succ m ih => show sumF (cntR k 0) (m + 1) + 0 = 1; rw [ih]
    rw [this, Nat.zero_mul, Nat.pow_zero]
  | n + 1 => by
    rw [cnt_part k n k (Nat.le_refl _), Nat.succ_mul, Nat.pow_add, ← cnt_sum k n]
    show _ = (sumF (cntR k n) k + cntR k n k) * _
    rw [Nat.add_mul]
theorem cntR_le {k n r : Nat} (h : r ≤ k) : cntR k n r ≤ 256 ^ (n * k) := by
  rw [← cnt_sum k n]; exact sumF_le (by omega)
/-- the product of 256^m - 256^i, for the first r -/
def prI (m : Nat) : Nat → Int
  | 0 => 1
  | r + 1 => prI m r * ((256 : Int) ^ m - 256 ^ r)
theorem prI_zero {m : Nat} : ∀ {r}, m < r → prI m r = 0
  | r + 1, h => by
    show prI m r * _ = 0
    by_cases e : m = r
    · subst e; rw [Int.sub_self, Int.mul_zero]
    · rw [prI_zero (show m < r by omega), Int.zero_mul]
theorem prI_up (m : Nat) : ∀ r, prI (m + 1) (r + 1) = ((256 : Int) ^ (m + 1) - 1) * 256 ^ r * prI m r
  | 0 => by
    show 1 * ((256 : Int) ^ (m + 1) - 256 ^ 0) = (256 ^ (m + 1) - 1) * 256 ^ 0 * 1
    grind
  | r + 1 => by
    have ih := prI_up m r
    show prI (m + 1) (r + 1) * ((256 : Int) ^ (m + 1) - 256 ^ (r + 1)) = _ * _ * (prI m r * ((256 : Int) ^ m - 256 ^ r))
    rw [ih, Int.pow_succ, Int.pow_succ]
    grind
theorem prI_pos {m : Nat} : ∀ {r}, r ≤ m → 0 < prI m r
  | 0, _ => by show (0 : Int) < 1; decide
  | r + 1, h => by
    refine Int.mul_pos (prI_pos (by omega)) ?_
    have h2 : ((256 ^ r : Nat) : Int) < ((256 ^ m : Nat) : Int) := Int.ofNat_lt.2 (Nat.pow_lt_pow_right (by decide) (show r < m by omega))
    rw [Int.natCast_pow, Int.natCast_pow] at h2
    have h3 : (256 : Int) ^ r < 256 ^ m := h2
    generalize (256 : Int) ^ r = a at *
    generalize (256 : Int) ^ m = b at *
    omega
theorem cnt_pr (k : Nat) : ∀ n r, r ≤ k → (cntR k n r : Int) * prI r r = prI n r * prI k r
  | 0, 0, _ => rfl
  | 0, r + 1, _ => by rw [prI_zero (show 0 < r + 1 by omega)]; show ((0 : Nat) : Int) * _ = _; simp
  | n + 1, 0, _ => by rw [cnt_zero]; rfl
  | n + 1, r + 1, h => by
    have i1 := cnt_pr k n (r + 1) h
    have i2 := cnt_pr k n r (by omega)
    have hp : (256 : Nat) ^ r ≤ 256 ^ k := Nat.pow_le_pow_right (by decide) (by omega)
    have e : ((cntR k (n + 1) (r + 1) : Nat) : Int) = (cntR k n (r + 1) : Int) * 256 ^ (r + 1) + (cntR k n r : Int) * ((256 : Int) ^ k - 256 ^ r) := by
      show ((cntR k n (r + 1) * 256 ^ (r + 1) + cntR k n r * (256 ^ k - 256 ^ r) : Nat) : Int) = _
      rw [Int.natCast_add, Int.natCast_mul, Int.natCast_mul, Int.ofNat_sub hp, Int.natCast_pow, Int.natCast_pow, Int.natCast_pow]; rfl
    have u1 : prI (r + 1) (r + 1) = ((256 : Int) ^ (r + 1) - 1) * 256 ^ r * prI r r := prI_up r r
    have u2 : prI (n + 1) (r + 1) = ((256 : Int) ^ (n + 1) - 1) * 256 ^ r * prI n r := prI_up n r
    have u3 : prI n (r + 1) = prI n r * ((256 : Int) ^ n - 256 ^ r) := rfl
    have u4 : prI k (r + 1) = prI k r * ((256 : Int) ^ k - 256 ^ r) := rfl
    rw [e, u2, u4]
    rw [u3, u4] at i1
    rw [u1] at i1 ⊢
    rw [Int.pow_succ] at i1 ⊢
    rw [Int.pow_succ]
    generalize prI r r = A at *
    generalize prI n r = B at *
    generalize prI k r = D at *
    generalize (256 : Int) ^ r = q at *
    generalize (256 : Int) ^ n = N at *
    generalize (256 : Int) ^ k = Kq at *
    generalize (cntR k n (r + 1) : Int) = c1 at *
    generalize (cntR k n r : Int) = c0 at *
    have h2 : c0 * A * ((Kq - q) * ((q * 256 - 1) * q)) = B * D * ((Kq - q) * ((q * 256 - 1) * q)) := by rw [i2]
    grind
/-- full ones: 256^n - 256^i, for each column -/
def fullN (n : Nat) : Nat → Nat
  | 0 => 1
  | r + 1 => fullN n r * (256 ^ n - 256 ^ r)
theorem fullN_pr {n : Nat} : ∀ {r}, r ≤ n → (fullN n r : Int) = prI n r
  | 0, _ => rfl
  | r + 1, h => by
    have hp : (256 : Nat) ^ r ≤ 256 ^ n := Nat.pow_le_pow_right (by decide) (by omega)
    show ((fullN n r * (256 ^ n - 256 ^ r) : Nat) : Int) = prI n r * _
    rw [Int.natCast_mul, fullN_pr (show r ≤ n by omega), Int.ofNat_sub hp, Int.natCast_pow, Int.natCast_pow]; rfl
theorem cnt_full {n k : Nat} (h : k ≤ n) : cntR k n k = fullN n k := by
  have e := cnt_pr k n k (Nat.le_refl _)
  rw [← fullN_pr h] at e
  have hp := prI_pos (Nat.le_refl k)
  have := Int.eq_of_mul_eq_mul_right (by omega) e
  exact_mod_cast this
/-- those that fail -/
theorem cnt_fails {n k : Nat} : sumF (cntR k n) k = 256 ^ (n * k) - (if k ≤ n then fullN n k else 0) := by
  have h := cnt_sum k n
  have h : sumF (cntR k n) k + cntR k n k = 256 ^ (n * k) := h
  by_cases hk : k ≤ n
  · rw [if_pos hk, ← cnt_full hk]; omega
  · rw [if_neg hk]; rw [cnt_more k n k (by omega)] at h; omega
/-- those that a further row leaves as they are -/
theorem cnt_stay (k n : Nat) : ∀ r, cntR k n r * 256 ^ r ≤ cntR k (n + 1) r
  | 0 => by rw [cnt_zero, cnt_zero]; decide
  | r + 1 => Nat.le_add_right _ _
end Go.By
namespace Go.By
open Go.RowKit
/-- a block holds this -/
def BlkIs (b : Nat) (o : Obj) (W : World) : Prop := W.heap[b]? = some o
theorem BlkIs.keep {b : Nat} {o : Obj} {W W' : World} (h : BlkIs b o W) (hb : Below W.heap.size W W') : BlkIs b o W' := (hb.block _ (blk_lt h)).trans h
structure Bel (w0 W : World) : Prop where
  out : Below w0.heap.size w0 W
theorem Bel.keep {w0 W W' : World} (h : Bel w0 W) (hb : Below W.heap.size W W') : Bel w0 W' := ⟨bl h.out hb h.out.size⟩
/-- a number is what a function gives: its cell is written last -/
theorem ret_num {T U : TypeId} {w0 w : World} {q : Option Addr} {n c N g : Nat} {u : Value} (K : w.heap[g]? = some (.cells #[u] T (0, 0))) (hg : w0.heap.size ≤ g) (hB : Below w0.heap.size w0 w) (hw : Ws U w q n c N) (hne : T ≠ U) :
    Ws U (w.setCell ⟨g, 0, none⟩ (.slice q n c)) q n c N ∧ Below w0.heap.size w0 (w.setCell ⟨g, 0, none⟩ (.slice q n c)) ∧ (w.setCell ⟨g, 0, none⟩ (.slice q n c)).heap[g]? = some (.cells #[.slice q n c] T (0, 0)) :=
  ⟨hw.set K hne, hB.setCell hg _, hss K⟩
end Go.By
namespace Go.Proofs.YtbfmdfbnhakolaaDoor
open Go.RowKit Go.By
theorem Of_k (k : Nat) (hk : k < 18446744073709551616) (W : World) : Calls Tryd.prog 10 #[.int .u64 k] W (RetN1 34 W k) := by
  have := OfN_any (UInt64.ofNat k) W
  have e : (UInt64.ofNat k).toNat = k := by simp; omega
  rwa [e, show W64 (UInt64.ofNat k) = .int .u64 k by unfold W64; rw [e]] at this
theorem pow256 {j : Nat} (h : j ≤ 4095) : 256 ^ j < capN := lt_cap (k := j + 1) (Nat.pow_lt_pow_right (by decide) (by omega)) (by omega)
end Go.Proofs.YtbfmdfbnhakolaaDoor
namespace Go.Proofs.YtbfmdfbnhakolaaDoor
open Go.RowKit Go.By
set_option maxRecDepth 100000 in
set_option maxHeartbeats 1000000 in
theorem powN_any (n : Nat) (hn : n ≤ 4095) (w : World) : Calls Tryd.prog 32 #[.int .i64 n] w (RetN 34 w (256 ^ n)) := by
  have hinfo := info_nat
  go_enter Tryd.func32, Tryd.ntmps32
  go_wp2_with fail
  refine Calls.mono (Of_k 256 (by decide) _) ?_
  rintro e w1 ⟨q1, m1, d1, rfl, hw, hb⟩
  have K1 : Hid (BlkIs w.heap.size (.cells #[.slice none 0 0] 29) w1) := BlkIs.keep (hnew rfl) hb
  have B1 : Hid (Bel w w1) := (Bel.mk (ba1 w _)).keep hb
  have F1 := Lib.hid hw
  clear hw hb
  go_wp2_with fail
  refine Calls.mono (Pow_ok F1.out (by omega) (fun j hj => pow256 (by omega))) ?_
  rintro e w2 ⟨q2, m2, d2, rfl, hw, hb⟩
  have K2 := K1.out.keep hb
  have R := Lib.hid (ret_num K2 (Nat.le_refl _) (B1.out.keep hb).out hw (by decide))
  obtain ⟨_, a1, a2, a3, a4⟩ := One.of K2
  clear hw hb K1 B1 F1 K2
  go_wp2
  exact bodyPost_ret (res_cell_tmp rfl _ _ _ 29 #[.slice q2 m2 d2] (0, 0) _ (.int .i64 0) rfl R.out.2.2 rfl Tryd.underlying29 rfl hinfo) rfl ⟨_, _, _, rfl, R.out.1, R.out.2.1⟩
set_option maxRecDepth 100000 in
set_option maxHeartbeats 1000000 in
theorem fits_yes (n k : Nat) (hn : n ≤ 20) (hk1 : 1 ≤ k) (hk : k ≤ 20) (w : World) : Calls Tryd.prog 34 #[.int .i64 n, .int .i64 k] w fun e w' => e = .returned (.bool true) ∧ w = w' := by
  obtain ⟨P, hP⟩ : ∃ P, P = n * k := ⟨_, rfl⟩
  have hPb : P ≤ 400 := by rw [hP]; exact Nat.mul_le_mul hn hk
  have wm : IntKind.i64.wrap ((n : Int) * (k : Int)) = (P : Int) := by rw [hP, ← Int.natCast_mul]; exact Go.IntWalk.i64_in _ (by omega)
  have h1 : (1 : Int) ≤ (k : Int) := by omega
  have h2 : (n : Int) ≤ 4096 := by omega
  have h3 : (k : Int) ≤ 4096 := by omega
  have h4 : (P : Int) < 4096 := by omega
  clear hP hPb hn hk1 hk
  go_enter Tryd.func34, Tryd.ntmps34
  go_wp2
  go_ret
  exact ⟨rfl, rfl⟩
set_option maxRecDepth 100000 in
set_option maxHeartbeats 1000000 in
theorem Spare_any (n : Nat) (hn : n ≤ 4095) (w : World) : Calls Tryd.prog 9 #[.int .i64 n] w (RetN 34 w (256 ^ n)) := by
  have hinfo := info_nat
  have h1 : (n : Int) < 4096 := by omega
  go_enter Tryd.func9, Tryd.ntmps9
  go_wp2_with fail
  refine Calls.mono (powN_any n hn _) ?_
  rintro e w2 ⟨q2, m2, d2, rfl, hw, hb⟩
  have K2 : w2.heap[w.heap.size]? = some (.cells #[.slice none 0 0] 29 (0, 0)) := (hb.block _ (by simp)).trans (hnew rfl)
  have R := Lib.hid (ret_num K2 (Nat.le_refl _) ((Bel.mk (ba1 w _)).keep hb).out hw (by decide))
  obtain ⟨_, a1, a2, a3, a4⟩ := One.of K2
  clear hw hb K2
  go_wp2
  exact bodyPost_ret (res_cell_tmp rfl _ _ _ 29 #[.slice q2 m2 d2] (0, 0) _ (.int .i64 0) rfl R.out.2.2 rfl Tryd.underlying29 rfl hinfo) rfl ⟨_, _, _, rfl, R.out.1, R.out.2.1⟩
set_option maxRecDepth 100000 in
set_option maxHeartbeats 1000000 in
theorem All_any (n k : Nat) (hn : n ≤ 20) (hk1 : 1 ≤ k) (hk : k ≤ 20) (w : World) : Calls Tryd.prog 15 #[.int .i64 n, .int .i64 k] w (RetN 34 w (256 ^ (n * k))) := by
  have hinfo := info_nat
  obtain ⟨P, hP⟩ : ∃ P, P = n * k := ⟨_, rfl⟩
  have hPb : P ≤ 400 := by rw [hP]; exact Nat.mul_le_mul hn hk
  have wm : IntKind.i64.wrap ((n : Int) * (k : Int)) = (P : Int) := by rw [hP, ← Int.natCast_mul]; exact Go.IntWalk.i64_in _ (by omega)
  rw [← hP]
  clear hP
  have HF : Hid (∀ W, Calls Tryd.prog 34 #[.int .i64 n, .int .i64 k] W fun e w' => e = .returned (.bool true) ∧ W = w') := fun W => fits_yes n k hn hk1 hk W
  go_enter Tryd.func15, Tryd.ntmps15
  go_wp2_with fail
  refine Calls.mono (HF.out _) ?_
  rintro e w' ⟨rfl, rfl⟩
  go_wp2_with fail
  refine Calls.mono (powN_any P (by omega) _) ?_
  rintro e w2 ⟨q2, m2, d2, rfl, hw, hb⟩
  have K2 : w2.heap[w.heap.size]? = some (.cells #[.slice none 0 0] 29 (0, 0)) := (hb.block _ (by simp)).trans (hnew rfl)
  have R := Lib.hid (ret_num K2 (Nat.le_refl _) ((Bel.mk (ba1 w _)).keep hb).out hw (by decide))
  obtain ⟨_, a1, a2, a3, a4⟩ := One.of K2
  clear hw hb K2
  go_wp2
  exact bodyPost_ret (res_cell_tmp rfl _ _ _ 29 #[.slice q2 m2 d2] (0, 0) _ (.int .i64 0) rfl R.out.2.2 rfl Tryd.underlying29 rfl hinfo) rfl ⟨_, _, _, rfl, R.out.1, R.out.2.1⟩
/-- two boxes: the first is read behind the second -/
theorem box_keep {w : World} {b : Nat} {o o2 : Obj} (h : w.heap[b]? = some o) : (w.alloc o2).heap[b]? = some o := hal h
set_option maxRecDepth 100000 in
set_option maxHeartbeats 1000000 in
theorem without_any (n i : Nat) (hn : n ≤ 4095) (hi : i ≤ n) (w : World) : Calls Tryd.prog 35 #[.int .i64 n, .int .i64 i] w (RetN 34 w (256 ^ n - 256 ^ i)) := by
  have hinfo := info_nat
  have hle : Hid ((256 : Nat) ^ i ≤ 256 ^ n) := Nat.pow_le_pow_right (by decide) hi
  go_enter Tryd.func35, Tryd.ntmps35
  go_wp2_with fail
  refine Calls.mono (powN_any n hn _) ?_
  rintro e w1 ⟨q1, m1, d1, rfl, hw, hb⟩
  have K1 : Hid (BlkIs w.heap.size (.cells #[.slice none 0 0] 29) w1) := BlkIs.keep (hnew rfl) hb
  have B1 : Hid (Bel w w1) := (Bel.mk (ba1 w _)).keep hb
  have F1 := Lib.hid hw
  clear hw hb
  go_wp2_with fail
  refine Calls.mono (powN_any i (by omega) _) ?_
  rintro e w2 ⟨q2, m2, d2, rfl, hw, hb⟩
  have hbb : Below w1.heap.size w1 w2 := bl (ba1 w1 _) hb (ba1 w1 _).size
  have K2 := Lib.hid (K1.out.keep hbb)
  have B2 := Lib.hid (B1.out.keep hbb)
  have F2 := Lib.hid (F1.out.keep hbb)
  have X2 : w2.heap[w1.heap.size]? = some (.cells #[.slice q1 m1 d1] 29 (0, 0)) := (hb.block _ (by simp)).trans (hnew rfl)
  obtain ⟨_, e1, e2, e3, e4⟩ := One.of X2
  have G2 := Lib.hid hw
  clear hw hb hbb K1 B1 F1 X2
  go_wp2_with fail
  refine Calls.mono (Sub_ok F2.out.on1 G2.out.on1 hle.out) ?_
  rintro e w3 ⟨q3, m3, d3, rfl, hw, hb⟩
  have hbb : Below w2.heap.size w2 w3 := bl (ba1 w2 _) hb (ba1 w2 _).size
  have K3 := K2.out.keep hbb
  have R := Lib.hid (ret_num K3 (Nat.le_refl _) (B2.out.keep hbb).out hw (by decide))
  obtain ⟨_, a1, a2, a3, a4⟩ := One.of K3
  clear hw hb hbb K2 B2 F2 G2 K3 e1 e2 e3 e4
  go_wp2
  exact bodyPost_ret (res_cell_tmp rfl _ _ _ 29 #[.slice q3 m3 d3] (0, 0) _ (.int .i64 0) rfl R.out.2.2 rfl Tryd.underlying29 rfl hinfo) rfl ⟨_, _, _, rfl, R.out.1, R.out.2.1⟩
end Go.Proofs.YtbfmdfbnhakolaaDoor
namespace Go.By
open Go.RowKit
theorem fullN_le (n : Nat) : ∀ r, fullN n r ≤ 256 ^ (n * r)
  | 0 => by rw [Nat.mul_zero]; exact Nat.le_refl _
  | r + 1 => by
    rw [Nat.mul_succ, Nat.pow_add]
    exact Nat.mul_le_mul (fullN_le n r) (Nat.sub_le _ _)
/-- how many are full -/
def fullC (n k : Nat) : Nat := if k ≤ n then fullN n k else 0
theorem fullC_le (n k : Nat) : fullC n k ≤ 256 ^ (n * k) := by
  unfold fullC
  split
  · exact fullN_le n k
  · exact Nat.zero_le _
/-- a box's number is turned -/
theorem NBox.set {T U : TypeId} {w : World} {b M N : Nat} {q : Option Addr} {n c : Nat} (h : NBox T U w b M) (hw : Ws U w q n c N) (hne : T ≠ U) : NBox T U (w.setCell ⟨b, 0, none⟩ (.slice q n c)) b N := by
  obtain ⟨q1, n1, c1, k, _⟩ := h
  exact ⟨q, n, c, hss k, hw.set k hne⟩
theorem NBox.other {T U : TypeId} {w : World} {b b2 N : Nat} {v u : Value} (h : NBox T U w b N) (k2 : w.heap[b2]? = some (.cells #[u] T (0, 0))) (hb : b ≠ b2) (hne : T ≠ U) : NBox T U (w.setCell ⟨b2, 0, none⟩ v) b N := by
  obtain ⟨q1, n1, c1, k, hw⟩ := h
  exact ⟨q1, n1, c1, hsc k hb, hw.set k2 hne⟩
end Go.By
namespace Go.Proofs.YtbfmdfbnhakolaaDoor
open Go.RowKit Go.By
set_option maxRecDepth 100000 in
set_option maxHeartbeats 1000000 in
theorem Full_less (n k : Nat) (hn : n ≤ 20) (hk : k ≤ 20) (hlt : n < k) (w : World) : Calls Tryd.prog 38 #[.int .i64 n, .int .i64 k] w (RetN 34 w 0) := by
  have hinfo := info_nat
  have HF : Hid (∀ W, Calls Tryd.prog 34 #[.int .i64 n, .int .i64 k] W fun e w' => e = .returned (.bool true) ∧ W = w') := fun W => fits_yes n k hn (by omega) hk W
  have h1 : (n : Int) < (k : Int) := by omega
  clear hlt
  go_enter Tryd.func38, Tryd.ntmps38
  go_wp2_with fail
  refine Calls.mono (HF.out _) ?_
  rintro e w' ⟨rfl, rfl⟩
  go_wp2_with fail
  refine Calls.mono (Of_k 0 (by decide) _) ?_
  rintro e w2 ⟨q2, m2, d2, rfl, hw, hb⟩
  have K2 : w2.heap[w.heap.size]? = some (.cells #[.slice none 0 0] 29 (0, 0)) := (hb.block _ (by simp)).trans (hnew rfl)
  have R := Lib.hid (ret_num K2 (Nat.le_refl _) ((Bel.mk (ba1 w _)).keep hb).out hw (by decide))
  obtain ⟨_, a1, a2, a3, a4⟩ := One.of K2
  clear hw hb K2
  go_wp2
  exact bodyPost_ret (res_cell_tmp rfl _ _ _ 29 #[.slice q2 m2 d2] (0, 0) _ (.int .i64 0) rfl R.out.2.2 rfl Tryd.underlying29 rfl hinfo) rfl ⟨_, _, _, rfl, R.out.1, R.out.2.1⟩
set_option maxRecDepth 100000 in
set_option maxHeartbeats 2000000 in
theorem Full_more (n k : Nat) (hn : n ≤ 20) (hk1 : 1 ≤ k) (hk : k ≤ n) (w : World) : Calls Tryd.prog 38 #[.int .i64 n, .int .i64 k] w (RetN 34 w (fullN n k)) := by
  have hinfo := info_nat
  have HF : Hid (∀ W, Calls Tryd.prog 34 #[.int .i64 n, .int .i64 k] W fun e w' => e = .returned (.bool true) ∧ W = w') := fun W => fits_yes n k hn hk1 (by omega) W
  have h1 : (k : Int) ≤ (n : Int) := by omega
  have HK := Lib.hid hk
  clear hk
  go_enter Tryd.func38, Tryd.ntmps38
  go_wp2_with fail
  refine Calls.mono (HF.out _) ?_
  rintro e w' ⟨rfl, rfl⟩
  go_wp2_with fail
  refine Calls.mono (Of_k 1 (by decide) _) ?_
  rintro e w2 ⟨q2, m2, d2, rfl, hw, hb⟩
  have K2 : Hid (BlkIs w.heap.size (.cells #[.slice none 0 0] 29) w2) := BlkIs.keep (hnew rfl) hb
  have B2 : Hid (Bel w w2) := (Bel.mk (ba1 w _)).keep hb
  have K3 := Lib.hid (K2.out.keep (ba1 w2 (.cells #[.slice q2 m2 d2] 29)))
  have B3 := Lib.hid (B2.out.keep (ba1 w2 (.cells #[.slice q2 m2 d2] 29)))
  have N3 : Hid (NBox 29 34 (w2.alloc (.cells #[.slice q2 m2 d2] 29)) w2.heap.size 1) := NBox.new hw
  have hlt : w.heap.size < w2.heap.size := by have := hb.size; simp at this; omega
  clear hw hb K2 B2
  go_wp2
  generalize w2.alloc (.cells #[.slice q2 m2 d2] 29) = w3 at *
  generalize w2.heap.size = bf at *
  go_loopw [21] (fun iv wr => ∃ i : Nat, i ≤ k ∧ iv = .int .i64 i ∧ Hid (BlkIs w.heap.size (.cells #[.slice none 0 0] 29) wr) ∧ Hid (Bel w wr) ∧ Hid (NBox 29 34 wr bf (fullN n i))) (fun iv _ => k - (intOf iv).toNat)
  case atStart => exact ⟨0, Nat.zero_le _, rfl, K3.out, B3.out, N3.out⟩
  case round =>
    clear K3 B3 N3
    obtain ⟨i, hi, rfl, hK, hB, hN⟩ := hrel
    by_cases hik : i < k
    · have hik' : (i : Int) < (k : Int) := by omega
      have HB1 : Hid (fullN n i < capN ∧ fullN n i * (256 ^ n - 256 ^ i) < capN) := by
        have e1 : n * i ≤ 20 * 20 := Nat.mul_le_mul hn (show i ≤ 20 by have := HK.out; omega)
        have e2 : n * (i + 1) ≤ 20 * 20 := Nat.mul_le_mul hn (show i + 1 ≤ 20 by have := HK.out; omega)
        exact ⟨Nat.lt_of_le_of_lt (fullN_le n i) (pow256 (by omega)), Nat.lt_of_le_of_lt (fullN_le n (i + 1)) (pow256 (by omega))⟩
      have HI := Lib.hid hik
      clear hik
      go_wp2_with fail
      refine Calls.mono (without_any n i (by omega) (by have := HK.out; have := HI.out; omega) _) ?_
      rintro e w4 ⟨q4, m4, d4, rfl, hw, hb⟩
      have K4 := Lib.hid (hK.out.keep hb); have B4 := Lib.hid (hB.out.keep hb); have N4 := Lib.hid (hN.out.keep hb)
      have F4 := Lib.hid hw
      clear hw hb hK hB hN
      obtain ⟨qf, nf, cf, kf, xf⟩ := N4.out
      obtain ⟨_, e1, e2, e3, e4⟩ := One.of kf
      have Xf := Lib.hid xf
      have Kf := Lib.hid kf
      clear kf xf
      go_wp2_with fail
      refine Calls.mono (Mul2_ok (Nsl.two (hnew (by simp)) Xf.out.on F4.out.on) HB1.out.1 HB1.out.2) ?_
      rintro e w5 ⟨q5, m5, d5, rfl, hw, hb⟩
      have hbb : Below w4.heap.size w4 w5 := bl (ba2 w4 _ _) hb (ba2 w4 _ _).size
      have kf5 : w5.heap[bf]? = some (.cells #[.slice qf nf cf] 29 (0, 0)) := (hbb.block _ (blk_lt Kf.out)).trans Kf.out
      have K5 := K4.out.keep hbb
      have F : Hid (BlkIs w.heap.size (.cells #[.slice none 0 0] 29) (w5.setCell ⟨bf, 0, none⟩ (.slice q5 m5 d5)) ∧ Bel w (w5.setCell ⟨bf, 0, none⟩ (.slice q5 m5 d5)) ∧ NBox 29 34 (w5.setCell ⟨bf, 0, none⟩ (.slice q5 m5 d5)) bf (fullN n (i + 1))) :=
        ⟨hsc K5 (by show w.heap.size ≠ bf; omega), ⟨(B4.out.keep hbb).out.setCell (by show w.heap.size ≤ bf; omega) _⟩, (N4.out.keep hbb).set hw (by decide)⟩
      obtain ⟨_, f1, f2, f3, f4⟩ := One.of kf5
      clear hw hb hbb kf5 K5 K4 B4 N4 F4 Xf Kf e1 e2 e3 e4
      go_wp2
      go_roundw
      case rel => exact ⟨i + 1, by have := HI.out; omega, by go_num, F.out.1, F.out.2.1, F.out.2.2⟩
      case measure => simp [intOf]; have := HI.out; omega
    · obtain rfl : i = k := by omega
      obtain ⟨qf, nf, cf, kf, xf⟩ := hN.out
      obtain ⟨_, e1, e2, e3, e4⟩ := One.of kf
      have R := Lib.hid (ret_num hK.out (Nat.le_refl _) hB.out.out xf (by decide))
      obtain ⟨_, a1, a2, a3, a4⟩ := One.of hK.out
      clear kf xf hK hB hN hik
      go_wp2
      exact bodyPost_ret (res_cell_tmp rfl _ _ _ 29 #[.slice qf nf cf] (0, 0) _ (.int .i64 0) rfl R.out.2.2 rfl Tryd.underlying29 rfl hinfo) rfl ⟨_, _, _, rfl, R.out.1, R.out.2.1⟩
theorem Full_any (n k : Nat) (hn : n ≤ 20) (hk1 : 1 ≤ k) (hk : k ≤ 20) (w : World) : Calls Tryd.prog 38 #[.int .i64 n, .int .i64 k] w (RetN 34 w (fullC n k)) := by
  unfold fullC
  by_cases h : k ≤ n
  · rw [if_pos h]; exact Full_more n k hn hk1 h w
  · rw [if_neg h]; exact Full_less n k hn hk (by omega) w
set_option maxRecDepth 100000 in
set_option maxHeartbeats 1000000 in
theorem Fails_any (n k : Nat) (hn : n ≤ 20) (hk1 : 1 ≤ k) (hk : k ≤ 20) (w : World) : Calls Tryd.prog 16 #[.int .i64 n, .int .i64 k] w (RetN 34 w (256 ^ (n * k) - fullC n k)) := by
  have hinfo := info_nat
  have hle := Lib.hid (fullC_le n k)
  have HA : Hid (∀ W, Calls Tryd.prog 15 #[.int .i64 n, .int .i64 k] W (RetN 34 W (256 ^ (n * k)))) := fun W => All_any n k hn hk1 hk W
  have HU : Hid (∀ W, Calls Tryd.prog 38 #[.int .i64 n, .int .i64 k] W (RetN 34 W (fullC n k))) := fun W => Full_any n k hn hk1 hk W
  go_enter Tryd.func16, Tryd.ntmps16
  go_wp2_with fail
  refine Calls.mono (HA.out _) ?_
  rintro e w1 ⟨q1, m1, d1, rfl, hw, hb⟩
  have K1 : Hid (BlkIs w.heap.size (.cells #[.slice none 0 0] 29) w1) := BlkIs.keep (hnew rfl) hb
  have B1 : Hid (Bel w w1) := (Bel.mk (ba1 w _)).keep hb
  have F1 := Lib.hid hw
  clear hw hb
  go_wp2_with fail
  refine Calls.mono (HU.out _) ?_
  rintro e w2 ⟨q2, m2, d2, rfl, hw, hb⟩
  have hbb : Below w1.heap.size w1 w2 := bl (ba1 w1 _) hb (ba1 w1 _).size
  have K2 := Lib.hid (K1.out.keep hbb)
  have B2 := Lib.hid (B1.out.keep hbb)
  have F2 := Lib.hid (F1.out.keep hbb)
  have X2 : w2.heap[w1.heap.size]? = some (.cells #[.slice q1 m1 d1] 29 (0, 0)) := (hb.block _ (by simp)).trans (hnew rfl)
  obtain ⟨_, e1, e2, e3, e4⟩ := One.of X2
  have G2 := Lib.hid hw
  clear hw hb hbb K1 B1 F1 X2
  go_wp2_with fail
  refine Calls.mono (Sub_ok F2.out.on1 G2.out.on1 hle.out) ?_
  rintro e w3 ⟨q3, m3, d3, rfl, hw, hb⟩
  have hbb : Below w2.heap.size w2 w3 := bl (ba1 w2 _) hb (ba1 w2 _).size
  have K3 := K2.out.keep hbb
  have R := Lib.hid (ret_num K3 (Nat.le_refl _) (B2.out.keep hbb).out hw (by decide))
  obtain ⟨_, a1, a2, a3, a4⟩ := One.of K3
  clear hw hb hbb K2 B2 F2 G2 K3 e1 e2 e3 e4
  go_wp2
  exact bodyPost_ret (res_cell_tmp rfl _ _ _ 29 #[.slice q3 m3 d3] (0, 0) _ (.int .i64 0) rfl R.out.2.2 rfl Tryd.underlying29 rfl hinfo) rfl ⟨_, _, _, rfl, R.out.1, R.out.2.1⟩
end Go.Proofs.YtbfmdfbnhakolaaDoor
namespace Go.By
open Go.RowKit
/-- an array of numbers: block g, m of them -/
def NArr (T U : TypeId) (w : World) (g m : Nat) (F : Nat → Nat) : Prop := ∃ vs : List Value, w.heap[g]? = some (.cells vs.toArray T (0, 0)) ∧ vs.length = m ∧ ∀ i, i < m → ∃ q n c, vs[i]? = some (.slice q n c) ∧ Ws U w q n c (F i)
theorem NArr.keep {T U : TypeId} {w w' : World} {g m : Nat} {F : Nat → Nat} (h : NArr T U w g m F) (hb : Below w.heap.size w w') : NArr T U w' g m F := by
  obtain ⟨vs, hh, hl, hv⟩ := h
  exact ⟨vs, (hb.block _ (blk_lt hh)).trans hh, hl, fun i hi => by
    obtain ⟨q, n, c, e, hw⟩ := hv i hi
    exact ⟨q, n, c, e, hw.keep hb⟩⟩
theorem NArr.congr {T U : TypeId} {w : World} {g m : Nat} {F G : Nat → Nat} (h : NArr T U w g m F) (e : ∀ i, i < m → F i = G i) : NArr T U w g m G := by
  obtain ⟨vs, hh, hl, hv⟩ := h
  exact ⟨vs, hh, hl, fun i hi => by
    obtain ⟨q, n, c, e2, hw⟩ := hv i hi
    exact ⟨q, n, c, e2, by rw [← e i hi]; exact hw⟩⟩
/-- what is read at a place -/
theorem NArr.at {T U : TypeId} {w : World} {g m : Nat} {F : Nat → Nat} (h : NArr T U w g m F) {i : Nat} (hi : i < m) : ∃ q n c, w.cell? ⟨g, i, none⟩ = some (.slice q n c) ∧ w.frozen? ⟨g, i, none⟩ = false ∧ Ws U w q n c (F i) := by
  obtain ⟨vs, hh, hl, hv⟩ := h
  obtain ⟨q, n, c, e, hw⟩ := hv i hi
  refine ⟨q, n, c, ?_, frozen_of_row _ _ _ _ _ hh, hw⟩
  rw [cell_of_row _ _ i _ _ _ hh]
  simpa using e
theorem NArr.set {T U : TypeId} {w : World} {g m j N : Nat} {F G : Nat → Nat} {q : Option Addr} {n c : Nat} (h : NArr T U w g m F) (hne : T ≠ U) (hw : Ws U w q n c N) (hj : j < m) (hG : G j = N) (e : ∀ i, i < m → i ≠ j → G i = F i) : NArr T U (w.setCell ⟨g, j, none⟩ (.slice q n c)) g m G := by
  obtain ⟨vs, hh, hl, hv⟩ := h
  refine ⟨vs.set j (.slice q n c), ?_, by rw [List.length_set]; exact hl, fun i hi => ?_⟩
  · rw [hss hh, List.setIfInBounds_toArray]
  · by_cases hij : i = j
    · subst hij
      exact ⟨q, n, c, by rw [List.getElem?_set_self (by omega)], by rw [hG]; exact hw.set hh hne⟩
    · obtain ⟨q1, n1, c1, e1, h1⟩ := hv i hi
      exact ⟨q1, n1, c1, by rw [List.getElem?_set_ne (fun e => hij e.symm)]; exact e1, by rw [e i hi hij]; exact h1.set hh hne⟩
theorem NArr.blk {T U : TypeId} {w : World} {g m : Nat} {F : Nat → Nat} (h : NArr T U w g m F) : ∃ cs : Array Value, w.heap[g]? = some (.cells cs T (0, 0)) := by
  obtain ⟨vs, hh, _⟩ := h; exact ⟨_, hh⟩
/-- another array is written -/
theorem NArr.other {T U : TypeId} {w : World} {g g2 i m : Nat} {F : Nat → Nat} {v : Value} {cs : Array Value} (h : NArr T U w g m F) (k2 : w.heap[g2]? = some (.cells cs T (0, 0))) (hb : g ≠ g2) (hne : T ≠ U) : NArr T U (w.setCell ⟨g2, i, none⟩ v) g m F := by
  obtain ⟨vs, hh, hl, hv⟩ := h
  exact ⟨vs, hsc hh hb, hl, fun j hj => by
    obtain ⟨q, n, c, e, hw⟩ := hv j hj
    exact ⟨q, n, c, e, hw.set k2 hne⟩⟩
theorem heap_owns1 {w : World} {base E g n : Nat} {L : List Value} (h : w.ownsRow base E 1 (.slice (some ⟨g, 0, none⟩) n n) n L) (hn : 0 < n) : w.heap[g]? = some (.cells L.toArray E (0, 0)) := by
  have hl := owns_len h
  rcases h.2 with ⟨e, _⟩ | ⟨g', cap, cur, e1, _, hh, _, _, hs, hc⟩
  · cases e
  · cases e1
    rw [hh]
    have : cur = L.toArray := by
      apply Array.ext
      · simp [hs, hl]
      · intro i h1 h2
        have h3 : i < L.length := by simpa using h2
        have hcell := h.cellAt i (by rw [← hl]; omega)
        rw [cell_of_row _ _ i _ _ _ hh, Array.getElem?_eq_getElem h1, List.getElem?_eq_getElem h3] at hcell
        simpa using hcell
    rw [this]
theorem NArr.made {T U : TypeId} {w : World} {base g m : Nat} (h : w.ownsRow base T 1 (.slice (some ⟨g, 0, none⟩) m m) m (madeCells #[Value.slice none 0 0] m).toList) (hm : 0 < m) : NArr T U w g m (fun _ => 0) := by
  refine ⟨_, heap_owns1 h hm, by simp [madeCells], fun i hi => ⟨none, 0, 0, ?_, Ws.zero _ _⟩⟩
  rw [toList_madeCells_one, List.getElem?_replicate_of_lt hi]
end Go.By
namespace Go.Proofs.YtbfmdfbnhakolaaDoor
open Go.RowKit Go.By
theorem info_natz : (Tryd.prog.info? 29).map (fun i => (i.zero, i.size, i.bytes)) = some (some (.agg #[.slice none 0 0]), 1, 24) := by kernel_rfl
end Go.Proofs.YtbfmdfbnhakolaaDoor
namespace Go.By
theorem cnt_cap {n k r : Nat} (hn : n ≤ 20) (hk : k ≤ 20) (hr : r ≤ k) : cntR k n r < capN := by
  have : n * k ≤ 20 * 20 := Nat.mul_le_mul hn hk
  exact Nat.lt_of_le_of_lt (cntR_le hr) (lt_cap (k := n * k + 1) (Nat.pow_lt_pow_right (by decide) (by omega)) (by omega))
/-- the counts behind a row more, down to rank r -/
def rowF (k i r t : Nat) : Nat := if t ≤ r then cntR k i t else cntR k (i + 1) t
end Go.By
namespace Go.Proofs.YtbfmdfbnhakolaaDoor
open Go.RowKit Go.By
set_option maxRecDepth 100000 in
set_option maxHeartbeats 1000000 in
theorem OfRank_less (n k r : Nat) (hn : n ≤ 20) (hk1 : 1 ≤ k) (hk : k ≤ 20) (hlt : n < r) (hr : r ≤ 20) (w : World) : Calls Tryd.prog 12 #[.int .i64 n, .int .i64 k, .int .i64 r] w (RetN 34 w 0) := by
  have hinfo := info_nat
  have HF : Hid (∀ W, Calls Tryd.prog 34 #[.int .i64 n, .int .i64 k] W fun e w' => e = .returned (.bool true) ∧ W = w') := fun W => fits_yes n k hn hk1 hk W
  have h1 : (n : Int) < (r : Int) := by omega
  clear hlt
  go_enter Tryd.func12, Tryd.ntmps12
  go_wp2_with fail
  refine Calls.mono (HF.out _) ?_
  rintro e w' ⟨rfl, rfl⟩
  go_wp2_with fail
  refine Calls.mono (Of_k 0 (by decide) _) ?_
  rintro e w2 ⟨q2, m2, d2, rfl, hw, hb⟩
  have K2 : w2.heap[w.heap.size]? = some (.cells #[.slice none 0 0] 29 (0, 0)) := (hb.block _ (by simp)).trans (hnew rfl)
  have R := Lib.hid (ret_num K2 (Nat.le_refl _) ((Bel.mk (ba1 w _)).keep hb).out hw (by decide))
  obtain ⟨_, a1, a2, a3, a4⟩ := One.of K2
  clear hw hb K2
  go_wp2
  exact bodyPost_ret (res_cell_tmp rfl _ _ _ 29 #[.slice q2 m2 d2] (0, 0) _ (.int .i64 0) rfl R.out.2.2 rfl Tryd.underlying29 rfl hinfo) rfl ⟨_, _, _, rfl, R.out.1, R.out.2.1⟩
set_option maxRecDepth 100000 in
set_option maxHeartbeats 4000000 in
theorem OfRank_more (n k rk : Nat) (hn : n ≤ 20) (hk1 : 1 ≤ k) (hk : k ≤ 20) (hrn : rk ≤ n) (hrk : rk ≤ k) (w : World) : Calls Tryd.prog 12 #[.int .i64 n, .int .i64 k, .int .i64 rk] w (RetN 34 w (cntR k n rk)) := by
  have hinfo := info_nat
  obtain ⟨i0, hi, hz0, hz1, hz2⟩ := info_parts info_natz
  have HF : Hid (∀ W, Calls Tryd.prog 34 #[.int .i64 n, .int .i64 k] W fun e w' => e = .returned (.bool true) ∧ W = w') := fun W => fits_yes n k hn hk1 hk W
  have HM1 : Hid (rk + 1 ≤ maxLen) := by show rk + 1 ≤ maxLen; unfold maxLen; omega
  have HM2 : Hid (24 * (rk + 1) ≤ 281474976710656) := by show 24 * (rk + 1) ≤ _; omega
  have h1 : (rk : Int) ≤ (n : Int) := by omega
  have h2 : (rk : Int) ≤ (k : Int) := by omega
  have hr20 : rk ≤ 20 := by omega
  have HR := Lib.hid hrk
  clear hrn hrk
  go_enter Tryd.func12, Tryd.ntmps12
  go_wp2_with fail
  refine Calls.mono (HF.out _) ?_
  rintro e w' ⟨rfl, rfl⟩
  clear HF
  go_wp2_with (at_make; refine wpList_make_full _ rfl _ _ 74 rfl (w.heap.size + 1) 29 i0 (.agg #[.slice none 0 0]) 1 Tryd.underlying74 hi hz0 hz1 .i64 .i64 _ _ (rk + 1) rfl rfl (by simp) (by simp) (by rw [hz2]; exact HM2.out) HM1.out (by simp) ?_)
  intro w1 ho hg
  have hb1 : Below (w.alloc (.cells #[.slice none 0 0] 29)).heap.size (w.alloc (.cells #[.slice none 0 0] 29)) w1 := (Below.refl _ _).grown hg (Nat.le_refl _) (by simp)
  obtain ⟨gs, hgs⟩ : ∃ gs, gs = w.heap.size + 1 := ⟨_, rfl⟩
  have A1 : Hid (NArr 29 34 w1 gs (rk + 1) (fun _ => 0)) := by rw [hgs]; exact NArr.made ho (by omega)
  have K1 : Hid (BlkIs w.heap.size (.cells #[.slice none 0 0] 29) w1) := BlkIs.keep (hnew rfl) hb1
  have B1 : Hid (Bel w w1) := (Bel.mk (ba1 w _)).keep hb1
  have hlt1 : w.heap.size < gs := by omega
  have hgs2 : w.heap.size + 1 = gs := hgs.symm
  have hs1 : gs < w1.heap.size := by obtain ⟨cs, hh⟩ := A1.out.blk; exact blk_lt hh
  clear ho hg hb1 hgs
  rw [hgs2]
  clear hgs2
  go_wp2_with (at_make; refine wpList_make_full _ rfl _ _ 74 rfl w1.heap.size 29 i0 (.agg #[.slice none 0 0]) 1 Tryd.underlying74 hi hz0 hz1 .i64 .i64 _ _ (rk + 1) rfl rfl (by simp) (by simp) (by rw [hz2]; exact HM2.out) HM1.out (Nat.le_refl _) ?_)
  intro w2 ho hg
  have hb1 : Below w1.heap.size w1 w2 := (Below.refl _ _).grown hg (Nat.le_refl _) (by simp)
  have A2 := Lib.hid (A1.out.keep hb1)
  have G2 : Hid (NArr 29 34 w2 w1.heap.size (rk + 1) (fun _ => 0)) := NArr.made ho (by omega)
  have K2 := Lib.hid (K1.out.keep hb1); have B2 := Lib.hid (B1.out.keep hb1)
  clear ho hg hb1 A1 K1 B1
  generalize w1.heap.size = gg at *
  go_wp2
  go_loopw [10] (fun rv wr => ∃ r : Nat, 1 ≤ r ∧ r ≤ rk + 1 ∧ rv = .int .i64 r ∧ Hid (BlkIs w.heap.size (.cells #[.slice none 0 0] 29) wr) ∧ Hid (Bel w wr) ∧ Hid (NArr 29 34 wr gs (rk + 1) (fun t => if 1 ≤ t ∧ t < r then 256 ^ t else 0)) ∧ Hid (NArr 29 34 wr gg (rk + 1) (fun t => if 1 ≤ t ∧ t < r then 256 ^ k - 256 ^ (t - 1) else 0))) (fun rv _ => rk + 1 - (intOf rv).toNat)
  case atStart =>
    refine ⟨1, by omega, by omega, rfl, K2.out, B2.out, A2.out.congr fun i _ => ?_, G2.out.congr fun i _ => ?_⟩
    · rw [if_neg (by omega)]
    · rw [if_neg (by omega)]
  case round =>
    clear A2 G2 K2 B2
    obtain ⟨r, hr1, hr2, rfl, hK, hB, hA, hG⟩ := hrel
    by_cases hlt : r ≤ rk
    · have hlt' : (r : Int) ≤ (rk : Int) := by omega
      obtain ⟨p, hp⟩ : ∃ p, r = p + 1 := ⟨r - 1, by omega⟩
      have HP := Lib.hid hp
      have HL := Lib.hid hlt
      clear hp
      go_wp2_with fail
      refine Calls.mono (powN_any r (by omega) _) ?_
      rintro e w4 ⟨q4, m4, d4, rfl, hw, hb⟩
      have K4 := hK.out.keep hb; have B4 := hB.out.keep hb
      have A4 := hA.out.keep hb; have G4 := hG.out.keep hb
      obtain ⟨qx, nx, cx, e1, e2, _⟩ := A4.at (i := r) (by omega)
      obtain ⟨cs, kb⟩ := A4.blk
      have S5 : Hid (BlkIs w.heap.size (.cells #[.slice none 0 0] 29) (w4.setCell ⟨gs, r, none⟩ (.slice q4 m4 d4)) ∧ Bel w (w4.setCell ⟨gs, r, none⟩ (.slice q4 m4 d4)) ∧ NArr 29 34 (w4.setCell ⟨gs, r, none⟩ (.slice q4 m4 d4)) gs (rk + 1) (fun t => if 1 ≤ t ∧ t < r + 1 then 256 ^ t else 0) ∧ NArr 29 34 (w4.setCell ⟨gs, r, none⟩ (.slice q4 m4 d4)) gg (rk + 1) (fun t => if 1 ≤ t ∧ t < r then 256 ^ k - 256 ^ (t - 1) else 0)) := by
        refine ⟨hsc K4 (by show w.heap.size ≠ gs; omega), ⟨B4.out.setCell (by show w.heap.size ≤ gs; omega) _⟩, A4.set (by decide) hw (by omega) (by rw [if_pos (by omega)]) (fun i hi hij => ?_), G4.other kb (by omega) (by decide)⟩
        by_cases hir : 1 ≤ i ∧ i < r
        · rw [if_pos hir, if_pos (by omega)]
        · rw [if_neg hir, if_neg (by omega)]
      clear hw hb K4 B4 A4 G4 kb hK hB hA hG
      have hri : (r : Int) < (rk : Int) + 1 := by omega
      go_wp2_with fail
      rw [show (r : Int) - 1 = (p : Int) by have := HP.out; omega]
      refine Calls.mono (without_any k p (by omega) (by have := HP.out; have := HR.out; omega) _) ?_
      rintro e w6 ⟨q6, m6, d6, rfl, hw, hb⟩
      have K4 := S5.out.1.keep hb; have B4 := S5.out.2.1.keep hb
      have A4 := S5.out.2.2.1.keep hb; have G4 := S5.out.2.2.2.keep hb
      obtain ⟨qx, nx, cx, f1, f2, _⟩ := G4.at (i := r) (by omega)
      obtain ⟨cs, kb⟩ := G4.blk
      have S7 : Hid (BlkIs w.heap.size (.cells #[.slice none 0 0] 29) (w6.setCell ⟨gg, r, none⟩ (.slice q6 m6 d6)) ∧ Bel w (w6.setCell ⟨gg, r, none⟩ (.slice q6 m6 d6)) ∧ NArr 29 34 (w6.setCell ⟨gg, r, none⟩ (.slice q6 m6 d6)) gs (rk + 1) (fun t => if 1 ≤ t ∧ t < r + 1 then 256 ^ t else 0) ∧ NArr 29 34 (w6.setCell ⟨gg, r, none⟩ (.slice q6 m6 d6)) gg (rk + 1) (fun t => if 1 ≤ t ∧ t < r + 1 then 256 ^ k - 256 ^ (t - 1) else 0)) := by
        refine ⟨hsc K4 (by show w.heap.size ≠ gg; omega), ⟨B4.out.setCell (by show w.heap.size ≤ gg; omega) _⟩, A4.other kb (by omega) (by decide), G4.set (by decide) hw (by omega) (by rw [if_pos (by omega)]; have := HP.out; rw [show r - 1 = p by omega]) (fun i hi hij => ?_)⟩
        by_cases hir : 1 ≤ i ∧ i < r
        · rw [if_pos hir, if_pos (by omega)]
        · rw [if_neg hir, if_neg (by omega)]
      clear hw hb K4 B4 A4 G4 kb S5 e1 e2
      go_wp2
      go_roundw
      case rel => exact ⟨r + 1, by omega, by have := HL.out; omega, by go_num, S7.out.1, S7.out.2.1, S7.out.2.2.1, S7.out.2.2.2⟩
      case measure => simp [intOf]; have := HL.out; omega
    · obtain rfl : r = rk + 1 := by omega
      have SA := hA.out.congr (G := fun t => if 1 ≤ t then 256 ^ t else 0) (fun i hi => by
        by_cases h : 1 ≤ i
        · rw [if_pos ⟨h, hi⟩, if_pos h]
        · rw [if_neg (by omega), if_neg h])
      have SG := hG.out.congr (G := fun t => if 1 ≤ t then 256 ^ k - 256 ^ (t - 1) else 0) (fun i hi => by
        by_cases h : 1 ≤ i
        · rw [if_pos ⟨h, hi⟩, if_pos h]
        · rw [if_neg (by omega), if_neg h])
      have SA_0 := Lib.hid SA; have SG_0 := Lib.hid SG
      have hgw : gg < wr.heap.size := by obtain ⟨cs, hh⟩ := SG.blk; exact blk_lt hh
      clear SA SG hA hG hlt hr1 hr2
      go_wp2_with (at_make; refine wpList_make_full _ rfl _ _ 74 rfl wr.heap.size 29 i0 (.agg #[.slice none 0 0]) 1 Tryd.underlying74 hi hz0 hz1 .i64 .i64 _ _ (rk + 1) rfl rfl (by simp) (by simp) (by rw [hz2]; exact HM2.out) HM1.out (Nat.le_refl _) ?_)
      intro w3 ho hg
      have hb1 : Below wr.heap.size wr w3 := (Below.refl _ _).grown hg (Nat.le_refl _) (by simp)
      have C_1 : Hid (NArr 29 34 w3 wr.heap.size (rk + 1) (fun _ => 0)) := NArr.made ho (by omega)
      have SA_1 := Lib.hid (SA_0.out.keep hb1); have SG_1 := Lib.hid (SG_0.out.keep hb1); have K_1 := Lib.hid (hK.out.keep hb1); have B_1 := Lib.hid (hB.out.keep hb1)
      clear ho hg hb1 SA_0 SG_0 hK hB
      generalize wr.heap.size = gc at *
      go_wp2_with fail
      refine Calls.mono (Of_k 1 (by decide) _) ?_
      rintro e w4 ⟨q4, m4, d4, rfl, hw, hb⟩
      have C4 := C_1.out.keep hb
      obtain ⟨qx, nx, cx, e1, e2, _⟩ := C4.at (i := 0) (by omega)
      obtain ⟨cs, kb⟩ := C4.blk
      have S5 : Hid (BlkIs w.heap.size (.cells #[.slice none 0 0] 29) (w4.setCell ⟨gc, 0, none⟩ (.slice q4 m4 d4)) ∧ Bel w (w4.setCell ⟨gc, 0, none⟩ (.slice q4 m4 d4)) ∧ NArr 29 34 (w4.setCell ⟨gc, 0, none⟩ (.slice q4 m4 d4)) gs (rk + 1) (fun t => if 1 ≤ t then 256 ^ t else 0) ∧ NArr 29 34 (w4.setCell ⟨gc, 0, none⟩ (.slice q4 m4 d4)) gg (rk + 1) (fun t => if 1 ≤ t then 256 ^ k - 256 ^ (t - 1) else 0) ∧ NArr 29 34 (w4.setCell ⟨gc, 0, none⟩ (.slice q4 m4 d4)) gc (rk + 1) (cntR k 0)) := by
        refine ⟨hsc (K_1.out.keep hb) (by show w.heap.size ≠ gc; omega), ⟨(B_1.out.keep hb).out.setCell (by show w.heap.size ≤ gc; omega) _⟩, (SA_1.out.keep hb).other kb (by omega) (by decide), (SG_1.out.keep hb).other kb (by omega) (by decide), C4.set (by decide) hw (by omega) rfl (fun i hi hij => ?_)⟩
        obtain ⟨j, rfl⟩ : ∃ j, i = j + 1 := ⟨i - 1, by omega⟩
        rfl
      clear hw hb C4 kb C_1 SA_1 SG_1 K_1 B_1
      go_wp2
      go_loopw [79] (fun iv wr => ∃ i : Nat, i ≤ n ∧ iv = .int .i64 i ∧ Hid (BlkIs w.heap.size (.cells #[.slice none 0 0] 29) wr) ∧ Hid (Bel w wr) ∧ Hid (NArr 29 34 wr gs (rk + 1) (fun t => if 1 ≤ t then 256 ^ t else 0)) ∧ Hid (NArr 29 34 wr gg (rk + 1) (fun t => if 1 ≤ t then 256 ^ k - 256 ^ (t - 1) else 0)) ∧ Hid (NArr 29 34 wr gc (rk + 1) (cntR k i))) (fun iv _ => n - (intOf iv).toNat)
      case atStart => exact ⟨0, Nat.zero_le _, rfl, S5.out.1, S5.out.2.1, S5.out.2.2.1, S5.out.2.2.2.1, S5.out.2.2.2.2⟩
      case round =>
        clear S5 e1 e2
        obtain ⟨i, hin, rfl, hK, hB, hA, hG, hC⟩ := hrel
        by_cases hlt : i < n
        · have hlt' : (i : Int) < (n : Int) := by omega
          have HL := Lib.hid hlt
          have HC0 : Hid (NArr 29 34 wr gc (rk + 1) (rowF k i rk)) := hC.out.congr (fun t ht => by unfold rowF; rw [if_pos (by omega)])
          clear hlt hC
          go_wp2
          go_loopw [13] (fun rv wr => ∃ r : Nat, r ≤ rk ∧ rv = .int .i64 r ∧ Hid (BlkIs w.heap.size (.cells #[.slice none 0 0] 29) wr) ∧ Hid (Bel w wr) ∧ Hid (NArr 29 34 wr gs (rk + 1) (fun t => if 1 ≤ t then 256 ^ t else 0)) ∧ Hid (NArr 29 34 wr gg (rk + 1) (fun t => if 1 ≤ t then 256 ^ k - 256 ^ (t - 1) else 0)) ∧ Hid (NArr 29 34 wr gc (rk + 1) (rowF k i r))) (fun rv _ => (intOf rv).toNat)
          case atStart => exact ⟨rk, Nat.le_refl _, rfl, hK.out, hB.out, hA.out, hG.out, HC0.out⟩
          case round =>
            clear hK hB hA hG HC0
            obtain ⟨r, hr, rfl, hK, hB, hA, hG, hC⟩ := hrel
            cases r with
            | zero =>
              have HC1 : Hid (NArr 29 34 wr gc (rk + 1) (cntR k (i + 1))) := hC.out.congr (fun t ht => by
                unfold rowF
                by_cases h : t ≤ 0
                · have : t = 0 := by omega
                  subst this
                  rw [if_pos h, cnt_zero, cnt_zero]
                · rw [if_neg h])
              clear hC
              go_wp2
              go_roundw
              case rel => exact ⟨i + 1, by have := HL.out; omega, by go_num, hK.out, hB.out, hA.out, hG.out, HC1.out⟩
              case measure => simp [intOf]; have := HL.out; omega
            | succ p =>
              obtain ⟨r, hrp⟩ : ∃ r, r = p + 1 := ⟨_, rfl⟩
              rw [← hrp] at hr hC ⊢
              have HRP := Lib.hid hrp
              have hr1 : (1 : Int) ≤ (r : Int) := by omega
              obtain ⟨qa, na, ca, cA, _, wA⟩ := hC.out.at (i := r) (by omega)
              obtain ⟨qb, nb, cb, cB, _, wB⟩ := hA.out.at (i := r) (by omega)
              have L1 : Hid (Ws 34 wr qa na ca (cntR k i r)) := by have := wA; unfold rowF at this; rw [if_pos (Nat.le_refl _)] at this; exact this
              have L2 : Hid (Ws 34 wr qb nb cb (256 ^ r)) := by have := wB; rw [if_pos (by omega)] at this; exact this
              have K1 : (r : Int) < (rk : Int) + 1 := by omega
              have K2 : r < rk + 1 := by omega
              have HS1 : Hid (cntR k i r < capN ∧ cntR k i r * 256 ^ r < capN ∧ cntR k i p < capN ∧ cntR k i p * (256 ^ k - 256 ^ p) < capN ∧ cntR k i r * 256 ^ r + cntR k i p * (256 ^ k - 256 ^ p) = cntR k (i + 1) r ∧ cntR k (i + 1) r < capN) := by
                have hrk := HR.out; have hil := HL.out
                have c1 := cnt_cap (n := i) (k := k) (r := r) (by omega) hk (by omega)
                have c2 := cnt_cap (n := i) (k := k) (r := p) (by omega) hk (by omega)
                have c3 := cnt_cap (n := i + 1) (k := k) (r := r) (by omega) hk (by omega)
                have e : cntR k (i + 1) r = cntR k i r * 256 ^ r + cntR k i p * (256 ^ k - 256 ^ p) := by rw [hrp]; rfl
                refine ⟨c1, ?_, c2, ?_, e.symm, c3⟩ <;> omega
              clear wA wB hrp
              go_wp2
              refine wp_region_boxN 29 (fun ix => ([ShN.val _ _ (.slice (some ⟨gc, 0, none⟩) (rk + 1) (rk + 1)), ShN.val _ _ (.int .i64 r), ShN.val _ _ (.pointer (some ⟨gc, r, none⟩)), ShN.val _ _ (.agg #[.slice qa na ca]), ShN.val _ _ (.slice (some ⟨gs, 0, none⟩) (rk + 1) (rk + 1)), ShN.val _ _ (.int .i64 r), ShN.val _ _ (.pointer (some ⟨gs, r, none⟩)), ShN.val _ _ (.agg #[.slice qb nb cb]), ShN.num2 34 (cntR k i r) (256 ^ r) (by decide), ShN.numT 34 (cntR k i r * 256 ^ r) (0) (by decide), ShN.numT 34 (cntR k i r * 256 ^ r) (0) (by decide), ShN.num 34 (cntR k i r * 256 ^ r) (by decide), ShN.val _ _ (.int .i64 0), ShN.box _ _, ShN.any _ _, ShN.val _ _ (.int .i64 0)][ix]?).getD (ShN.any _ _)) 14 14 (ShN.num 34 (cntR k i r * 256 ^ r) (by decide)) 140 rfl (by kernel_rfl) (by decide) (by decide) (by decide) ?_ ?_
              · refine ⟨?_, ?_, ?_, ?_, ?_, ?_, ?_, ?_, ?_, ?_, ?_, ?_, ?_, ?_, ?_, ?_, trivial⟩
                · intro a W hb hs hp hi
                  exact ite_y rfl (wp_val (sl a 12) rfl ⟨_, rfl, Below.refl _ _, hi 12 (by decide)⟩)
                · intro a W hb hs hp hi
                  exact ite_y rfl (wp_val (sl a 13) rfl ⟨_, rfl, Below.refl _ _, hi 13 (by decide)⟩)
                · intro a W hb hs hp hi
                  have tx0 : sl a 87 = .slice (some ⟨gc, 0, none⟩) (rk + 1) (rk + 1) := hp 0 (by decide)
                  have tx1 : sl a 88 = .int .i64 r := hp 1 (by decide)
                  refine ite_y rfl (wp_val (.pointer (some ⟨gc, r, none⟩)) ?_ ?_)
                  · simp only [execOp, eval_tmp, tx0, tx1]; simp [go_sem, K1, K2]
                  · exact ⟨_, rfl, Below.refl _ _, rfl⟩
                · intro a W hb hs hp hi
                  have tt : sl a 89 = .pointer (some ⟨gc, r, none⟩) := hp 2 (by decide)
                  have dd := (hb.cell (p := ⟨gc, r, none⟩) (lt_of_cell cA)).trans cA
                  refine ite_y rfl (wp_val (.agg #[.slice qa na ca]) ?_ ?_)
                  · simp only [execOp, eval_tmp, tt]; simp [go_sem, dd]
                  · exact ⟨_, rfl, Below.refl _ _, rfl⟩
                · intro a W hb hs hp hi
                  exact ite_y rfl (wp_val (sl a 8) rfl ⟨_, rfl, Below.refl _ _, hi 8 (by decide)⟩)
                · intro a W hb hs hp hi
                  exact ite_y rfl (wp_val (sl a 13) rfl ⟨_, rfl, Below.refl _ _, hi 13 (by decide)⟩)
                · intro a W hb hs hp hi
                  have tx0 : sl a 91 = .slice (some ⟨gs, 0, none⟩) (rk + 1) (rk + 1) := hp 4 (by decide)
                  have tx1 : sl a 92 = .int .i64 r := hp 5 (by decide)
                  refine ite_y rfl (wp_val (.pointer (some ⟨gs, r, none⟩)) ?_ ?_)
                  · simp only [execOp, eval_tmp, tx0, tx1]; simp [go_sem, K1, K2]
                  · exact ⟨_, rfl, Below.refl _ _, rfl⟩
                · intro a W hb hs hp hi
                  have tt : sl a 93 = .pointer (some ⟨gs, r, none⟩) := hp 6 (by decide)
                  have dd := (hb.cell (p := ⟨gs, r, none⟩) (lt_of_cell cB)).trans cB
                  refine ite_y rfl (wp_val (.agg #[.slice qb nb cb]) ?_ ?_)
                  · simp only [execOp, eval_tmp, tt]; simp [go_sem, dd]
                  · exact ⟨_, rfl, Below.refl _ _, rfl⟩
                · intro a W hb hs hp hi
                  have tx : sl a 90 = .agg #[.slice qa na ca] := hp 3 (by decide)
                  have ty : sl a 94 = .agg #[.slice qb nb cb] := hp 7 (by decide)
                  refine ite_y rfl (wp_val' (w' := W.alloc (.cells #[.slice qa na ca, .slice qb nb cb] 29)) (.slice (some ⟨W.heap.size, 0, none⟩) 2 2) ?_ ?_)
                  · simp only [execOp, eval_tmp, List.map_toArray, List.map, tx, ty]; simp [go_sem, tx, ty]
                  · exact ⟨_, rfl, al (Below.refl _ _) (Nat.le_refl _), _, _, _, _, _, _, _, rfl, hnew rfl, (L1.out.keep hb).on1, (L2.out.keep hb).on1⟩
                · intro a W hb hs hp hi
                  have tx : IsN2 29 34 (cntR k i r) (256 ^ r) (sl a 95) W := hp 8 (by decide)
                  obtain ⟨p, tx, h25⟩ := tx.sl
                  refine ite_y rfl (wp_enter 14 #[.slice p 2 2] ?_ (Mul2_ok h25 HS1.out.1 HS1.out.2.1) ?_)
                  · simp only [execOp, resolve, List.map_toArray, List.map, eval_tmp, eval_func, eval_const, tx]; simp [go_sem]
                  · rintro e W' ⟨q, n, c, rfl, hw, hb'⟩; exact ⟨_, rfl, _, rfl, hb', q, n, c, rfl, hw⟩
                · intro a W hb hs hp hi
                  exact ite_y rfl (wp_val (sl a 96) rfl ⟨_, rfl, Below.refl _ _, hp 9 (by decide)⟩)
                · intro a W hb hs hp hi
                  have tx : IsNT 34 (cntR k i r * 256 ^ r) (0) (sl a 86) W := hp 10 (by decide)
                  obtain ⟨q, n, c, tx, wx⟩ := tx
                  refine ite_y rfl (wp_val (.agg #[.slice q n c]) ?_ ?_)
                  · simp only [execOp, eval_tmp, tx]; rfl
                  · exact ⟨_, rfl, Below.refl _ _, q, n, c, rfl, wx⟩
                · intro a W hb hs hp hi
                  have tx : IsNT 34 (cntR k i r * 256 ^ r) (0) (sl a 86) W := hp 10 (by decide)
                  obtain ⟨q, n, c, tx, wx⟩ := tx
                  refine ite_y rfl (wp_val (.int .i64 0) ?_ ?_)
                  · simp only [execOp, eval_tmp, tx]; rfl
                  · exact ⟨_, rfl, Below.refl _ _, rfl⟩
                · intro a W hb hs hp hi
                  refine ite_y rfl (wp_val' (w' := W.alloc (.cells #[.slice none 0 0] 29)) (.pointer (some ⟨W.heap.size, 0, none⟩)) ?_ ?_)
                  · simp only [execOp]; simp [go_sem]
                  · exact ⟨_, rfl, al (Below.refl _ _) (Nat.le_refl _), W.heap.size, #[.slice none 0 0], rfl, hb.size, rfl, hnew rfl⟩
                · intro a W hb hs hp hi
                  have tu : IsN 34 (cntR k i r * 256 ^ r) (sl a 97) W := hp 11 (by decide)
                  obtain ⟨q, n, c, tu, wu⟩ := tu
                  have tb : NBoxS _ _ 1 (sl a 14) W := hp 13 (by decide)
                  obtain ⟨b, cs, tb, hB, hc, hh⟩ := tb
                  obtain ⟨u0, rfl⟩ := size1 hc
                  have d0 : W.cell? ⟨b, 0, none⟩ = some u0 := cell_of_row _ _ 0 _ _ _ hh
                  have z0 : W.frozen? ⟨b, 0, none⟩ = false := frozen_of_row _ _ 0 _ _ hh
                  refine ite_y rfl (wp_skipX (w' := W.setCell ⟨b, 0, none⟩ (.slice q n c)) ?_ ?_)
                  · simp only [execOp, eval_tmp, tu, tb]; simp [go_sem, d0, z0]
                  · have hst := stepN_set (v := .slice q n c) hB hh
                    exact ⟨_, rfl, hst, b, #[.slice q n c], tb, hB, hss hh, q, n, c, rfl, wu.step hst (by decide)⟩
                · intro a W hb hs hp hi
                  exact ite_y rfl (wp_val (sl a 98) rfl ⟨_, rfl, Below.refl _ _, hp 12 (by decide)⟩)
              intro a wx hb hs hd hI ht
              have ha := act_is [87, 88, 89, 90, 91, 92, 93, 94, 95, 96, 86, 97, 98, 14, 15] hs hd ht (by decide)
              have tb : BoxedN _ _ _ _ (sl a) wx := hI 14 (by decide)
              obtain ⟨bx, cs, t3, hBx, hhx, qx, mx, dx, ec, hwx⟩ := tb
              obtain rfl : cs = #[.slice qx mx dx] := by injection ec
              have t4 : sl a 15 = .int .i64 0 := hI 15 (by decide)
              simp only [List.foldl, t3, t4] at ha
              generalize sl a 87 = u87 at ha
              generalize sl a 88 = u88 at ha
              generalize sl a 89 = u89 at ha
              generalize sl a 90 = u90 at ha
              generalize sl a 91 = u91 at ha
              generalize sl a 92 = u92 at ha
              generalize sl a 93 = u93 at ha
              generalize sl a 94 = u94 at ha
              generalize sl a 95 = u95 at ha
              generalize sl a 96 = u96 at ha
              generalize sl a 86 = u86 at ha
              generalize sl a 97 = u97 at ha
              generalize sl a 98 = u98 at ha
              simp only [Act.put, List.setIfInBounds_toArray, List.set_cons_zero, List.set_cons_succ] at ha
              rw [ha]
              clear ha hI ht t3 t4 ec hs hd
              have HWx := Lib.hid hwx
              clear hwx
              have K_x := Lib.hid (hK.out.keep hb); have B_x := Lib.hid (hB.out.keep hb); have A_x := Lib.hid (hA.out.keep hb); have G_x := Lib.hid (hG.out.keep hb); have C_x := Lib.hid (hC.out.keep hb)
              have X_x : Hid (NBox 29 34 wx bx (cntR k i r * 256 ^ r)) := ⟨_, _, _, hhx, HWx.out⟩
              clear hb hhx HWx hBx hK hB hA hG hC cA cB L1 L2
              obtain ⟨qa, na, ca, cA, _, wA⟩ := C_x.out.at (i := p) (by have := HRP.out; omega)
              obtain ⟨qb, nb, cb, cB, _, wB⟩ := G_x.out.at (i := r) (by omega)
              have L1 : Hid (Ws 34 wx qa na ca (cntR k i p)) := by have := wA; unfold rowF at this; rw [if_pos (by have := HRP.out; omega)] at this; exact this
              have L2 : Hid (Ws 34 wx qb nb cb (256 ^ k - 256 ^ p)) := by have := wB; rw [if_pos (by omega), show r - 1 = p by have := HRP.out; omega] at this; exact this
              have K3 : (p : Int) < (rk : Int) + 1 := by have := HRP.out; omega
              have K4 : p < rk + 1 := by have := HRP.out; omega
              have K5 : IntKind.i64.wrap ((r : Int) - 1) = (p : Int) := (Go.IntWalk.i64_in _ ⟨by omega, by omega⟩).trans (by have := HRP.out; omega)
              have HK5 := Lib.hid K5
              clear wA wB K5
              go_wp2
              have K5 := HK5.out
              refine wp_region_boxN 29 (fun ix => ([ShN.val _ _ (.slice (some ⟨gc, 0, none⟩) (rk + 1) (rk + 1)), ShN.val _ _ (.int .i64 r), ShN.val _ _ (.int .i64 p), ShN.val _ _ (.pointer (some ⟨gc, p, none⟩)), ShN.val _ _ (.agg #[.slice qa na ca]), ShN.val _ _ (.slice (some ⟨gg, 0, none⟩) (rk + 1) (rk + 1)), ShN.val _ _ (.int .i64 r), ShN.val _ _ (.pointer (some ⟨gg, r, none⟩)), ShN.val _ _ (.agg #[.slice qb nb cb]), ShN.num2 34 (cntR k i p) (256 ^ k - 256 ^ p) (by decide), ShN.numT 34 (cntR k i p * (256 ^ k - 256 ^ p)) (0) (by decide), ShN.numT 34 (cntR k i p * (256 ^ k - 256 ^ p)) (0) (by decide), ShN.num 34 (cntR k i p * (256 ^ k - 256 ^ p)) (by decide), ShN.val _ _ (.int .i64 0), ShN.box _ _, ShN.any _ _, ShN.val _ _ (.int .i64 0)][ix]?).getD (ShN.any _ _)) 15 16 (ShN.num 34 (cntR k i p * (256 ^ k - 256 ^ p)) (by decide)) 140 rfl (by kernel_rfl) (by decide) (by decide) (by decide) ?_ ?_
              · refine ⟨?_, ?_, ?_, ?_, ?_, ?_, ?_, ?_, ?_, ?_, ?_, ?_, ?_, ?_, ?_, ?_, ?_, trivial⟩
                · intro a W hb hs hp hi
                  exact ite_y rfl (wp_val (sl a 12) rfl ⟨_, rfl, Below.refl _ _, hi 12 (by decide)⟩)
                · intro a W hb hs hp hi
                  exact ite_y rfl (wp_val (sl a 13) rfl ⟨_, rfl, Below.refl _ _, hi 13 (by decide)⟩)
                · intro a W hb hs hp hi
                  have tx0 : sl a 105 = .int .i64 r := hp 1 (by decide)
                  refine ite_y rfl (wp_val (.int .i64 p) ?_ ?_)
                  · simp only [execOp, eval_tmp, eval_const, tx0]; simp [go_sem, K5]
                  · exact ⟨_, rfl, Below.refl _ _, rfl⟩
                · intro a W hb hs hp hi
                  have tx0 : sl a 104 = .slice (some ⟨gc, 0, none⟩) (rk + 1) (rk + 1) := hp 0 (by decide)
                  have tx1 : sl a 106 = .int .i64 p := hp 2 (by decide)
                  refine ite_y rfl (wp_val (.pointer (some ⟨gc, p, none⟩)) ?_ ?_)
                  · simp only [execOp, eval_tmp, tx0, tx1]; simp [go_sem, K3, K4]
                  · exact ⟨_, rfl, Below.refl _ _, rfl⟩
                · intro a W hb hs hp hi
                  have tt : sl a 107 = .pointer (some ⟨gc, p, none⟩) := hp 3 (by decide)
                  have dd := (hb.cell (p := ⟨gc, p, none⟩) (lt_of_cell cA)).trans cA
                  refine ite_y rfl (wp_val (.agg #[.slice qa na ca]) ?_ ?_)
                  · simp only [execOp, eval_tmp, tt]; simp [go_sem, dd]
                  · exact ⟨_, rfl, Below.refl _ _, rfl⟩
                · intro a W hb hs hp hi
                  exact ite_y rfl (wp_val (sl a 9) rfl ⟨_, rfl, Below.refl _ _, hi 9 (by decide)⟩)
                · intro a W hb hs hp hi
                  exact ite_y rfl (wp_val (sl a 13) rfl ⟨_, rfl, Below.refl _ _, hi 13 (by decide)⟩)
                · intro a W hb hs hp hi
                  have tx0 : sl a 109 = .slice (some ⟨gg, 0, none⟩) (rk + 1) (rk + 1) := hp 5 (by decide)
                  have tx1 : sl a 110 = .int .i64 r := hp 6 (by decide)
                  refine ite_y rfl (wp_val (.pointer (some ⟨gg, r, none⟩)) ?_ ?_)
                  · simp only [execOp, eval_tmp, tx0, tx1]; simp [go_sem, K1, K2]
                  · exact ⟨_, rfl, Below.refl _ _, rfl⟩
                · intro a W hb hs hp hi
                  have tt : sl a 111 = .pointer (some ⟨gg, r, none⟩) := hp 7 (by decide)
                  have dd := (hb.cell (p := ⟨gg, r, none⟩) (lt_of_cell cB)).trans cB
                  refine ite_y rfl (wp_val (.agg #[.slice qb nb cb]) ?_ ?_)
                  · simp only [execOp, eval_tmp, tt]; simp [go_sem, dd]
                  · exact ⟨_, rfl, Below.refl _ _, rfl⟩
                · intro a W hb hs hp hi
                  have tx : sl a 108 = .agg #[.slice qa na ca] := hp 4 (by decide)
                  have ty : sl a 112 = .agg #[.slice qb nb cb] := hp 8 (by decide)
                  refine ite_y rfl (wp_val' (w' := W.alloc (.cells #[.slice qa na ca, .slice qb nb cb] 29)) (.slice (some ⟨W.heap.size, 0, none⟩) 2 2) ?_ ?_)
                  · simp only [execOp, eval_tmp, List.map_toArray, List.map, tx, ty]; simp [go_sem, tx, ty]
                  · exact ⟨_, rfl, al (Below.refl _ _) (Nat.le_refl _), _, _, _, _, _, _, _, rfl, hnew rfl, (L1.out.keep hb).on1, (L2.out.keep hb).on1⟩
                · intro a W hb hs hp hi
                  have tx : IsN2 29 34 (cntR k i p) (256 ^ k - 256 ^ p) (sl a 113) W := hp 9 (by decide)
                  obtain ⟨p, tx, h25⟩ := tx.sl
                  refine ite_y rfl (wp_enter 14 #[.slice p 2 2] ?_ (Mul2_ok h25 HS1.out.2.2.1 HS1.out.2.2.2.1) ?_)
                  · simp only [execOp, resolve, List.map_toArray, List.map, eval_tmp, eval_func, eval_const, tx]; simp [go_sem]
                  · rintro e W' ⟨q, n, c, rfl, hw, hb'⟩; exact ⟨_, rfl, _, rfl, hb', q, n, c, rfl, hw⟩
                · intro a W hb hs hp hi
                  exact ite_y rfl (wp_val (sl a 114) rfl ⟨_, rfl, Below.refl _ _, hp 10 (by decide)⟩)
                · intro a W hb hs hp hi
                  have tx : IsNT 34 (cntR k i p * (256 ^ k - 256 ^ p)) (0) (sl a 103) W := hp 11 (by decide)
                  obtain ⟨q, n, c, tx, wx⟩ := tx
                  refine ite_y rfl (wp_val (.agg #[.slice q n c]) ?_ ?_)
                  · simp only [execOp, eval_tmp, tx]; rfl
                  · exact ⟨_, rfl, Below.refl _ _, q, n, c, rfl, wx⟩
                · intro a W hb hs hp hi
                  have tx : IsNT 34 (cntR k i p * (256 ^ k - 256 ^ p)) (0) (sl a 103) W := hp 11 (by decide)
                  obtain ⟨q, n, c, tx, wx⟩ := tx
                  refine ite_y rfl (wp_val (.int .i64 0) ?_ ?_)
                  · simp only [execOp, eval_tmp, tx]; rfl
                  · exact ⟨_, rfl, Below.refl _ _, rfl⟩
                · intro a W hb hs hp hi
                  refine ite_y rfl (wp_val' (w' := W.alloc (.cells #[.slice none 0 0] 29)) (.pointer (some ⟨W.heap.size, 0, none⟩)) ?_ ?_)
                  · simp only [execOp]; simp [go_sem]
                  · exact ⟨_, rfl, al (Below.refl _ _) (Nat.le_refl _), W.heap.size, #[.slice none 0 0], rfl, hb.size, rfl, hnew rfl⟩
                · intro a W hb hs hp hi
                  have tu : IsN 34 (cntR k i p * (256 ^ k - 256 ^ p)) (sl a 115) W := hp 12 (by decide)
                  obtain ⟨q, n, c, tu, wu⟩ := tu
                  have tb : NBoxS _ _ 1 (sl a 16) W := hp 14 (by decide)
                  obtain ⟨b, cs, tb, hB, hc, hh⟩ := tb
                  obtain ⟨u0, rfl⟩ := size1 hc
                  have d0 : W.cell? ⟨b, 0, none⟩ = some u0 := cell_of_row _ _ 0 _ _ _ hh
                  have z0 : W.frozen? ⟨b, 0, none⟩ = false := frozen_of_row _ _ 0 _ _ hh
                  refine ite_y rfl (wp_skipX (w' := W.setCell ⟨b, 0, none⟩ (.slice q n c)) ?_ ?_)
                  · simp only [execOp, eval_tmp, tu, tb]; simp [go_sem, d0, z0]
                  · have hst := stepN_set (v := .slice q n c) hB hh
                    exact ⟨_, rfl, hst, b, #[.slice q n c], tb, hB, hss hh, q, n, c, rfl, wu.step hst (by decide)⟩
                · intro a W hb hs hp hi
                  exact ite_y rfl (wp_val (sl a 116) rfl ⟨_, rfl, Below.refl _ _, hp 13 (by decide)⟩)
              intro a wy hb hs hd hI ht
              have ha := act_is [104, 105, 106, 107, 108, 109, 110, 111, 112, 113, 114, 103, 115, 116, 16, 15] hs hd ht (by decide)
              have tb : BoxedN _ _ _ _ (sl a) wy := hI 15 (by decide)
              obtain ⟨bz, cs, t3, hBz, hhz, qz, mz, dz, ec, hwz⟩ := tb
              obtain rfl : cs = #[.slice qz mz dz] := by injection ec
              have t4 : sl a 15 = .int .i64 0 := hI 16 (by decide)
              simp only [List.foldl, t3, t4] at ha
              generalize sl a 104 = u104 at ha
              generalize sl a 105 = u105 at ha
              generalize sl a 106 = u106 at ha
              generalize sl a 107 = u107 at ha
              generalize sl a 108 = u108 at ha
              generalize sl a 109 = u109 at ha
              generalize sl a 110 = u110 at ha
              generalize sl a 111 = u111 at ha
              generalize sl a 112 = u112 at ha
              generalize sl a 113 = u113 at ha
              generalize sl a 114 = u114 at ha
              generalize sl a 103 = u103 at ha
              generalize sl a 115 = u115 at ha
              generalize sl a 116 = u116 at ha
              simp only [Act.put, List.setIfInBounds_toArray, List.set_cons_zero, List.set_cons_succ] at ha
              rw [ha]
              clear ha hI ht t3 t4 ec hs hd
              have HWz := Lib.hid hwz
              clear hwz
              have K_y := Lib.hid (K_x.out.keep hb); have B_y := Lib.hid (B_x.out.keep hb); have A_y := Lib.hid (A_x.out.keep hb); have G_y := Lib.hid (G_x.out.keep hb); have C_y := Lib.hid (C_x.out.keep hb)
              have X_y := Lib.hid (X_x.out.keep hb)
              clear hb hBz K_x B_x A_x G_x C_x X_x cA cB L1 L2 K5 HK5 K3 K4
              obtain ⟨q3, n3, c3, k3, x3⟩ := X_y.out
              obtain ⟨_, e1, e2, e3, e4⟩ := One.of k3
              obtain ⟨_, f1, f2, f3, f4⟩ := One.of hhz
              have X3 := Lib.hid x3
              clear k3 x3 hhz X_y
              go_wp2_with fail
              refine Calls.mono (Add2_ok (Nsl.two (hnew (by simp)) X3.out.on1 HWz.out.on1) (by have := HS1.out; omega)) ?_
              rintro e w8 ⟨q8, m8, d8, rfl, hw, hb⟩
              have hbb : Below wy.heap.size wy w8 := bl (ba1 wy _) hb (ba1 wy _).size
              have C8 := C_y.out.keep hbb
              obtain ⟨qx, nx, cx, g1, g2, _⟩ := C8.at (i := r) (by omega)
              obtain ⟨cs, kb⟩ := C8.blk
              have S9 : Hid (BlkIs w.heap.size (.cells #[.slice none 0 0] 29) (w8.setCell ⟨gc, r, none⟩ (.slice q8 m8 d8)) ∧ Bel w (w8.setCell ⟨gc, r, none⟩ (.slice q8 m8 d8)) ∧ NArr 29 34 (w8.setCell ⟨gc, r, none⟩ (.slice q8 m8 d8)) gs (rk + 1) (fun t => if 1 ≤ t then 256 ^ t else 0) ∧ NArr 29 34 (w8.setCell ⟨gc, r, none⟩ (.slice q8 m8 d8)) gg (rk + 1) (fun t => if 1 ≤ t then 256 ^ k - 256 ^ (t - 1) else 0) ∧ NArr 29 34 (w8.setCell ⟨gc, r, none⟩ (.slice q8 m8 d8)) gc (rk + 1) (rowF k i p)) := by
                refine ⟨hsc (K_y.out.keep hbb) (by show w.heap.size ≠ gc; omega), ⟨(B_y.out.keep hbb).out.setCell (by show w.heap.size ≤ gc; omega) _⟩, (A_y.out.keep hbb).other kb (by omega) (by decide), (G_y.out.keep hbb).other kb (by omega) (by decide), C8.set (by decide) hw (by omega) ?_ (fun t ht htr => ?_)⟩
                · unfold rowF; rw [if_neg (by have := HRP.out; omega)]; exact HS1.out.2.2.2.2.1.symm
                · unfold rowF
                  have := HRP.out
                  by_cases h : t ≤ p
                  · rw [if_pos h, if_pos (by omega)]
                  · rw [if_neg h, if_neg (by omega)]
              clear hw hb hbb C8 kb K_y B_y A_y G_y C_y X3 HWz e1 e2 e3 e4 f1 f2 f3 f4
              go_wp2
              go_roundw
              case rel => exact ⟨p, by have := HRP.out; omega, by rw [show (r : Int) - 1 = (p : Int) by have := HRP.out; omega], S9.out.1, S9.out.2.1, S9.out.2.2.1, S9.out.2.2.2.1, S9.out.2.2.2.2⟩
              case measure => simp [intOf]; omega
        · obtain rfl : i = n := by omega
          obtain ⟨qx, nx, cx, g1, g2, wx⟩ := hC.out.at (i := rk) (by omega)
          have R := Lib.hid (ret_num hK.out (Nat.le_refl _) hB.out.out wx (by decide))
          obtain ⟨_, a1, a2, a3, a4⟩ := One.of hK.out
          clear wx hK hB hA hG hC hlt
          go_wp2
          exact bodyPost_ret (res_cell_tmp rfl _ _ _ 29 #[.slice qx nx cx] (0, 0) _ (.int .i64 0) rfl R.out.2.2 rfl Tryd.underlying29 rfl hinfo) rfl ⟨_, _, _, rfl, R.out.1, R.out.2.1⟩
theorem OfRank_any (n k r : Nat) (hn : n ≤ 20) (hk1 : 1 ≤ k) (hk : k ≤ 20) (hr : r ≤ k) (w : World) : Calls Tryd.prog 12 #[.int .i64 n, .int .i64 k, .int .i64 r] w (RetN 34 w (cntR k n r)) := by
  by_cases h : r ≤ n
  · exact OfRank_more n k r hn hk1 hk h hr w
  · rw [cnt_more k n r (by omega)]; exact OfRank_less n k r hn hk1 hk (by omega) (by omega) w
end Go.Proofs.YtbfmdfbnhakolaaDoor
namespace Go.By
open Go.RowKit
theorem hex256 : hexText 256 = [49, 48, 48] := by
  rw [hexText_big (by decide), show 256 / 16 = 16 from rfl, hexText_big (by decide), show 16 / 16 = 1 from rfl, hexText_small (by decide)]; rfl
theorem hex1 : hexText 1 = [49] := by rw [hexText_small (by decide)]; rfl
theorem NBox.oneOf {T U : TypeId} {w : World} {b N : Nat} (h : NBox T U w b N) : ∃ q n c, One w b (.slice q n c) T ∧ Hid (Ws U w q n c N) := by
  obtain ⟨q, n, c, k, hw⟩ := h
  exact ⟨q, n, c, One.of k, hw⟩
theorem NBox.blk {T U : TypeId} {w : World} {b N : Nat} (h : NBox T U w b N) : ∃ u, w.heap[b]? = some (.cells #[u] T (0, 0)) := by
  obtain ⟨q, n, c, k, hw⟩ := h
  exact ⟨_, k⟩
theorem NBox.lt {T U : TypeId} {w : World} {b N : Nat} (h : NBox T U w b N) : b < w.heap.size := by
  obtain ⟨u, k⟩ := h.blk; exact blk_lt k
end Go.By
namespace Go.Proofs.YtbfmdfbnhakolaaDoor
open Go.RowKit Go.By
set_option maxRecDepth 100000 in
set_option maxHeartbeats 1000000 in
theorem awake23 (w : World) (hT : Tab w) : Calls Tryd.prog 7 #[] w fun e w' => e = .returned (.bool true) ∧ Below w.heap.size w w' := by
  have HA : Hid (∀ W, Calls Tryd.prog 15 #[.int .i64 1, .int .i64 1] W (RetN 34 W 256)) := fun W => All_any 1 1 (by decide) (by decide) (by decide) W
  have HF : Hid (∀ W, Calls Tryd.prog 16 #[.int .i64 1, .int .i64 1] W (RetN 34 W 1)) := fun W => Fails_any 1 1 (by decide) (by decide) (by decide) W
  have HG : Hid (∀ W, Calls Tryd.prog 16 #[.int .i64 2, .int .i64 1] W (RetN 34 W 1)) := fun W => Fails_any 2 1 (by decide) (by decide) (by decide) W
  have HT := Lib.hid hT
  clear hT
  go_enter Tryd.func7, Tryd.ntmps7
  go_wp2_with fail
  refine Calls.mono (HA.out _) ?_
  rintro e w1 ⟨q1, m1, d1, rfl, hw, hb⟩
  have S1 : Hid (NS 29 34 w [] w1) := ⟨hb, fun b N hm => by cases hm⟩
  have L1 := Lib.hid hw
  clear hw hb
  go_wp2_with fail
  refine Calls.mono (HF.out _) ?_
  rintro e w2 ⟨q2, m2, d2, rfl, hw, hb⟩
  have S2 := Lib.hid (S1.out.on1 L1.out hb)
  have L2 := Lib.hid hw
  clear hw hb S1 L1
  generalize w1.heap.size = b1 at *
  go_wp2_with fail
  refine Calls.mono (HG.out _) ?_
  rintro e w3 ⟨q3, m3, d3, rfl, hw, hb⟩
  have S3 := Lib.hid (S2.out.on1 L2.out hb)
  have L3 := Lib.hid hw
  clear hw hb S2 L2
  generalize w2.heap.size = b2 at *
  obtain ⟨qx, nx, cx, kx, xx⟩ := S3.out.box b1 256 (by simp)
  obtain ⟨_, e1, e2, e3, e4⟩ := One.of kx
  have Xx := Lib.hid xx
  clear kx xx
  go_wp2_with fail
  refine Calls.mono (Text_nat qx nx cx 256 _ Xx.out.on1 (HT.out.keep (S3.out.new L3.out).bel)) ?_
  rintro e w4 ⟨rfl, hb⟩
  rw [hex256]
  have S4 := Lib.hid (S3.out.on1 L3.out hb)
  clear hb S3 L3 Xx e1 e2 e3 e4
  generalize w3.heap.size = b3 at *
  have hs1 : ((strB [49, 48, 48]).toList == [49, 48, 48]) = true := by rw [strB_toList]; rfl
  have hs2 : ((strB [49]).toList == [49]) = true := by rw [strB_toList]; rfl
  obtain ⟨qx, nx, cx, kx, xx⟩ := S4.out.box b2 1 (by simp)
  obtain ⟨_, e1, e2, e3, e4⟩ := One.of kx
  have Xx := Lib.hid xx
  clear kx xx
  go_wp2_with fail
  refine Calls.mono (Text_nat qx nx cx 1 _ Xx.out (HT.out.keep S4.out.bel)) ?_
  rintro e w5 ⟨rfl, hb⟩
  rw [hex1]
  have S5 := Lib.hid (S4.out.keep hb)
  clear hb S4 Xx e1 e2 e3 e4
  obtain ⟨qx, nx, cx, kx, xx⟩ := S5.out.box b3 1 (by simp)
  obtain ⟨_, e1, e2, e3, e4⟩ := One.of kx
  have Xx := Lib.hid xx
  clear kx xx
  go_wp2_with fail
  refine Calls.mono (Text_nat qx nx cx 1 _ Xx.out (HT.out.keep S5.out.bel)) ?_
  rintro e w6 ⟨rfl, hb⟩
  rw [hex1]
  have S6 := Lib.hid (S5.out.keep hb)
  clear hb S5 Xx e1 e2 e3 e4
  go_wp2
  go_ret
  exact ⟨rfl, S6.out.bel⟩
set_option maxRecDepth 100000 in
set_option maxHeartbeats 4000000 in
theorem OddsSums_any (x y : UInt8) (w : World) (hT : Tab w) : Calls Tryd.prog 4 #[B8 x, B8 y] w fun e w' => e = .returned (.bool true) ∧ Below w.heap.size w w' := by
  obtain ⟨n, hn⟩ : ∃ n : Nat, n = x.toNat % 11 := ⟨_, rfl⟩
  obtain ⟨k0, hk0⟩ : ∃ k : Nat, k = y.toNat % 10 := ⟨_, rfl⟩
  have hn' : ((x.toNat : Int) % 11) = (n : Int) := by omega
  have hk' : ((y.toNat : Int) % 10) = (k0 : Int) := by omega
  have hn10 : n ≤ 10 := by omega
  have hk9 : k0 ≤ 9 := by omega
  have HN := Lib.hid hn'; have HK := Lib.hid hk'; have HT := Lib.hid hT
  clear hn hk0 hn' hk' hT
  go_enter Tryd.func4, Tryd.ntmps4
  go_wp2_with fail
  refine Calls.mono (awake23 _ HT.out) ?_
  rintro e w1 ⟨rfl, hb⟩
  have B1 := Lib.hid hb
  clear hb HT
  have e1 := HN.out; have e2 := HK.out
  go_wp2
  clear e1 e2
  obtain ⟨k, hk⟩ : ∃ k, k = k0 + 1 := ⟨_, rfl⟩
  rw [show (k0 : Int) + 1 = (k : Int) by omega]
  have hk1 : 1 ≤ k := by omega
  have hk10 : k ≤ 10 := by omega
  have ba : Below w1.heap.size w1 ((w1.alloc (.cells #[.slice none 0 0] 29)).alloc (.cells #[.slice none 0 0] 29)) := ba2 _ _ _
  have XS0 : Hid (NBox 29 34 ((w1.alloc (.cells #[.slice none 0 0] 29)).alloc (.cells #[.slice none 0 0] 29)) w1.heap.size 0) := NBox.keep (NBox.new (Ws.zero _ _)) (ba1 _ _)
  have XF0 : Hid (NBox 29 34 ((w1.alloc (.cells #[.slice none 0 0] 29)).alloc (.cells #[.slice none 0 0] 29)) (w1.heap.size + 1) 0) := by
    have := NBox.new (T := 29) (w := w1.alloc (.cells #[.slice none 0 0] 29)) (Ws.zero 34 _)
    simpa [Hid] using this
  have BB0 : Hid (Bel w ((w1.alloc (.cells #[.slice none 0 0] 29)).alloc (.cells #[.slice none 0 0] 29))) := ⟨bl B1.out ba B1.out.size⟩
  have hbs : w.heap.size ≤ w1.heap.size := B1.out.size
  clear ba B1 hk HK HN hk9
  generalize (w1.alloc (.cells #[.slice none 0 0] 29)).alloc (.cells #[.slice none 0 0] 29) = w2 at *
  obtain ⟨bf, hbf⟩ : ∃ bf, bf = w1.heap.size + 1 := ⟨_, rfl⟩
  rw [← hbf] at XF0 ⊢
  generalize w1.heap.size = bs at *
  have hne1 : bs < bf := by omega
  clear hbf
  have HCN : Hid (∀ a b r, a ≤ 10 → b ≤ 10 → r ≤ b + 1 → sumF (cntR b a) r < capN) := fun a b r h1 h2 h3 => by
    refine Nat.lt_of_le_of_lt (sumF_mono (j := b + 1) h3) ?_
    rw [cnt_sum]
    have : a * b ≤ 10 * 10 := Nat.mul_le_mul h1 h2
    exact pow256 (by omega)
  go_loopw [33] (fun iv wr => ∃ r : Nat, r ≤ k + 1 ∧ iv = .int .i64 r ∧ Hid (Bel w wr) ∧ Hid (NBox 29 34 wr bs (sumF (cntR k n) r)) ∧ Hid (NBox 29 34 wr bf (sumF (cntR k n) (min r k)))) (fun iv _ => k + 1 - (intOf iv).toNat)
  case atStart => exact ⟨0, Nat.zero_le _, rfl, BB0.out, XS0.out, by rw [Nat.zero_min]; exact XF0.out⟩
  case round =>
    clear XS0 XF0 BB0
    obtain ⟨r, hr, rfl, hB, hS, hF⟩ := hrel
    by_cases hlt : r ≤ k
    · have hlt' : (r : Int) < (k : Int) + 1 := by omega
      have HL := Lib.hid hlt
      have SC : Hid (sumF (cntR k n) r + cntR k n r = sumF (cntR k n) (r + 1) ∧ sumF (cntR k n) (r + 1) < capN) := ⟨rfl, HCN.out n k (r + 1) hn10 hk10 (by omega)⟩
      clear hlt
      go_wp2_with fail
      refine Calls.mono (OfRank_any n k r (by omega) hk1 (by omega) HL.out _) ?_
      rintro e w4 ⟨q4, m4, d4, rfl, hw, hb⟩
      have B4 := Lib.hid (hB.out.keep hb); have S4 := Lib.hid (hS.out.keep hb); have F4 := Lib.hid (hF.out.keep hb); have L4 := Lib.hid hw
      clear hw hb hB hS hF
      obtain ⟨qs, ns, cs, os, Xs⟩ := S4.out.oneOf
      obtain ⟨_, e1, e2, e3, e4⟩ := os
      go_wp2_with fail
      refine Calls.mono (Add2_ok (Nsl.two (hnew (by simp)) Xs.out.on L4.out.on) (by have := SC.out; omega)) ?_
      rintro e w5 ⟨q5, m5, d5, rfl, hw, hb⟩
      have hbb : Below w4.heap.size w4 w5 := bl (ba2 w4 _ _) hb (ba2 w4 _ _).size
      have C5 : NBox 29 34 w5 w4.heap.size (cntR k n r) := ((NBox.new L4.out).keep (ba1 _ _)).keep hb
      have S5 := S4.out.keep hbb
      have F5 := F4.out.keep hbb
      obtain ⟨us, ks⟩ := S5.blk
      have hc4 : bf < w4.heap.size := F4.out.lt
      have G6 : Hid (Bel w (w5.setCell ⟨bs, 0, none⟩ (.slice q5 m5 d5)) ∧ NBox 29 34 (w5.setCell ⟨bs, 0, none⟩ (.slice q5 m5 d5)) bs (sumF (cntR k n) (r + 1)) ∧ NBox 29 34 (w5.setCell ⟨bs, 0, none⟩ (.slice q5 m5 d5)) bf (sumF (cntR k n) (min r k)) ∧ NBox 29 34 (w5.setCell ⟨bs, 0, none⟩ (.slice q5 m5 d5)) w4.heap.size (cntR k n r)) :=
        ⟨⟨(B4.out.keep hbb).out.setCell (by show w.heap.size ≤ bs; omega) _⟩, by rw [← SC.out.1]; exact S5.set hw (by decide), F5.other ks (by omega) (by decide), C5.other ks (by omega) (by decide)⟩
      obtain ⟨_, s1, s2, s3, s4⟩ := One.of ks
      clear hw hb hbb C5 S5 F5 ks e1 e2 e3 e4 Xs B4 S4 F4 L4
      obtain ⟨bc, hbc⟩ : ∃ bc, bc = w4.heap.size := ⟨_, rfl⟩
      rw [← hbc] at G6 hc4
      rw [← hbc]
      clear hbc
      by_cases hless : r < k
      · have hge : (r : Int) < (k : Int) := by omega
        have SD : Hid (sumF (cntR k n) (min r k) + cntR k n r = sumF (cntR k n) (min (r + 1) k)) := by
          show _ = _
          rw [show min r k = r by omega, show min (r + 1) k = r + 1 by omega]; rfl
        have SD2 : Hid (sumF (cntR k n) (min (r + 1) k) < capN) := HCN.out n k _ hn10 hk10 (by omega)
        obtain ⟨qs, ns, cs, os, Xs⟩ := G6.out.2.2.1.oneOf
        obtain ⟨_, e1, e2, e3, e4⟩ := os
        obtain ⟨qc, nc, cc, oc, Xc⟩ := G6.out.2.2.2.oneOf
        obtain ⟨_, f1, f2, f3, f4⟩ := oc
        go_wp2_with fail
        refine Calls.mono (Add2_ok (Nsl.two (hnew (by simp)) Xs.out.on1 Xc.out.on1) (by have := SD.out; have := SD2.out; omega)) ?_
        rintro e w7 ⟨q7, m7, d7, rfl, hw, hb⟩
        have hbb := bl (ba1 (w5.setCell ⟨bs, 0, none⟩ (.slice q5 m5 d5)) _) hb (ba1 (w5.setCell ⟨bs, 0, none⟩ (.slice q5 m5 d5)) _).size
        have S7 := G6.out.2.1.keep hbb; have F7 := G6.out.2.2.1.keep hbb; have C7 := G6.out.2.2.2.keep hbb
        obtain ⟨us2, kf⟩ := F7.blk
        have G7 : Hid (Bel w (w7.setCell ⟨bf, 0, none⟩ (.slice q7 m7 d7)) ∧ NBox 29 34 (w7.setCell ⟨bf, 0, none⟩ (.slice q7 m7 d7)) bs (sumF (cntR k n) (r + 1)) ∧ NBox 29 34 (w7.setCell ⟨bf, 0, none⟩ (.slice q7 m7 d7)) bf (sumF (cntR k n) (min (r + 1) k)) ∧ NBox 29 34 (w7.setCell ⟨bf, 0, none⟩ (.slice q7 m7 d7)) bc (cntR k n r)) :=
          ⟨⟨(G6.out.1.keep hbb).out.setCell (by show w.heap.size ≤ bf; omega) _⟩, S7.other kf (by omega) (by decide), by rw [← SD.out]; exact F7.set hw (by decide), C7.other kf (by omega) (by decide)⟩
        obtain ⟨_, t1, t2, t3, t4⟩ := One.of kf
        clear hw hb hbb S7 F7 C7 kf G6 Xs Xc e1 e2 e3 e4 f1 f2 f3 f4 s1 s2 s3 s4 SD SD2
        clear hless
        by_cases hn0 : n = 0
        · have hnz : ((n : Int) == 0) = true := by simp; omega
          clear hn0
          go_wp2
          go_roundw
          case rel =>
            have REL : ∃ r' : Nat, r' ≤ k + 1 ∧ (Value.int .i64 ((r : Int) + 1)) = .int .i64 r' ∧ Hid (Bel w (w7.setCell ⟨bf, 0, none⟩ (.slice q7 m7 d7))) ∧ Hid (NBox 29 34 (w7.setCell ⟨bf, 0, none⟩ (.slice q7 m7 d7)) bs (sumF (cntR k n) r')) ∧ Hid (NBox 29 34 (w7.setCell ⟨bf, 0, none⟩ (.slice q7 m7 d7)) bf (sumF (cntR k n) (min r' k))) := ⟨r + 1, by have := HL.out; omega, by go_num, G7.out.1, G7.out.2.1, G7.out.2.2.1⟩
            first
              | exact REL
              | (repeat apply Exists.intro); exact ⟨REL, rfl⟩
          case measure => simp [intOf]; have := HL.out; omega
        · obtain ⟨p, hp⟩ : ∃ p, n = p + 1 := ⟨n - 1, by omega⟩
          have hnz : ((n : Int) == 0) = false := by simp; omega
          have hnz2 : ¬ (n : Int) = 0 := by omega
          have hp10 : p ≤ 9 := by omega
          have HP := Lib.hid hp
          clear hp hn0
          go_wp2_with fail
          rw [show (n : Int) - 1 = (p : Int) by have := HP.out; omega]
          refine Calls.mono (OfRank_any p k r (by omega) hk1 (by omega) HL.out _) ?_
          rintro e w8 ⟨q8, m8, d8, rfl, hw, hb⟩
          have G8 : Hid (Bel w w8 ∧ NBox 29 34 w8 bs (sumF (cntR k n) (r + 1)) ∧ NBox 29 34 w8 bf (sumF (cntR k n) (min (r + 1) k)) ∧ NBox 29 34 w8 bc (cntR k n r)) := ⟨G7.out.1.keep hb, G7.out.2.1.keep hb, G7.out.2.2.1.keep hb, G7.out.2.2.2.keep hb⟩
          have L8 := Lib.hid hw
          clear hw hb G7 hnz hnz2
          go_wp2_with fail
          refine Calls.mono (Spare_any r (by have := HL.out; omega) _) ?_
          rintro e w9 ⟨q9, m9, d9, rfl, hw, hb⟩
          have hbb : Below w8.heap.size w8 w9 := bl (ba1 w8 _) hb (ba1 w8 _).size
          have G9 : Hid (Bel w w9 ∧ NBox 29 34 w9 bs (sumF (cntR k n) (r + 1)) ∧ NBox 29 34 w9 bf (sumF (cntR k n) (min (r + 1) k)) ∧ NBox 29 34 w9 bc (cntR k n r)) := ⟨G8.out.1.keep hbb, G8.out.2.1.keep hbb, G8.out.2.2.1.keep hbb, G8.out.2.2.2.keep hbb⟩
          have W9 : Hid (NBox 29 34 w9 w8.heap.size (cntR k p r)) := (NBox.new L8.out).keep hb
          have L9 := Lib.hid hw
          clear hw hb hbb G8 L8
          generalize w8.heap.size = bw at *
          have HM : Hid (cntR k p r < capN ∧ cntR k p r * 256 ^ r < capN ∧ cntR k p r * 256 ^ r ≤ cntR k n r) := by
            have h1 := cnt_stay k p r
            have hl := HL.out
            rw [← HP.out] at h1
            exact ⟨cnt_cap (by omega) (by omega) hl, Nat.lt_of_le_of_lt h1 (cnt_cap (by omega) (by omega) hl), h1⟩
          obtain ⟨qs, ns, cs, os, Xs⟩ := W9.out.oneOf
          obtain ⟨_, e1, e2, e3, e4⟩ := os
          go_wp2_with fail
          refine Calls.mono (Mul2_ok (Nsl.two (hnew (by simp)) Xs.out.on L9.out.on) HM.out.1 HM.out.2.1) ?_
          rintro e wa ⟨qa, ma, da, rfl, hw, hb⟩
          have hbb : Below w9.heap.size w9 wa := bl (ba2 w9 _ _) hb (ba2 w9 _ _).size
          have Ga : Hid (Bel w wa ∧ NBox 29 34 wa bs (sumF (cntR k n) (r + 1)) ∧ NBox 29 34 wa bf (sumF (cntR k n) (min (r + 1) k)) ∧ NBox 29 34 wa bc (cntR k n r)) := ⟨G9.out.1.keep hbb, G9.out.2.1.keep hbb, G9.out.2.2.1.keep hbb, G9.out.2.2.2.keep hbb⟩
          have La := Lib.hid hw
          clear hw hb hbb G9 W9 L9 Xs e1 e2 e3 e4
          obtain ⟨qc, nc, cc, oc, Xc⟩ := Ga.out.2.2.2.oneOf
          obtain ⟨_, f1, f2, f3, f4⟩ := oc
          go_wp2_with fail
          refine Calls.mono (Cmp_any _ _ _ _ _ _ (cntR k p r * 256 ^ r) (cntR k n r) _ La.out.on1 Xc.out.on1) ?_
          rintro e wb ⟨rfl, hb⟩
          have hbb : Below wa.heap.size wa wb := bl (ba1 wa _) hb (ba1 wa _).size
          have Gb : Hid (Bel w wb ∧ NBox 29 34 wb bs (sumF (cntR k n) (r + 1)) ∧ NBox 29 34 wb bf (sumF (cntR k n) (min (r + 1) k))) := ⟨Ga.out.1.keep hbb, Ga.out.2.1.keep hbb, Ga.out.2.2.1.keep hbb⟩
          have hcm : cmpN (cntR k p r * 256 ^ r) (cntR k n r) ≤ 0 := by
            rcases Nat.lt_or_ge (cntR k p r * 256 ^ r) (cntR k n r) with h | h
            · rw [cmpN_lt h]; decide
            · rw [cmpN_eq (Nat.le_antisymm HM.out.2.2 h)]; decide
          generalize cmpN (cntR k p r * 256 ^ r) (cntR k n r) = cm at *
          clear hb hbb Ga La Xc f1 f2 f3 f4 HM
          go_wp2
          go_roundw
          case rel => exact ⟨r + 1, by have := HL.out; omega, by go_num, Gb.out.1, Gb.out.2.1, Gb.out.2.2⟩
          case measure => simp [intOf]; have := HL.out; omega
      · have hrk : r = k := by have := HL.out; omega
        have hge : ¬ (r : Int) < (k : Int) := by omega
        have hge2 : (k : Int) ≤ (r : Int) := by omega
        have HRK := Lib.hid hrk
        clear hrk
        have G7 : Hid (Bel w (w5.setCell ⟨bs, 0, none⟩ (.slice q5 m5 d5)) ∧ NBox 29 34 (w5.setCell ⟨bs, 0, none⟩ (.slice q5 m5 d5)) bs (sumF (cntR k n) (r + 1)) ∧ NBox 29 34 (w5.setCell ⟨bs, 0, none⟩ (.slice q5 m5 d5)) bf (sumF (cntR k n) (min (r + 1) k)) ∧ NBox 29 34 (w5.setCell ⟨bs, 0, none⟩ (.slice q5 m5 d5)) bc (cntR k n r)) := by
          have := G6.out
          rwa [show min r k = min (r + 1) k by have := HRK.out; omega] at this
        clear G6
        clear hless
        by_cases hn0 : n = 0
        · have hnz : ((n : Int) == 0) = true := by simp; omega
          clear hn0
          go_wp2
          go_roundw
          case rel =>
            have REL : ∃ r' : Nat, r' ≤ k + 1 ∧ (Value.int .i64 ((r : Int) + 1)) = .int .i64 r' ∧ Hid (Bel w (w5.setCell ⟨bs, 0, none⟩ (.slice q5 m5 d5))) ∧ Hid (NBox 29 34 (w5.setCell ⟨bs, 0, none⟩ (.slice q5 m5 d5)) bs (sumF (cntR k n) r')) ∧ Hid (NBox 29 34 (w5.setCell ⟨bs, 0, none⟩ (.slice q5 m5 d5)) bf (sumF (cntR k n) (min r' k))) := ⟨r + 1, by have := HL.out; omega, by go_num, G7.out.1, G7.out.2.1, G7.out.2.2.1⟩
            first
              | exact REL
              | (repeat apply Exists.intro); exact ⟨REL, rfl⟩
          case measure => simp [intOf]; have := HL.out; omega
        · obtain ⟨p, hp⟩ : ∃ p, n = p + 1 := ⟨n - 1, by omega⟩
          have hnz : ((n : Int) == 0) = false := by simp; omega
          have hnz2 : ¬ (n : Int) = 0 := by omega
          have hp10 : p ≤ 9 := by omega
          have HP := Lib.hid hp
          clear hp hn0
          go_wp2_with fail
          rw [show (n : Int) - 1 = (p : Int) by have := HP.out; omega]
          refine Calls.mono (OfRank_any p k r (by omega) hk1 (by omega) HL.out _) ?_
          rintro e w8 ⟨q8, m8, d8, rfl, hw, hb⟩
          have G8 : Hid (Bel w w8 ∧ NBox 29 34 w8 bs (sumF (cntR k n) (r + 1)) ∧ NBox 29 34 w8 bf (sumF (cntR k n) (min (r + 1) k)) ∧ NBox 29 34 w8 bc (cntR k n r)) := ⟨G7.out.1.keep hb, G7.out.2.1.keep hb, G7.out.2.2.1.keep hb, G7.out.2.2.2.keep hb⟩
          have L8 := Lib.hid hw
          clear hw hb G7 hnz hnz2
          go_wp2_with fail
          refine Calls.mono (Spare_any r (by have := HL.out; omega) _) ?_
          rintro e w9 ⟨q9, m9, d9, rfl, hw, hb⟩
          have hbb : Below w8.heap.size w8 w9 := bl (ba1 w8 _) hb (ba1 w8 _).size
          have G9 : Hid (Bel w w9 ∧ NBox 29 34 w9 bs (sumF (cntR k n) (r + 1)) ∧ NBox 29 34 w9 bf (sumF (cntR k n) (min (r + 1) k)) ∧ NBox 29 34 w9 bc (cntR k n r)) := ⟨G8.out.1.keep hbb, G8.out.2.1.keep hbb, G8.out.2.2.1.keep hbb, G8.out.2.2.2.keep hbb⟩
          have W9 : Hid (NBox 29 34 w9 w8.heap.size (cntR k p r)) := (NBox.new L8.out).keep hb
          have L9 := Lib.hid hw
          clear hw hb hbb G8 L8
          generalize w8.heap.size = bw at *
          have HM : Hid (cntR k p r < capN ∧ cntR k p r * 256 ^ r < capN ∧ cntR k p r * 256 ^ r ≤ cntR k n r) := by
            have h1 := cnt_stay k p r
            have hl := HL.out
            rw [← HP.out] at h1
            exact ⟨cnt_cap (by omega) (by omega) hl, Nat.lt_of_le_of_lt h1 (cnt_cap (by omega) (by omega) hl), h1⟩
          obtain ⟨qs, ns, cs, os, Xs⟩ := W9.out.oneOf
          obtain ⟨_, e1, e2, e3, e4⟩ := os
          go_wp2_with fail
          refine Calls.mono (Mul2_ok (Nsl.two (hnew (by simp)) Xs.out.on L9.out.on) HM.out.1 HM.out.2.1) ?_
          rintro e wa ⟨qa, ma, da, rfl, hw, hb⟩
          have hbb : Below w9.heap.size w9 wa := bl (ba2 w9 _ _) hb (ba2 w9 _ _).size
          have Ga : Hid (Bel w wa ∧ NBox 29 34 wa bs (sumF (cntR k n) (r + 1)) ∧ NBox 29 34 wa bf (sumF (cntR k n) (min (r + 1) k)) ∧ NBox 29 34 wa bc (cntR k n r)) := ⟨G9.out.1.keep hbb, G9.out.2.1.keep hbb, G9.out.2.2.1.keep hbb, G9.out.2.2.2.keep hbb⟩
          have La := Lib.hid hw
          clear hw hb hbb G9 W9 L9 Xs e1 e2 e3 e4
          obtain ⟨qc, nc, cc, oc, Xc⟩ := Ga.out.2.2.2.oneOf
          obtain ⟨_, f1, f2, f3, f4⟩ := oc
          go_wp2_with fail
          refine Calls.mono (Cmp_any _ _ _ _ _ _ (cntR k p r * 256 ^ r) (cntR k n r) _ La.out.on1 Xc.out.on1) ?_
          rintro e wb ⟨rfl, hb⟩
          have hbb : Below wa.heap.size wa wb := bl (ba1 wa _) hb (ba1 wa _).size
          have Gb : Hid (Bel w wb ∧ NBox 29 34 wb bs (sumF (cntR k n) (r + 1)) ∧ NBox 29 34 wb bf (sumF (cntR k n) (min (r + 1) k))) := ⟨Ga.out.1.keep hbb, Ga.out.2.1.keep hbb, Ga.out.2.2.1.keep hbb⟩
          have hcm : cmpN (cntR k p r * 256 ^ r) (cntR k n r) ≤ 0 := by
            rcases Nat.lt_or_ge (cntR k p r * 256 ^ r) (cntR k n r) with h | h
            · rw [cmpN_lt h]; decide
            · rw [cmpN_eq (Nat.le_antisymm HM.out.2.2 h)]; decide
          generalize cmpN (cntR k p r * 256 ^ r) (cntR k n r) = cm at *
          clear hb hbb Ga La Xc f1 f2 f3 f4 HM
          go_wp2
          go_roundw
          case rel => exact ⟨r + 1, by have := HL.out; omega, by go_num, Gb.out.1, Gb.out.2.1, Gb.out.2.2⟩
          case measure => simp [intOf]; have := HL.out; omega
    · obtain rfl : r = k + 1 := by omega
      have HS1 : Hid (sumF (cntR k n) (k + 1) = 256 ^ (n * k)) := cnt_sum k n
      have HS2 : Hid (sumF (cntR k n) (min (k + 1) k) = 256 ^ (n * k) - fullC n k) := by
        show _ = _
        rw [Nat.min_eq_right (by omega), cnt_fails]; rfl
      go_wp2_with fail
      refine Calls.mono (All_any n k (by omega) hk1 (by omega) _) ?_
      rintro e w4 ⟨q4, m4, d4, rfl, hw, hb⟩
      have B4 := Lib.hid (hB.out.keep hb); have S4 := Lib.hid (hS.out.keep hb); have F4 := Lib.hid (hF.out.keep hb); have L4 := Lib.hid hw
      clear hw hb hB hS hF hlt
      go_wp2_with fail
      refine Calls.mono (Fails_any n k (by omega) hk1 (by omega) _) ?_
      rintro e w5 ⟨q5, m5, d5, rfl, hw, hb⟩
      have hbb : Below w4.heap.size w4 w5 := bl (ba1 w4 _) hb (ba1 w4 _).size
      have A5 : Hid (NBox 29 34 w5 w4.heap.size (256 ^ (n * k))) := (NBox.new L4.out).keep hb
      have B5 := Lib.hid (B4.out.keep hbb); have S5 := Lib.hid (S4.out.keep hbb); have F5 := Lib.hid (F4.out.keep hbb); have L5 := Lib.hid hw
      clear hw hb hbb B4 S4 F4 L4
      generalize w4.heap.size = ba at *
      obtain ⟨qs, ns, cs, os, Xs⟩ := S5.out.oneOf
      obtain ⟨_, e1, e2, e3, e4⟩ := os
      obtain ⟨qa, na, ca, oa, Xa⟩ := A5.out.oneOf
      obtain ⟨_, f1, f2, f3, f4⟩ := oa
      go_wp2_with fail
      refine Calls.mono (Cmp_same Xs.out.on1 Xa.out.on1 HS1.out) ?_
      rintro e w6 ⟨rfl, hb⟩
      have hbb : Below w5.heap.size w5 w6 := bl (ba1 w5 _) hb (ba1 w5 _).size
      have G6 : Hid (NBox 29 34 w6 w5.heap.size (256 ^ (n * k) - fullC n k)) := (NBox.new L5.out).keep hb
      have B6 := Lib.hid (B5.out.keep hbb); have F6 := Lib.hid (F5.out.keep hbb)
      clear hb hbb B5 S5 F5 L5 A5 e1 e2 e3 e4 f1 f2 f3 f4 Xs Xa
      generalize w5.heap.size = bg at *
      obtain ⟨qs, ns, cs, os, Xs⟩ := F6.out.oneOf
      obtain ⟨_, e1, e2, e3, e4⟩ := os
      obtain ⟨qa, na, ca, oa, Xa⟩ := G6.out.oneOf
      obtain ⟨_, f1, f2, f3, f4⟩ := oa
      go_wp2_with fail
      refine Calls.mono (Cmp_same Xs.out Xa.out HS2.out) ?_
      rintro e w7 ⟨rfl, hb⟩
      have B7 := Lib.hid (B6.out.keep hb)
      clear hb B6 F6 G6 e1 e2 e3 e4 f1 f2 f3 f4 Xs Xa
      go_wp2
      go_ret
      exact ⟨rfl, B7.out.out⟩
end Go.Proofs.YtbfmdfbnhakolaaDoor
