/- What the laws of grids carry along from call to call. The contract of the reference's without. The contract of the reference's Det. Plain laws of GridRanks: ranks of turned grids and products, determinants, inverses of inverses. -/
import Derived.Test.YtofhdakggapahaaZk6
namespace Go.Proofs.Ytofhdakggapahaa
open Go.RowKit Go.By
structure GSt (w : World) (b9 b12 m1 wd m2 vd : Nat) (qg ql qo qk : Option Addr) (ng cg cl no co ck : Nat) (L K : List (List UInt8)) (W : World) : Prop where
  bel : Below w.heap.size w W
  sg : Sl B8 W qg ng cg L.flatten
  rl : Sl2 W ql m1 cl L
  so : Sl B8 W qo no co K.flatten
  rk : Sl2 W qk m2 ck K
  xg : W.heap[b9]? = some (.cells #[.int .i64 m1, .int .i64 wd, .slice qg ng cg] 27 (0, 0))
  xo : W.heap[b12]? = some (.cells #[.int .i64 m2, .int .i64 vd, .slice qo no co] 27 (0, 0))
theorem GSt.keep {w W W' : World} {b9 b12 m1 wd m2 vd : Nat} {qg ql qo qk : Option Addr} {ng cg cl no co ck : Nat} {L K : List (List UInt8)} (h : GSt w b9 b12 m1 wd m2 vd qg ql qo qk ng cg cl no co ck L K W) (hb : Below W.heap.size W W') : GSt w b9 b12 m1 wd m2 vd qg ql qo qk ng cg cl no co ck L K W' :=
  ⟨bl h.bel hb h.bel.size, h.sg.keep hb, h.rl.keep hb, h.so.keep hb, h.rk.keep hb, (hb.block _ (blk_lt h.xg)).trans h.xg, (hb.block _ (blk_lt h.xo)).trans h.xo⟩
theorem fit_len {wd : Nat} {xss : List (List UInt8)} : ∀ x, x ∈ xss.map (fitR wd) → x.length = wd := fun x hx => by
  obtain ⟨r, _, rfl⟩ := List.mem_map.1 hx
  exact fitR_len wd r
/-- the contracts of a grid that holds these rows -/
theorem GRank_rows {m wd : Nat} {L : List (List UInt8)} (hL : ∀ x, x ∈ L → x.length = wd) (hm : L.length = m) (h1 : m ≤ 4096) (h2 : wd ≤ 4096) (q : Option Addr) (n c : Nat) (W : World) (hn : n = m * wd) (h : Sl B8 W q n c L.flatten) :
    Calls Try.prog 20 #[.agg #[.int .i64 m, .int .i64 wd, .slice q n c]] W fun e w' => e = .returned (.int .i64 (iK L).length) ∧ Below W.heap.size W w' := by
  have := Rank_any m wd q n c L.flatten W h hn (by unfold Room; omega) (by omega)
  rwa [kF_rank hL hm] at this
theorem GRows_rows {m wd : Nat} {L : List (List UInt8)} (hL : ∀ x, x ∈ L → x.length = wd) (hm : L.length = m) (h1 : m ≤ 4096) (h2 : wd ≤ 4096) (q : Option Addr) (n c : Nat) (W : World) (hn : n = m * wd) (h : Sl B8 W q n c L.flatten) :
    Calls Try.prog 17 #[.agg #[.int .i64 m, .int .i64 wd, .slice q n c]] W fun e w' => ∃ q c', e = .returned (.slice q m c') ∧ Own2 25 5 w' W.heap.size (.slice q m c') m L ∧ Below W.heap.size W w' := by
  have := GRows_any m wd q n c L.flatten W h hn (by unfold Room; omega) (by unfold Room; omega)
  rwa [rows_at hL hm] at this
theorem turnX_len {wd m : Nat} {L : List (List UInt8)} (hm : L.length = m) : ∀ x, x ∈ turnX wd L → x.length = m := fun x hx => by
  obtain ⟨b, _, rfl⟩ := List.mem_map.1 hx
  rw [List.length_map, hm]
theorem turnX_length (wd : Nat) (L : List (List UInt8)) : (turnX wd L).length = wd := by simp [turnX]
theorem GTurned_rows {m wd : Nat} {L : List (List UInt8)} (hL : ∀ x, x ∈ L → x.length = wd) (hm : L.length = m) (h1 : m ≤ 4096) (h2 : wd ≤ 4096) (q : Option Addr) (n c : Nat) (W : World) (hn : n = m * wd) (h : Sl B8 W q n c L.flatten) :
    Calls Try.prog 21 #[.agg #[.int .i64 m, .int .i64 wd, .slice q n c]] W (RetG 5 W wd m (turnX wd L).flatten) := by
  have hwm : wd * m ≤ 4096 * 4096 := Nat.mul_le_mul h2 h1
  refine (Turned_any m wd q n c L.flatten W h hn (by unfold Room; omega) (by omega) (by omega)).mono ?_
  rintro e w' ⟨C, hT, hR⟩
  have hr := hT.rows
  rw [turn_eq hL hm] at hr
  have hC : C = (turnX wd L).flatten := by rw [← hr]; exact (flat_rows wd hT.len).symm
  rw [← hC]; exact hR
theorem GMul_rows {m k v : Nat} {L K : List (List UInt8)} (hL : ∀ x, x ∈ L → x.length = k) (hm : L.length = m) (hK : ∀ x, x ∈ K → x.length = v) (hk : K.length = k) (b1 : m ≤ 256) (b2 : k ≤ 256) (b3 : v ≤ 256) (p1 p2 : Option Addr) (n1 c1 n2 c2 : Nat) (W : World) (e1 : n1 = m * k) (e2 : n2 = k * v) (s1 : Sl B8 W p1 n1 c1 L.flatten) (s2 : Sl B8 W p2 n2 c2 K.flatten) :
    Calls Try.prog 22 #[.agg #[.int .i64 m, .int .i64 k, .slice p1 n1 c1], .agg #[.int .i64 k, .int .i64 v, .slice p2 n2 c2]] W (RetG2 5 W m v (L.map (mulR v K)).flatten 0) := by
  have : m * v ≤ 256 * 256 := Nat.mul_le_mul b1 b3
  exact GMul_any m k v p1 p2 n1 c1 n2 c2 L.flatten K.flatten L K W s1 s2 e1 e2 (rows_at hL hm) (rows_at hK hk) (by omega) (by omega) (by omega) (by omega)
/-- what Inverse gives, as rows -/
def RetJ (w : World) (n : Nat) (L : List (List UInt8)) (e : Ending) (w' : World) : Prop :=
  (∃ F : Nat → Rw, GJ n (sqR n L.flatten) F n ∧ (iK L).length = n ∧ RetG2 5 w n n (rowsD n F).flatten 0 e w') ∨ ((iK L).length < n ∧ RetG2 5 w 0 0 [] 19 e w')
theorem GInv_rows {n : Nat} {L : List (List UInt8)} (hL : ∀ x, x ∈ L → x.length = n) (hm : L.length = n) (hb : n ≤ 256) (q : Option Addr) (N c : Nat) (W : World) (hn : N = n * n) (h : Sl B8 W q N c L.flatten) :
    Calls Try.prog 24 #[.agg #[.int .i64 n, .int .i64 n, .slice q N c]] W (RetJ W n L) := by
  refine (Inverse_any n q N c L.flatten W h hn hb).mono ?_
  rintro e w' ⟨F, ⟨g, hR⟩ | ⟨cc, hc, g, hz, hR⟩⟩
  · exact .inl ⟨F, g, inv_rank_full hL hm g, hR⟩
  · exact .inr ⟨inv_rank_less hL hm hc g hz, hR⟩
end Go.Proofs.Ytofhdakggapahaa
namespace Go.Proofs.Ytofhdakggapahaa
open Go.RowKit Go.By
/-- a row without a place -/
def cutF (i : Nat) (r : List UInt8) : List UInt8 := r.take i ++ r.drop (i + 1)
theorem cutF_len {i n : Nat} {r : List UInt8} (h : r.length = n) (hi : i < n) : (cutF i r).length = n - 1 := by
  unfold cutF; rw [List.length_append, List.length_take, List.length_drop]; omega
theorem Sl_pre {α : Type} {enc : α → Value} {w : World} {b o n c k : Nat} {xs : List α} (h : Sl enc w (some ⟨b, o, none⟩) n c xs) (hk : k ≤ n) : Sl enc w (some ⟨b, o, none⟩) k c (xs.take k) :=
  ⟨by rw [List.length_take, h.len]; omega, by have := h.le; omega, h.max, (fun e => by cases e), fun j hj => by
    rw [List.length_take] at hj
    obtain ⟨b', o', e, hc⟩ := h.rs j (by omega)
    exact ⟨b', o', e, by rw [hc]; simp⟩⟩
set_option maxRecDepth 100000 in
set_option maxHeartbeats 4000000 in
theorem Without_any (n i0' : Nat) (p : Option Addr) (m c : Nat) (xss : List (List UInt8)) (w : World) (h : Sl2 w p (m + 1) c xss) (hall : ∀ x, x ∈ xss → x.length = n) (hi : i0' < n) (hn : n ≤ 4096) (hm : m ≤ 4096) :
    Calls Try.prog 66 #[.slice p (m + 1 : Nat) c, .int .i64 i0'] w fun e w' => ∃ q c', e = .returned (.slice q m c') ∧ Own2 25 5 w' w.heap.size (.slice q m c') m (xss.tail.map (cutF i0')) ∧ Below w.heap.size w w' := by
  obtain ⟨r0, hr0, hrz, hr1, hr2⟩ := info_parts info_rows
  obtain ⟨i0, hi0, hz0, hz1, hz2⟩ := info_parts info_u8
  obtain ⟨b, o, q0, m0, c0, row0, rfl, -, -, -⟩ := h.at 0 (by omega)
  have H := Lib.hid h; have HALL := Lib.hid hall; have HLEN := Lib.hid h.len
  have hmc := h.le
  have hcm := h.max
  have hw1 : IntKind.i64.wrap ((i0' : Int) + 1) = ((i0' + 1 : Nat) : Int) := by rw [show ((i0' : Int) + 1) = ((i0' + 1 : Nat) : Int) by omega]; exact Go.IntWalk.i64_in _ (by omega)
  have h1c : 1 ≤ c := by omega
  have hTL : Hid (∀ k, k < m → xss.tail[k]? = xss[k + 1]?) := fun k _ => by rw [List.getElem?_tail]
  clear h hall
  by_cases hc1 : c = 1
  · have hm0 : m = 0 := by omega
    subst hm0
    subst hc1
    go_enter Try.func66, Try.ntmps66
    go_wp2
    go_loopw [5, 12] (fun o i wr => o = .slice none 0 0 ∧ i = .int .i64 0 ∧ wr = w) (fun _ _ _ => 0)
    case atStart => exact ⟨rfl, rfl, rfl⟩
    case round =>
      obtain ⟨rfl, rfl, rfl⟩ := hrel
      go_wp2
      go_ret
      refine ⟨none, 0, rfl, ?_, Below.refl _ _⟩
      have e : xss.tail = [] := List.length_eq_zero_iff.1 (by rw [List.length_tail, HLEN.out])
      rw [e]; exact Own2.nil _ _ _ _
  · go_enter Try.func66, Try.ntmps66
    go_wp2
    go_loopw [5, 12] (fun o i wr => ∃ (k : Nat) (qo : Option Addr) (co : Nat), k ≤ m ∧ i = .int .i64 k ∧ o = .slice qo k co ∧ Hid (Own2 25 5 wr w.heap.size (.slice qo k co) k ((xss.tail.take k).map (cutF i0'))) ∧ Hid (Below w.heap.size w wr)) (fun _ i _ => m - (intOf i).toNat)
    case atStart => exact ⟨0, none, 0, Nat.zero_le _, rfl, rfl, Own2.nil _ _ _ _, Below.refl _ _⟩
    case round =>
      obtain ⟨k, qo, co, hk, rfl, rfl, hO, hB⟩ := hrel
      by_cases hlt : k < m
      · have kn : (k : Int) < (m : Int) := by omega
        obtain ⟨b', o', q, mx, cx, row, e0, hc, hs, hx⟩ := H.out.at (k + 1) (by omega)
        cases e0
        have hcw := (hB.out.cell (p := ⟨b, o + (k + 1), none⟩) (lt_of_cell hc)).trans hc
        rw [show o + (k + 1) = o + 1 + k by omega] at hcw
        have hmx : mx = n := by rw [← hs.len]; exact HALL.out row (List.mem_of_getElem? hx.out)
        subst hmx
        obtain ⟨bq, oq, x0, rfl, -, -⟩ := hs.at i0' hi
        have hcx := hs.le
        have hcm2 := hs.max
        have hstep : Hid ((xss.tail.take (k + 1)).map (cutF i0') = (xss.tail.take k).map (cutF i0') ++ [cutF i0' row]) := by
          show _ = _
          exact take_map_succ' _ (by rw [hTL.out k hlt]; exact hx.out)
        have HS := Lib.hid (hs.keep hB.out)
        by_cases hx1 : cx = i0' + 1
        · have hmx1 : mx = i0' + 1 := by omega
          subst hmx1
          subst hx1
          have HD : Hid (Sl B8 wr (some ⟨bq, oq, none⟩) 0 0 (row.drop (i0' + 1))) := by
            have e : row.drop (i0' + 1) = [] := List.drop_eq_nil_of_le (by rw [HS.out.len]; exact Nat.le_refl _)
            rw [e]
            exact ⟨rfl, Nat.le_refl _, by unfold maxLen; omega, (fun e => by cases e), Rs.nil⟩
          have HP := Lib.hid (Sl_pre (k := i0') HS.out (by omega))
          clear hc hs hx
          go_wp2_with (at_builtin; refine wpList_append_rs _ rfl _ _ 25 rfl wr.heap.size 5 i0 (.int .u8 0) 1 Try.underlying25 hi0 hz0 hz1 hz2 rfl _ 0 [] rfl (World.ownsRow_nil _ _ _ _) B8 _ _ _ (row.take i0') (fun _ _ => rfl) rfl HP.out ?c1 ?c2 ?c3 ?_)
          case c1 => unfold maxLen at hcm2 ⊢; omega
          case c2 => omega
          case c3 => exact Nat.le_refl _
          intro v5 w5 ho5 hg5
          obtain ⟨q5, c5, rfl⟩ := owns_shape ho5
          have B5 : Hid (Below wr.heap.size wr w5) := (Below.refl _ _).grown hg5 (Nat.le_refl _) (fun kk hk => by cases hk)
          have O5 : Hid (w5.ownsRow wr.heap.size 5 1 (.slice q5 i0' c5) i0' ((row.take i0').map B8)) := by show World.ownsRow _ _ _ _ _ _ _; simpa using ho5
          have HD5 := Lib.hid (HD.out.keep B5.out)
          have hwr : w.heap.size ≤ wr.heap.size := hB.out.size
          clear ho5 hg5 HD HP HS hcw
          go_wp2_with (at_builtin; refine wpList_append_rs _ rfl _ _ 25 rfl wr.heap.size 5 i0 (.int .u8 0) 1 Try.underlying25 hi0 hz0 hz1 hz2 rfl _ i0' _ rfl O5.out B8 _ _ _ (row.drop (i0' + 1)) (fun _ _ => rfl) rfl HD5.out ?c1 ?c2 ?c3 ?_)
          case c1 => unfold maxLen at hcm2 ⊢; omega
          case c2 => omega
          case c3 => exact B5.out.size
          intro v6 w6 ho6 hg6
          obtain ⟨q6, c6, rfl⟩ := owns_shape ho6
          have B6 : Hid (Below wr.heap.size w5 w6) := (Below.refl _ _).grown hg6 B5.out.size (fun kk hk => (O5.out.lt kk hk).1)
          have hsz6 : Hid (w5.heap.size ≤ w6.heap.size) := B6.out.size
          have O6 : Hid (w6.ownsRow w.heap.size 5 1 (.slice q6 (i0' + 0) c6) (i0' + 0) ((cutF i0' row).map B8)) := by
            show World.ownsRow _ _ _ _ _ _ _
            unfold cutF
            rw [List.map_append]
            exact owns_mono (by simpa using ho6) hwr
          have B36 : Below wr.heap.size wr w6 := B5.out.trans B6.out
          have OQ : Hid (Own2 25 5 w6 w.heap.size (.slice qo k co) k ((xss.tail.take k).map (cutF i0'))) := hO.out.keep B36
          have BQ : Hid (Below w.heap.size w w6) := bl hB.out B36 hB.out.size
          have bal : ∀ (W : World) (o : Obj), Below W.heap.size W (W.alloc o) := fun W o => al (Below.refl _ _) (Nat.le_refl _)
          obtain ⟨vs, oA, lA, rA⟩ := OQ.out
          have OA := Lib.hid oA; have LA := Lib.hid lA; have RA := Lib.hid rA
          have hO2 : Hid (∀ o, (w6.alloc o).ownsRow w.heap.size 25 1 (.slice qo k co) k vs) := fun o => owns_keep OA.out (bal _ _)
          have HBAL := Lib.hid bal
          have hsz := BQ.out.size
          clear ho6 hg6 B5 B6 O5 HD5 hsz6 B36 hO hB oA lA rA bal OQ
          go_wp2_with (at_builtin; refine wpList_append_own _ rfl _ _ 22 rfl w.heap.size 25 r0 (.slice none 0 0) 1 24 Try.underlying22 hr0 hrz hr1 hr2 rfl (by omega) _ k _ rfl (hO2.out _) ⟨w6.heap.size, 0, none⟩ 1 1 [.slice q6 (i0' + 0) c6] rfl rfl (one_cell' rfl) ?d2 ?d3 ?d4 ?d5 ?_)
          case d2 => intro y hy; simp at hy; subst hy; rfl
          case d3 => unfold maxLen; omega
          case d4 => omega
          case d5 => simp; omega
          intro v8 w8 ho8 hg8 _
          obtain ⟨q8, c8, rfl⟩ := owns_shape ho8
          have P8 : Hid (Own2 25 5 w8 w.heap.size (.slice q8 (k + 1) c8) (k + 1) ((xss.tail.take (k + 1)).map (cutF i0')) ∧ Below w.heap.size w w8) := by
            refine ⟨?_, (al BQ.out hsz).grown hg8 (by simp; omega) (fun kk hk => (OA.out.lt kk hk).1)⟩
            rw [hstep.out]
            exact Own2.push (by decide) LA.out (fun jj val hjj => by
              obtain ⟨xs, q, c', a, b, d⟩ := RA.out jj val hjj
              exact ⟨xs, q, c', a, b, owns_keep d (HBAL.out _ _)⟩) (hO2.out _) (owns_keep O6.out (HBAL.out _ _)) ho8 hg8
          clear ho8 hg8 hO2 OA LA RA O6 BQ hsz
          go_wp2
          go_roundw
          case rel => exact ⟨k + 1, q8, c8, by omega, by go_num, rfl, P8.out.1, P8.out.2⟩
          case measure => simp [intOf]; omega
        · have HD : Hid (Sl B8 wr (some ⟨bq, oq + (i0' + 1), none⟩) (mx - (i0' + 1)) (cx - (i0' + 1)) (row.drop (i0' + 1))) := by
            have := HS.out.mid (k := i0' + 1) (m := mx - (i0' + 1)) (by omega)
            rwa [List.take_of_length_le (by rw [List.length_drop, HS.out.len]; exact Nat.le_refl _)] at this
          have HP := Lib.hid (Sl_pre (k := i0') HS.out (by omega))
          clear hc hs hx
          go_wp2_with (at_builtin; refine wpList_append_rs _ rfl _ _ 25 rfl wr.heap.size 5 i0 (.int .u8 0) 1 Try.underlying25 hi0 hz0 hz1 hz2 rfl _ 0 [] rfl (World.ownsRow_nil _ _ _ _) B8 _ _ _ (row.take i0') (fun _ _ => rfl) rfl HP.out ?c1 ?c2 ?c3 ?_)
          case c1 => unfold maxLen at hcm2 ⊢; omega
          case c2 => omega
          case c3 => exact Nat.le_refl _
          intro v5 w5 ho5 hg5
          obtain ⟨q5, c5, rfl⟩ := owns_shape ho5
          have B5 : Hid (Below wr.heap.size wr w5) := (Below.refl _ _).grown hg5 (Nat.le_refl _) (fun kk hk => by cases hk)
          have O5 : Hid (w5.ownsRow wr.heap.size 5 1 (.slice q5 i0' c5) i0' ((row.take i0').map B8)) := by show World.ownsRow _ _ _ _ _ _ _; simpa using ho5
          have HD5 := Lib.hid (HD.out.keep B5.out)
          have hwr : w.heap.size ≤ wr.heap.size := hB.out.size
          clear ho5 hg5 HD HP HS hcw
          go_wp2_with (at_builtin; refine wpList_append_rs _ rfl _ _ 25 rfl wr.heap.size 5 i0 (.int .u8 0) 1 Try.underlying25 hi0 hz0 hz1 hz2 rfl _ i0' _ rfl O5.out B8 _ _ _ (row.drop (i0' + 1)) (fun _ _ => rfl) rfl HD5.out ?c1 ?c2 ?c3 ?_)
          case c1 => unfold maxLen at hcm2 ⊢; omega
          case c2 => omega
          case c3 => exact B5.out.size
          intro v6 w6 ho6 hg6
          obtain ⟨q6, c6, rfl⟩ := owns_shape ho6
          have B6 : Hid (Below wr.heap.size w5 w6) := (Below.refl _ _).grown hg6 B5.out.size (fun kk hk => (O5.out.lt kk hk).1)
          have hsz6 : Hid (w5.heap.size ≤ w6.heap.size) := B6.out.size
          have O6 : Hid (w6.ownsRow w.heap.size 5 1 (.slice q6 (i0' + (mx - (i0' + 1))) c6) (i0' + (mx - (i0' + 1))) ((cutF i0' row).map B8)) := by
            show World.ownsRow _ _ _ _ _ _ _
            unfold cutF
            rw [List.map_append]
            exact owns_mono (by simpa using ho6) hwr
          have B36 : Below wr.heap.size wr w6 := B5.out.trans B6.out
          have OQ : Hid (Own2 25 5 w6 w.heap.size (.slice qo k co) k ((xss.tail.take k).map (cutF i0'))) := hO.out.keep B36
          have BQ : Hid (Below w.heap.size w w6) := bl hB.out B36 hB.out.size
          have bal : ∀ (W : World) (o : Obj), Below W.heap.size W (W.alloc o) := fun W o => al (Below.refl _ _) (Nat.le_refl _)
          obtain ⟨vs, oA, lA, rA⟩ := OQ.out
          have OA := Lib.hid oA; have LA := Lib.hid lA; have RA := Lib.hid rA
          have hO2 : Hid (∀ o, (w6.alloc o).ownsRow w.heap.size 25 1 (.slice qo k co) k vs) := fun o => owns_keep OA.out (bal _ _)
          have HBAL := Lib.hid bal
          have hsz := BQ.out.size
          clear ho6 hg6 B5 B6 O5 HD5 hsz6 B36 hO hB oA lA rA bal OQ
          go_wp2_with (at_builtin; refine wpList_append_own _ rfl _ _ 22 rfl w.heap.size 25 r0 (.slice none 0 0) 1 24 Try.underlying22 hr0 hrz hr1 hr2 rfl (by omega) _ k _ rfl (hO2.out _) ⟨w6.heap.size, 0, none⟩ 1 1 [.slice q6 (i0' + (mx - (i0' + 1))) c6] rfl rfl (one_cell' rfl) ?d2 ?d3 ?d4 ?d5 ?_)
          case d2 => intro y hy; simp at hy; subst hy; rfl
          case d3 => unfold maxLen; omega
          case d4 => omega
          case d5 => simp; omega
          intro v8 w8 ho8 hg8 _
          obtain ⟨q8, c8, rfl⟩ := owns_shape ho8
          have P8 : Hid (Own2 25 5 w8 w.heap.size (.slice q8 (k + 1) c8) (k + 1) ((xss.tail.take (k + 1)).map (cutF i0')) ∧ Below w.heap.size w w8) := by
            refine ⟨?_, (al BQ.out hsz).grown hg8 (by simp; omega) (fun kk hk => (OA.out.lt kk hk).1)⟩
            rw [hstep.out]
            exact Own2.push (by decide) LA.out (fun jj val hjj => by
              obtain ⟨xs, q, c', a, b, d⟩ := RA.out jj val hjj
              exact ⟨xs, q, c', a, b, owns_keep d (HBAL.out _ _)⟩) (hO2.out _) (owns_keep O6.out (HBAL.out _ _)) ho8 hg8
          clear ho8 hg8 hO2 OA LA RA O6 BQ hsz
          go_wp2
          go_roundw
          case rel => exact ⟨k + 1, q8, c8, by omega, by go_num, rfl, P8.out.1, P8.out.2⟩
          case measure => simp [intOf]; omega
      · have hkm : k = m := by omega
        have hge : (m : Int) ≤ (k : Int) := by omega
        have OF : Hid (Own2 25 5 wr w.heap.size (.slice qo m co) m (xss.tail.map (cutF i0'))) := by
          have h := hO.out
          rw [hkm, List.take_of_length_le (by rw [List.length_tail, HLEN.out]; omega)] at h; exact h
        have BF := Lib.hid hB.out
        subst hkm
        clear hO hB
        go_wp2
        go_ret
        exact ⟨qo, co, rfl, OF.out, BF.out⟩
end Go.Proofs.Ytofhdakggapahaa
namespace Go.Proofs.Ytofhdakggapahaa
open Go.RowKit Go.By Gf
/-- rows in memory, so many -/
def shpRows (n : Nat) (L : List (List UInt8)) : Shp := ⟨fun v W => ∃ q c, v = .slice q n c ∧ Sl2 W q n c L, fun _ _ _ ⟨q, c, e, h⟩ hb => ⟨q, c, e, h.keep hb⟩⟩
def detM (xss : List (List UInt8)) : Nat → V := fun i => vf (xss.getD i [])
theorem cutF_at {i c n : Nat} {r : List UInt8} (h : r.length = n + 1) (hi : i < n + 1) (hc : c < n) : vf (cutF i r) c = vf r (skip i c) := by
  unfold vf cutF skip
  rw [List.getD_eq_getElem?_getD, List.getD_eq_getElem?_getD, List.getElem?_append]
  by_cases hci : c < i
  · rw [if_pos (by rw [List.length_take]; omega), if_pos hci, List.getElem?_take, if_pos hci]
  · rw [if_neg (by rw [List.length_take]; omega), if_neg hci, List.getElem?_drop, List.length_take, h, Nat.min_eq_left (by omega)]
    congr 2; omega
theorem det_cut {n i : Nat} {xss : List (List UInt8)} (hl : xss.length = n + 1) (h : ∀ x, x ∈ xss → x.length = n + 1) (hi : i < n + 1) : det n (detM (xss.tail.map (cutF i))) = det n (minor (detM xss) i) := by
  refine det_congr fun r c hr hc => ?_
  unfold detM minor
  have hx : xss[r + 1]? = some (xss[r + 1]'(by omega)) := List.getElem?_eq_getElem (by omega)
  show vf ((xss.tail.map (cutF i)).getD r []) c = vf (xss.getD (r + 1) []) (skip i c)
  rw [List.getD_eq_getElem?_getD, List.getElem?_map, List.getElem?_tail, hx, List.getD_eq_getElem?_getD, hx]
  exact cutF_at (h _ (List.getElem_mem (by omega))) hi hc
set_option maxRecDepth 100000 in
set_option maxHeartbeats 4000000 in
theorem Det_any : ∀ (n : Nat) (p : Option Addr) (c : Nat) (xss : List (List UInt8)) (w : World), Sl2 w p n c xss → (∀ x, x ∈ xss → x.length = n) → n ≤ 6 →
    Calls Try.prog 23 #[.slice p n c] w fun e w' => e = .returned (B8 (det n (detM xss))) ∧ Below w.heap.size w w' := by
  intro n
  induction n with
  | zero =>
    intro p c xss w h hall hn
    go_enter Try.func23, Try.ntmps23
    go_wp2
    go_ret
    exact ⟨rfl, Below.refl _ _⟩
  | succ n ih =>
    intro p c xss w h hall hn
    obtain ⟨b, o, q, mx, cx, row, rfl, hc0, hs0, hx0⟩ := h.at 0 (by omega)
    obtain rfl : mx = n + 1 := by rw [← hs0.len]; exact hall row (List.mem_of_getElem? hx0.out)
    have H := Lib.hid h; have HALL := Lib.hid hall; have HLEN := Lib.hid h.len; have HS0 := Lib.hid hs0; have HC0 := Lib.hid hc0
    have hrow : Hid (∀ k, vf row k = detM xss 0 k) := fun k => by
      have := hx0.out
      unfold detM
      rw [List.getD_eq_getElem?_getD, this]; rfl
    have HIH := Lib.hid ih
    clear h hall hs0 hc0 hx0 ih
    go_enter Try.func23, Try.ntmps23
    go_wp2
    go_loopw [3, 10] (fun s i wr => ∃ k : Nat, k ≤ n + 1 ∧ i = .int .i64 k ∧ s = B8 (sumN k (fun i => gmul (detM xss 0 i) (det n (minor (detM xss) i)))) ∧ Hid (Below w.heap.size w wr)) (fun _ i _ => n + 1 - (intOf i).toNat)
    case atStart => exact ⟨0, Nat.zero_le _, rfl, rfl, Below.refl _ _⟩
    case round =>
      obtain ⟨k, hk, rfl, rfl, hB⟩ := hrel
      by_cases hlt : k < n + 1
      · have kn : (k : Int) < ((n + 1 : Nat) : Int) := by omega
        have kn' : (k : Int) < (n : Int) + 1 := by omega
        obtain ⟨bq, oq, x, rfl, hcx, hxx⟩ := HS0.out.at k hlt
        have hx : x = detM xss 0 k := by rw [← hrow.out k]; unfold vf; rw [List.getD_eq_getElem?_getD, hxx.out]; rfl
        obtain ⟨S, hS⟩ : ∃ S, S = sumN k (fun i => gmul (detM xss 0 i) (det n (minor (detM xss) i))) := ⟨_, rfl⟩
        obtain ⟨D, hD⟩ : ∃ D, D = det n (detM (xss.tail.map (cutF k))) := ⟨_, rfl⟩
        have hnext : Hid (sumN (k + 1) (fun i => gmul (detM xss 0 i) (det n (minor (detM xss) i))) = S ^^^ gmul x D) := by
          show _ = _
          rw [hS, hD, hx, det_cut HLEN.out HALL.out hlt]; rfl
        have bx0 := bits_xor S (gmul x D)
        rw [← hS]
        have cr := (hB.out.cell (p := ⟨b, o, none⟩) (lt_of_cell HC0.out)).trans HC0.out
        have cx' := (hB.out.cell (p := ⟨bq, oq + k, none⟩) (lt_of_cell hcx)).trans hcx
        have HW : Hid (∀ W, Sl2 W (some ⟨b, o, none⟩) (n + 1) c xss → Calls Try.prog 66 #[.slice (some ⟨b, o, none⟩) (n + 1) c, .int .i64 k] W fun e w' => ∃ q c', e = .returned (.slice q n c') ∧ Own2 25 5 w' W.heap.size (.slice q n c') n (xss.tail.map (cutF k)) ∧ Below W.heap.size W w') := fun W h => Without_any (n + 1) k (some ⟨b, o, none⟩) n c xss W h HALL.out hlt (by omega) (by omega)
        have HDET : Hid (∀ W q c', Sl2 W q n c' (xss.tail.map (cutF k)) → Calls Try.prog 23 #[.slice q n c'] W fun e w' => e = .returned (B8 D) ∧ Below W.heap.size W w') := fun W q c' h => by
          rw [hD]
          refine HIH.out q c' _ W h (fun y hy => ?_) (by omega)
          obtain ⟨r, hr, rfl⟩ := List.mem_map.1 hy
          exact cutF_len (HALL.out r (List.mem_of_mem_tail hr)) hlt
        clear hS hD hx hcx hxx
        go_wp2
        refine wp_region_shapes (fun ix => ([.val (B8 S), .val (.slice (some ⟨b, o, none⟩) (n + 1) c), .val (.pointer (some ⟨b, o, none⟩)), .val (.slice (some ⟨bq, oq, none⟩) (n + 1) cx), .val (.int .i64 k), .val (.pointer (some ⟨bq, oq + k, none⟩)), .val (B8 x), .val (.slice (some ⟨b, o, none⟩) (n + 1) c), .val (.int .i64 k), (shpRows n (xss.tail.map (cutF k))), .val (B8 D), .val (B8 (gmul x D)), .val (B8 (S ^^^ gmul x D)), .val (B8 (S ^^^ gmul x D))][ix]?).getD (.any)) 28 rfl (by kernel_rfl) (by decide) (by decide) (by decide) ?_ ?_
        · refine ⟨?_, ?_, ?_, ?_, ?_, ?_, ?_, ?_, ?_, ?_, ?_, ?_, ?_, ?_, trivial⟩
          · intro a W hb0 hs hp hi; have hb := undrew hb0; clear hb0
            have t3 : sl a 3 = B8 S := hi 3 (by decide)
            exact ite_y rfl (wp_val (sl a 3) rfl ⟨_, rfl, Below.refl _ _, t3⟩)
          · intro a W hb0 hs hp hi; have hb := undrew hb0; clear hb0
            have t0 : sl a 0 = .slice (some ⟨b, o, none⟩) (n + 1) c := hi 0 (by decide)
            exact ite_y rfl (wp_val (sl a 0) rfl ⟨_, rfl, Below.refl _ _, t0⟩)
          · intro a W hb0 hs hp hi; have hb := undrew hb0; clear hb0
            have t14 : sl a 14 = .slice (some ⟨b, o, none⟩) (n + 1) c := hp 1 (by decide)
            refine ite_y rfl (wp_val (.pointer (some ⟨b, o, none⟩)) ?_ ?_)
            · simp only [execOp, eval_tmp, eval_const, t14]; simp [go_sem]
            · exact ⟨_, rfl, Below.refl _ _, rfl⟩
          · intro a W hb0 hs hp hi; have hb := undrew hb0; clear hb0
            have tt : sl a 15 = .pointer (some ⟨b, o, none⟩) := hp 2 (by decide)
            have dd0 := (hb.cell (p := ⟨b, o, none⟩) (lt_of_cell cr)).trans cr
            refine ite_y rfl (wp_val (.slice (some ⟨bq, oq, none⟩) (n + 1) cx) ?_ ?_)
            · simp only [execOp, eval_tmp, tt]; simp [go_sem, dd0]
            · exact ⟨_, rfl, Below.refl _ _, rfl⟩
          · intro a W hb0 hs hp hi; have hb := undrew hb0; clear hb0
            have t4 : sl a 4 = .int .i64 k := hi 4 (by decide)
            exact ite_y rfl (wp_val (sl a 4) rfl ⟨_, rfl, Below.refl _ _, t4⟩)
          · intro a W hb0 hs hp hi; have hb := undrew hb0; clear hb0
            have t16 : sl a 16 = .slice (some ⟨bq, oq, none⟩) (n + 1) cx := hp 3 (by decide)
            have t17 : sl a 17 = .int .i64 k := hp 4 (by decide)
            refine ite_y rfl (wp_val (.pointer (some ⟨bq, oq + k, none⟩)) ?_ ?_)
            · simp only [execOp, eval_tmp, eval_const, t16, t17]; simp [go_sem, kn, kn', hlt]
            · exact ⟨_, rfl, Below.refl _ _, rfl⟩
          · intro a W hb0 hs hp hi; have hb := undrew hb0; clear hb0
            have tt : sl a 18 = .pointer (some ⟨bq, oq + k, none⟩) := hp 5 (by decide)
            have dd0 := (hb.cell (p := ⟨bq, oq + k, none⟩) (lt_of_cell cx')).trans cx'
            refine ite_y rfl (wp_val (B8 x) ?_ ?_)
            · simp only [execOp, eval_tmp, tt]; simp [go_sem, dd0]
            · exact ⟨_, rfl, Below.refl _ _, rfl⟩
          · intro a W hb0 hs hp hi; have hb := undrew hb0; clear hb0
            have t0 : sl a 0 = .slice (some ⟨b, o, none⟩) (n + 1) c := hi 0 (by decide)
            exact ite_y rfl (wp_val (sl a 0) rfl ⟨_, rfl, Below.refl _ _, t0⟩)
          · intro a W hb0 hs hp hi; have hb := undrew hb0; clear hb0
            have t4 : sl a 4 = .int .i64 k := hi 4 (by decide)
            exact ite_y rfl (wp_val (sl a 4) rfl ⟨_, rfl, Below.refl _ _, t4⟩)
          · intro a W hb0 hs hp hi; have hb := undrew hb0; clear hb0
            have t20 : sl a 20 = .slice (some ⟨b, o, none⟩) (n + 1) c := hp 7 (by decide)
            have t21 : sl a 21 = .int .i64 k := hp 8 (by decide)
            refine ite_y rfl (wp_enter 66 #[.slice (some ⟨b, o, none⟩) (n + 1) c, .int .i64 k] ?_ (HW.out W (H.out.keep (bl hB.out hb hB.out.size))) ?_)
            · simp only [execOp, resolve, List.map_toArray, List.map, eval_tmp, eval_func, eval_const, t20, t21]; simp [go_sem]
            · rintro e W' ⟨q', c', rfl, ho, hw⟩; exact ⟨_, rfl, _, rfl, hw, q', c', rfl, ho.sl2⟩
          · intro a W hb0 hs hp hi; have hb := undrew hb0; clear hb0
            obtain ⟨q2, c2, tt, z2⟩ : ∃ q2 c2, sl a 22 = .slice q2 n c2 ∧ Sl2 W q2 n c2 (xss.tail.map (cutF k)) := hp 9 (by decide)
            refine ite_y rfl (wp_enter 23 #[.slice q2 n c2] ?_ (HDET.out W q2 c2 z2) ?_)
            · simp only [execOp, resolve, List.map_toArray, List.map, eval_tmp, eval_func, eval_const, tt]; simp [go_sem]
            · rintro e W' ⟨rfl, hw⟩; exact ⟨_, rfl, _, rfl, hw, rfl⟩
          · intro a W hb0 hs hp hi; have hb := undrew hb0; clear hb0
            have t19 : sl a 19 = B8 x := hp 6 (by decide)
            have t23 : sl a 23 = B8 D := hp 10 (by decide)
            refine ite_y rfl (wp_enter 65 #[B8 x, B8 D] ?_ (RefMul_any x D W) ?_)
            · simp only [execOp, resolve, List.map_toArray, List.map, eval_tmp, eval_func, eval_const, t19, t23]; simp [go_sem]
            · rintro e W' ⟨rfl, rfl⟩; exact ⟨_, rfl, _, rfl, Below.refl _ _, rfl⟩
          · intro a W hb0 hs hp hi; have hb := undrew hb0; clear hb0
            have t13 : sl a 13 = B8 S := hp 0 (by decide)
            have t24 : sl a 24 = B8 (gmul x D) := hp 11 (by decide)
            refine ite_y rfl (wp_val (B8 (S ^^^ gmul x D)) ?_ ?_)
            · simp only [execOp, eval_tmp, eval_const, t13, t24]; simp [go_sem, bx0]
            · exact ⟨_, rfl, Below.refl _ _, rfl⟩
          · intro a W hb0 hs hp hi; have hb := undrew hb0; clear hb0
            have t25 : sl a 25 = B8 (S ^^^ gmul x D) := hp 12 (by decide)
            exact ite_y rfl (wp_val (sl a 25) rfl ⟨_, rfl, Below.refl _ _, t25⟩)
        · intro a w9 hb hs hd hI ht
          have ha := act_is [13, 14, 15, 16, 17, 18, 19, 20, 21, 22, 23, 24, 25, 3] hs hd ht (by decide)
          have t3 : sl a 3 = B8 (S ^^^ gmul x D) := hI 13 (by decide)
          simp only [List.foldl, t3] at ha
          generalize sl a 13 = u13 at ha
          generalize sl a 14 = u14 at ha
          generalize sl a 15 = u15 at ha
          generalize sl a 16 = u16 at ha
          generalize sl a 17 = u17 at ha
          generalize sl a 18 = u18 at ha
          generalize sl a 19 = u19 at ha
          generalize sl a 20 = u20 at ha
          generalize sl a 21 = u21 at ha
          generalize sl a 22 = u22 at ha
          generalize sl a 23 = u23 at ha
          generalize sl a 24 = u24 at ha
          generalize sl a 25 = u25 at ha
          simp only [Act.put, List.setIfInBounds_toArray, List.set_cons_zero, List.set_cons_succ] at ha
          rw [ha]; clear ha
          have B9 := Lib.hid (bl hB.out hb hB.out.size)
          have E9 := Lib.hid hnext.out
          clear hI ht hb hB hnext cr cx' HW HDET
          go_wp2
          go_roundw
          case rel => exact ⟨k + 1, by omega, by go_num, by rw [E9.out], B9.out⟩
          case measure => simp [intOf]; omega
      · have hkn : k = n + 1 := by omega
        have hge : ((n + 1 : Nat) : Int) ≤ (k : Int) := by omega
        have hge' : (n : Int) + 1 ≤ (k : Int) := by omega
        subst hkn
        have BF := Lib.hid hB.out
        clear hB
        go_wp2
        go_ret
        exact ⟨rfl, BF.out⟩
end Go.Proofs.Ytofhdakggapahaa
namespace Go.Proofs.Ytofhdakggapahaa
open Go.RowKit Go.By Gf
theorem rows_wide {n : Nat} {L : List (List UInt8)} (h : ∀ x, x ∈ L → x.length = n) : ∀ v, v ∈ L.map vf → Wide n v := fun v hv => by
  obtain ⟨x, hx, rfl⟩ := List.mem_map.1 hv
  have := vf_wide x
  rw [h x hx] at this; exact this
theorem rank_high {m : Nat} {L : List (List UInt8)} (hm : L.length = m) : (iK L).length ≤ m := by
  have := iK_len L m
  rwa [List.take_of_length_le (by omega)] at this
theorem rank_wide {wd : Nat} {L : List (List UInt8)} (h : ∀ x, x ∈ L → x.length = wd) : (iK L).length ≤ wd := (ins_rank L h).le_width (rows_wide h)
theorem rank_turn {wd m : Nat} {L : List (List UInt8)} (h : ∀ x, x ∈ L → x.length = wd) (hm : L.length = m) : (iK (turnX wd L)).length = (iK L).length := by
  have h2 := ins_rank (turnX wd L) (turnX_len hm)
  rw [turnX_cols hm] at h2
  exact (cols_rank (rows_wide h) (ins_rank L h) h2).symm
theorem turn_turn {wd m : Nat} {L : List (List UInt8)} (h : ∀ x, x ∈ L → x.length = wd) (hm : L.length = m) : (turnX m (turnX wd L)).flatten = L.flatten := by
  rcases Nat.eq_zero_or_pos wd with h0 | h0
  · subst h0
    have e1 : L.flatten = [] := List.length_eq_zero_iff.1 (by rw [flat_len h, Nat.mul_zero])
    have e2 : (turnX m (turnX 0 L)).flatten = [] := List.length_eq_zero_iff.1 (by rw [flat_len (wd := 0) (turnX_len (turnX_length 0 L)), Nat.mul_zero])
    rw [e1, e2]
  · congr 1
    apply List.ext_getElem?
    intro i
    by_cases hi : i < m
    · have hx : L[i]? = some (L[i]'(by omega)) := List.getElem?_eq_getElem (by omega)
      have hl := h _ (List.getElem_mem (l := L) (n := i) (by omega))
      rw [hx]
      have e : (turnX m (turnX wd L))[i]? = some ((turnX wd L).map fun row => row.getD i 0) := by
        unfold turnX; rw [List.getElem?_map, List.getElem?_range hi]; rfl
      rw [e]
      congr 1
      unfold turnX
      rw [List.map_map]
      apply List.ext_getElem?
      intro j
      by_cases hj : j < wd
      · rw [List.getElem?_map, List.getElem?_range hj, List.getElem?_eq_getElem (by omega)]
        show some ((L.map fun row => row.getD j 0).getD i 0) = _
        rw [List.getD_eq_getElem?_getD, List.getElem?_map, hx]
        show some ((L[i]'(by omega)).getD j 0) = _
        rw [List.getD_eq_getElem?_getD, List.getElem?_eq_getElem (by omega)]; rfl
      · rw [List.getElem?_eq_none (by simpa using hj), List.getElem?_eq_none (by omega)]
    · rw [List.getElem?_eq_none (by rw [turnX_length]; omega), List.getElem?_eq_none (by omega)]
theorem rank_mul {k v : Nat} {L K : List (List UInt8)} (hL : ∀ x, x ∈ L → x.length = k) (hK : ∀ x, x ∈ K → x.length = v) (hk : K.length = k) : (iK (L.map (mulR v K))).length ≤ (iK L).length ∧ (iK (L.map (mulR v K))).length ≤ (iK K).length := by
  have h := ins_rank (L.map (mulR v K)) (mul_wide hK)
  rw [mul_vf hL hK hk] at h
  exact ⟨rank_mul_left h (ins_rank L hL), rank_mul_right (by simp [hk]) h (ins_rank K hK)⟩
/-- a column more, where all rows are independent -/
theorem GJ.more {n c : Nat} {G : List V} {F : Nat → Rw} (h : GJ n G F c) (hc : c < n) (hr : Rk G n) : ∃ F', GJ n G F' (c + 1) := by
  by_cases hz : ∀ i, c ≤ i → i < n → vf (F i).1 c = 0
  · exact absurd (h.fail hc hz hr) (Nat.lt_irrefl n)
  · have : ∃ i, c ≤ i ∧ i < n ∧ vf (F i).1 c ≠ 0 := by
      apply Classical.byContradiction
      intro hne
      exact hz fun i h1 h2 => Classical.byContradiction fun h3 => hne ⟨i, h1, h2, h3⟩
    obtain ⟨i, h1, h2, h3⟩ := this
    have hs := h.swap hc h2 h1
    have hn := hs.norm hc (by rw [swF_at]; exact h3)
    have hm : ∀ k, k ≤ n → ∃ F', GJm n G F' c k := by
      intro k
      induction k with
      | zero => intro _; exact ⟨_, hn⟩
      | succ k ih =>
        intro hk
        obtain ⟨F', hF⟩ := ih (by omega)
        by_cases e : k = c
        · subst e; exact ⟨F', hF.skip⟩
        · exact ⟨_, hF.step hc (by omega) e⟩
    obtain ⟨F', hF⟩ := hm n (Nat.le_refl _)
    exact ⟨F', hF.done⟩
theorem GJ.all {n : Nat} {L : List (List UInt8)} (h : ∀ x, x ∈ L → x.length = n) (hm : L.length = n) (hr : (iK L).length = n) : ∃ F, GJ n (L.map vf) F n := by
  have h0 : GJ n (L.map vf) (fillF n L.flatten n) 0 := by
    have := fill_init n L.flatten (by rw [flat_len h, hm])
    rwa [sq_rows h hm] at this
  have hR : Rk (L.map vf) n := by have := ins_rank L h; rwa [show (L.foldl (fun K r => insF K (r, [])) []).length = n from hr] at this
  have : ∀ c, c ≤ n → ∃ F, GJ n (L.map vf) F c := by
    intro c
    induction c with
    | zero => intro _; exact ⟨_, h0⟩
    | succ c ih => intro hc; obtain ⟨F, hF⟩ := ih (by omega); exact hF.more (by omega) hR
  exact this n (Nat.le_refl _)
theorem detM_eq {n : Nat} {L : List (List UInt8)} (hm : L.length = n) : det n (detM L) = det n (fun i => (L.map vf).getD i fun _ => 0) := by
  refine det_congr fun r c hr hc => ?_
  have hx : L[r]? = some (L[r]'(by omega)) := List.getElem?_eq_getElem (by omega)
  show vf (L.getD r []) c = ((L.map vf).getD r fun _ => 0) c
  rw [List.getD_eq_getElem?_getD, List.getD_eq_getElem?_getD, List.getElem?_map, hx]; rfl
/-- the rank is full just where the determinant isn't 0 -/
theorem det_rank {n : Nat} {L : List (List UInt8)} (h : ∀ x, x ∈ L → x.length = n) (hm : L.length = n) : (iK L).length = n ↔ det n (detM L) ≠ 0 := by
  constructor
  · intro hr
    obtain ⟨F, hF⟩ := GJ.all h hm hr
    rw [detM_eq hm]; exact hF.det
  · intro hd
    have hI : Ind (L.map vf) := by
      apply Classical.byContradiction
      intro hni
      exact hd (by rw [detM_eq hm]; exact det_not_ind (by simp [hm]) hni)
    have h1 := ins_rank L h
    have h2 : Rk (L.map vf) n := ⟨L.map vf, hI, by simp [hm], fun b hb => Sp.mem hb, fun b hb => Sp.mem hb⟩
    exact h1.unique h2
/-- the inverse's inverse -/
theorem inv_back {n : Nat} {L : List (List UInt8)} {F E : Nat → Rw} (h : ∀ x, x ∈ L → x.length = n) (hm : L.length = n) (g : GJ n (sqR n L.flatten) F n) (e : GJ n (sqR n (rowsD n F).flatten) E n) : (rowsD n E).flatten = L.flatten := by
  congr 1
  have hD := rowsD_wide g
  have hE := rowsD_wide e
  have hu := vrow_units h hm g
  have hv := vrow_units hD (rowsD_len n F) e
  apply List.ext_getElem?
  intro i
  by_cases hi : i < n
  · have x1 : L[i]? = some (L[i]'(by omega)) := List.getElem?_eq_getElem (by omega)
    have x2 : (rowsD n E)[i]? = some ((rowsD n E)[i]'(by rw [rowsD_len]; exact hi)) := List.getElem?_eq_getElem (by rw [rowsD_len]; exact hi)
    rw [x1, x2]
    congr 1
    have l1 := h _ (List.getElem_mem (l := L) (n := i) (by omega))
    have l2 := hE _ (List.getElem_mem (l := rowsD n E) (n := i) (by rw [rowsD_len]; exact hi))
    have k := congrArg (fun l => l[i]?) hv
    simp only [List.getElem?_map, x2, Option.map_some, units, List.getElem?_range hi] at k
    injection k with k
    have w := vf_wide ((rowsD n E)[i]'(by rw [rowsD_len]; exact hi))
    rw [l2] at w
    have := inv_row (D := (rowsD n F).map vf) (G := L.map vf) (n := n) (i := i) (b := vf (L[i]'(by omega))) (by simp [hm]) (by simp [rowsD]) hu w (by rw [List.getElem?_map, x1]; rfl) k
    exact vf_inj (by rw [l1, l2]) (fun j _ => by rw [this])
  · rw [List.getElem?_eq_none (by rw [rowsD_len]; omega), List.getElem?_eq_none (by omega)]
theorem inv_full {n : Nat} {L : List (List UInt8)} {F : Nat → Rw} (h : ∀ x, x ∈ L → x.length = n) (hm : L.length = n) (g : GJ n (sqR n L.flatten) F n) : (iK (rowsD n F)).length = n := by
  have hD := rowsD_wide g
  have hI : Ind ((rowsD n F).map vf) := inv_ind (G := L.map vf) (by simp [rowsD]) (vrow_units h hm g)
  exact (ins_rank (rowsD n F) hD).unique ⟨(rowsD n F).map vf, hI, by simp [rowsD], fun b hb => Sp.mem hb, fun b hb => Sp.mem hb⟩
end Go.Proofs.Ytofhdakggapahaa
