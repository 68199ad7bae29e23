/- What the laws of grids carry along from call to call. The contract of the reference's without. The contract of the reference's Det. Plain laws of GridRanks: ranks of turned grids and products, determinants, inverses of inverses. Plain law of ElimSolves: equations that symbols solve. What stays where some blocks turn; what the law ElimSolves carries. The walk of the law ElimSolves. -/
import Derived.Test.YtofhdakggapahaaZq9
namespace Go.Proofs.Ytofhdakggapahaa
open Go.RowKit Go.By
structure GSt (w : World) (b9 b12 m1 wd m2 vd : Nat) (qg ql qo qk : Option Addr) (ng cg cl no co ck : Nat) (L K : List (List UInt8)) (W : World) : Prop where
  bel : Below w.heap.size w W
  sg : Sl B8 W qg ng cg L.flatten
  rl : Sl2 W ql m1 cl L
  so : Sl B8 W qo no co K.flatten
  rk : Sl2 W qk m2 ck K
  xg : W.heap[b9]? = some (.cells #[.int .i64 m1, .int .i64 wd, .slice qg ng cg] 27 (0, 0))
  xo : W.heap[b12]? = some (.cells #[.int .i64 m2, .int .i64 vd, .slice qo no co] 27 (0, 0))
theorem GSt.keep {w W W' : World} {b9 b12 m1 wd m2 vd : Nat} {qg ql qo qk : Option Addr} {ng cg cl no co ck : Nat} {L K : List (List UInt8)} (h : GSt w b9 b12 m1 wd m2 vd qg ql qo qk ng cg cl no co ck L K W) (hb : Below W.heap.size W W') : GSt w b9 b12 m1 wd m2 vd qg ql qo qk ng cg cl no co ck L K W' :=
  ⟨bl h.bel hb h.bel.size, h.sg.keep hb, h.rl.keep hb, h.so.keep hb, h.rk.keep hb, (hb.block _ (blk_lt h.xg)).trans h.xg, (hb.block _ (blk_lt h.xo)).trans h.xo⟩
theorem fit_len {wd : Nat} {xss : List (List UInt8)} : ∀ x, x ∈ xss.map (fitR wd) → x.length = wd := fun x hx => by
  obtain ⟨r, _, rfl⟩ := List.mem_map.1 hx
  exact fitR_len wd r
/-- the contracts of a grid that holds these rows -/
theorem GRank_rows {m wd : Nat} {L : List (List UInt8)} (hL : ∀ x, x ∈ L → x.length = wd) (hm : L.length = m) (h1 : m ≤ 4096) (h2 : wd ≤ 4096) (q : Option Addr) (n c : Nat) (W : World) (hn : n = m * wd) (h : Sl B8 W q n c L.flatten) :
    Calls Try.prog 20 #[.agg #[.int .i64 m, .int .i64 wd, .slice q n c]] W fun e w' => e = .returned (.int .i64 (iK L).length) ∧ Below W.heap.size W w' := by
  have := Rank_any m wd q n c L.flatten W h hn (by unfold Room; omega) (by omega)
  rwa [kF_rank hL hm] at this
theorem GRows_rows {m wd : Nat} {L : List (List UInt8)} (hL : ∀ x, x ∈ L → x.length = wd) (hm : L.length = m) (h1 : m ≤ 4096) (h2 : wd ≤ 4096) (q : Option Addr) (n c : Nat) (W : World) (hn : n = m * wd) (h : Sl B8 W q n c L.flatten) :
    Calls Try.prog 17 #[.agg #[.int .i64 m, .int .i64 wd, .slice q n c]] W fun e w' => ∃ q c', e = .returned (.slice q m c') ∧ Own2 25 5 w' W.heap.size (.slice q m c') m L ∧ Below W.heap.size W w' := by
  have := GRows_any m wd q n c L.flatten W h hn (by unfold Room; omega) (by unfold Room; omega)
  rwa [rows_at hL hm] at this
theorem turnX_len {wd m : Nat} {L : List (List UInt8)} (hm : L.length = m) : ∀ x, x ∈ turnX wd L → x.length = m := fun x hx => by
  obtain ⟨b, _, rfl⟩ := List.mem_map.1 hx
  rw [List.length_map, hm]
theorem turnX_length (wd : Nat) (L : List (List UInt8)) : (turnX wd L).length = wd := by simp [turnX]
theorem GTurned_rows {m wd : Nat} {L : List (List UInt8)} (hL : ∀ x, x ∈ L → x.length = wd) (hm : L.length = m) (h1 : m ≤ 4096) (h2 : wd ≤ 4096) (q : Option Addr) (n c : Nat) (W : World) (hn : n = m * wd) (h : Sl B8 W q n c L.flatten) :
    Calls Try.prog 21 #[.agg #[.int .i64 m, .int .i64 wd, .slice q n c]] W (RetG 5 W wd m (turnX wd L).flatten) := by
  have hwm : wd * m ≤ 4096 * 4096 := Nat.mul_le_mul h2 h1
  refine (Turned_any m wd q n c L.flatten W h hn (by unfold Room; omega) (by omega) (by omega)).mono ?_
  rintro e w' ⟨C, hT, hR⟩
  have hr := hT.rows
  rw [turn_eq hL hm] at hr
  have hC : C = (turnX wd L).flatten := by rw [← hr]; exact (flat_rows wd hT.len).symm
  rw [← hC]; exact hR
theorem GMul_rows {m k v : Nat} {L K : List (List UInt8)} (hL : ∀ x, x ∈ L → x.length = k) (hm : L.length = m) (hK : ∀ x, x ∈ K → x.length = v) (hk : K.length = k) (b1 : m ≤ 256) (b2 : k ≤ 256) (b3 : v ≤ 256) (p1 p2 : Option Addr) (n1 c1 n2 c2 : Nat) (W : World) (e1 : n1 = m * k) (e2 : n2 = k * v) (s1 : Sl B8 W p1 n1 c1 L.flatten) (s2 : Sl B8 W p2 n2 c2 K.flatten) :
    Calls Try.prog 22 #[.agg #[.int .i64 m, .int .i64 k, .slice p1 n1 c1], .agg #[.int .i64 k, .int .i64 v, .slice p2 n2 c2]] W (RetG2 5 W m v (L.map (mulR v K)).flatten 0) := by
  have : m * v ≤ 256 * 256 := Nat.mul_le_mul b1 b3
  exact GMul_any m k v p1 p2 n1 c1 n2 c2 L.flatten K.flatten L K W s1 s2 e1 e2 (rows_at hL hm) (rows_at hK hk) (by omega) (by omega) (by omega) (by omega)
/-- what Inverse gives, as rows -/
def RetJ (w : World) (n : Nat) (L : List (List UInt8)) (e : Ending) (w' : World) : Prop :=
  (∃ F : Nat → Rw, GJ n (sqR n L.flatten) F n ∧ (iK L).length = n ∧ RetG2 5 w n n (rowsD n F).flatten 0 e w') ∨ ((iK L).length < n ∧ RetG2 5 w 0 0 [] 19 e w')
theorem GInv_rows {n : Nat} {L : List (List UInt8)} (hL : ∀ x, x ∈ L → x.length = n) (hm : L.length = n) (hb : n ≤ 256) (q : Option Addr) (N c : Nat) (W : World) (hn : N = n * n) (h : Sl B8 W q N c L.flatten) :
    Calls Try.prog 24 #[.agg #[.int .i64 n, .int .i64 n, .slice q N c]] W (RetJ W n L) := by
  refine (Inverse_any n q N c L.flatten W h hn hb).mono ?_
  rintro e w' ⟨F, ⟨g, hR⟩ | ⟨cc, hc, g, hz, hR⟩⟩
  · exact .inl ⟨F, g, inv_rank_full hL hm g, hR⟩
  · exact .inr ⟨inv_rank_less hL hm hc g hz, hR⟩
end Go.Proofs.Ytofhdakggapahaa
namespace Go.Proofs.Ytofhdakggapahaa
open Go.RowKit Go.By
/-- a row without a place -/
def cutF (i : Nat) (r : List UInt8) : List UInt8 := r.take i ++ r.drop (i + 1)
theorem cutF_len {i n : Nat} {r : List UInt8} (h : r.length = n) (hi : i < n) : (cutF i r).length = n - 1 := by
  unfold cutF; rw [List.length_append, List.length_take, List.length_drop]; omega
theorem Sl_pre {α : Type} {enc : α → Value} {w : World} {b o n c k : Nat} {xs : List α} (h : Sl enc w (some ⟨b, o, none⟩) n c xs) (hk : k ≤ n) : Sl enc w (some ⟨b, o, none⟩) k c (xs.take k) :=
  ⟨by rw [List.length_take, h.len]; omega, by have := h.le; omega, h.max, (fun e => by cases e), fun j hj => by
    rw [List.length_take] at hj
    obtain ⟨b', o', e, hc⟩ := h.rs j (by omega)
    exact ⟨b', o', e, by rw [hc]; simp⟩⟩
set_option maxRecDepth 100000 in
set_option maxHeartbeats 4000000 in
theorem Without_any (n i0' : Nat) (p : Option Addr) (m c : Nat) (xss : List (List UInt8)) (w : World) (h : Sl2 w p (m + 1) c xss) (hall : ∀ x, x ∈ xss → x.length = n) (hi : i0' < n) (hn : n ≤ 4096) (hm : m ≤ 4096) :
    Calls Try.prog 66 #[.slice p (m + 1 : Nat) c, .int .i64 i0'] w fun e w' => ∃ q c', e = .returned (.slice q m c') ∧ Own2 25 5 w' w.heap.size (.slice q m c') m (xss.tail.map (cutF i0')) ∧ Below w.heap.size w w' := by
  obtain ⟨r0, hr0, hrz, hr1, hr2⟩ := info_parts info_rows
  obtain ⟨i0, hi0, hz0, hz1, hz2⟩ := info_parts info_u8
  obtain ⟨b, o, q0, m0, c0, row0, rfl, -, -, -⟩ := h.at 0 (by omega)
  have H := Lib.hid h; have HALL := Lib.hid hall; have HLEN := Lib.hid h.len
  have hmc := h.le
  have hcm := h.max
  have hw1 : IntKind.i64.wrap ((i0' : Int) + 1) = ((i0' + 1 : Nat) : Int) := by rw [show ((i0' : Int) + 1) = ((i0' + 1 : Nat) : Int) by omega]; exact Go.IntWalk.i64_in _ (by omega)
  have h1c : 1 ≤ c := by omega
  have hTL : Hid (∀ k, k < m → xss.tail[k]? = xss[k + 1]?) := fun k _ => by rw [List.getElem?_tail]
  clear h hall
  by_cases hc1 : c = 1
  · have hm0 : m = 0 := by omega
    subst hm0
    subst hc1
    go_enter Try.func66, Try.ntmps66
    go_wp2
    go_loopw [5, 12] (fun o i wr => o = .slice none 0 0 ∧ i = .int .i64 0 ∧ wr = w) (fun _ _ _ => 0)
    case atStart => exact ⟨rfl, rfl, rfl⟩
    case round =>
      obtain ⟨rfl, rfl, rfl⟩ := hrel
      go_wp2
      go_ret
      refine ⟨none, 0, rfl, ?_, Below.refl _ _⟩
      have e : xss.tail = [] := List.length_eq_zero_iff.1 (by rw [List.length_tail, HLEN.out])
      rw [e]; exact Own2.nil _ _ _ _
  · go_enter Try.func66, Try.ntmps66
    go_wp2
    go_loopw [5, 12] (fun o i wr => ∃ (k : Nat) (qo : Option Addr) (co : Nat), k ≤ m ∧ i = .int .i64 k ∧ o = .slice qo k co ∧ Hid (Own2 25 5 wr w.heap.size (.slice qo k co) k ((xss.tail.take k).map (cutF i0'))) ∧ Hid (Below w.heap.size w wr)) (fun _ i _ => m - (intOf i).toNat)
    case atStart => exact ⟨0, none, 0, Nat.zero_le _, rfl, rfl, Own2.nil _ _ _ _, Below.refl _ _⟩
    case round =>
      obtain ⟨k, qo, co, hk, rfl, rfl, hO, hB⟩ := hrel
      by_cases hlt : k < m
      · have kn : (k : Int) < (m : Int) := by omega
        obtain ⟨b', o', q, mx, cx, row, e0, hc, hs, hx⟩ := H.out.at (k + 1) (by omega)
        cases e0
        have hcw := (hB.out.cell (p := ⟨b, o + (k + 1), none⟩) (lt_of_cell hc)).trans hc
        rw [show o + (k + 1) = o + 1 + k by omega] at hcw
        have hmx : mx = n := by rw [← hs.len]; exact HALL.out row (List.mem_of_getElem? hx.out)
        subst hmx
        obtain ⟨bq, oq, x0, rfl, -, -⟩ := hs.at i0' hi
        have hcx := hs.le
        have hcm2 := hs.max
        have hstep : Hid ((xss.tail.take (k + 1)).map (cutF i0') = (xss.tail.take k).map (cutF i0') ++ [cutF i0' row]) := by
          show _ = _
          exact take_map_succ' _ (by rw [hTL.out k hlt]; exact hx.out)
        have HS := Lib.hid (hs.keep hB.out)
        by_cases hx1 : cx = i0' + 1
        · have hmx1 : mx = i0' + 1 := by omega
          subst hmx1
          subst hx1
          have HD : Hid (Sl B8 wr (some ⟨bq, oq, none⟩) 0 0 (row.drop (i0' + 1))) := by
            have e : row.drop (i0' + 1) = [] := List.drop_eq_nil_of_le (by rw [HS.out.len]; exact Nat.le_refl _)
            rw [e]
            exact ⟨rfl, Nat.le_refl _, by unfold maxLen; omega, (fun e => by cases e), Rs.nil⟩
          have HP := Lib.hid (Sl_pre (k := i0') HS.out (by omega))
          clear hc hs hx
          go_wp2_with (at_builtin; refine wpList_append_rs _ rfl _ _ 25 rfl wr.heap.size 5 i0 (.int .u8 0) 1 Try.underlying25 hi0 hz0 hz1 hz2 rfl _ 0 [] rfl (World.ownsRow_nil _ _ _ _) B8 _ _ _ (row.take i0') (fun _ _ => rfl) rfl HP.out ?c1 ?c2 ?c3 ?_)
          case c1 => unfold maxLen at hcm2 ⊢; omega
          case c2 => omega
          case c3 => exact Nat.le_refl _
          intro v5 w5 ho5 hg5
          obtain ⟨q5, c5, rfl⟩ := owns_shape ho5
          have B5 : Hid (Below wr.heap.size wr w5) := (Below.refl _ _).grown hg5 (Nat.le_refl _) (fun kk hk => by cases hk)
          have O5 : Hid (w5.ownsRow wr.heap.size 5 1 (.slice q5 i0' c5) i0' ((row.take i0').map B8)) := by show World.ownsRow _ _ _ _ _ _ _; simpa using ho5
          have HD5 := Lib.hid (HD.out.keep B5.out)
          have hwr : w.heap.size ≤ wr.heap.size := hB.out.size
          clear ho5 hg5 HD HP HS hcw
          go_wp2_with (at_builtin; refine wpList_append_rs _ rfl _ _ 25 rfl wr.heap.size 5 i0 (.int .u8 0) 1 Try.underlying25 hi0 hz0 hz1 hz2 rfl _ i0' _ rfl O5.out B8 _ _ _ (row.drop (i0' + 1)) (fun _ _ => rfl) rfl HD5.out ?c1 ?c2 ?c3 ?_)
          case c1 => unfold maxLen at hcm2 ⊢; omega
          case c2 => omega
          case c3 => exact B5.out.size
          intro v6 w6 ho6 hg6
          obtain ⟨q6, c6, rfl⟩ := owns_shape ho6
          have B6 : Hid (Below wr.heap.size w5 w6) := (Below.refl _ _).grown hg6 B5.out.size (fun kk hk => (O5.out.lt kk hk).1)
          have hsz6 : Hid (w5.heap.size ≤ w6.heap.size) := B6.out.size
          have O6 : Hid (w6.ownsRow w.heap.size 5 1 (.slice q6 (i0' + 0) c6) (i0' + 0) ((cutF i0' row).map B8)) := by
            show World.ownsRow _ _ _ _ _ _ _
            unfold cutF
            rw [List.map_append]
            exact owns_mono (by simpa using ho6) hwr
          have B36 : Below wr.heap.size wr w6 := B5.out.trans B6.out
          have OQ : Hid (Own2 25 5 w6 w.heap.size (.slice qo k co) k ((xss.tail.take k).map (cutF i0'))) := hO.out.keep B36
          have BQ : Hid (Below w.heap.size w w6) := bl hB.out B36 hB.out.size
          have bal : ∀ (W : World) (o : Obj), Below W.heap.size W (W.alloc o) := fun W o => al (Below.refl _ _) (Nat.le_refl _)
          obtain ⟨vs, oA, lA, rA⟩ := OQ.out
          have OA := Lib.hid oA; have LA := Lib.hid lA; have RA := Lib.hid rA
          have hO2 : Hid (∀ o, (w6.alloc o).ownsRow w.heap.size 25 1 (.slice qo k co) k vs) := fun o => owns_keep OA.out (bal _ _)
          have HBAL := Lib.hid bal
          have hsz := BQ.out.size
          clear ho6 hg6 B5 B6 O5 HD5 hsz6 B36 hO hB oA lA rA bal OQ
          go_wp2_with (at_builtin; refine wpList_append_own _ rfl _ _ 22 rfl w.heap.size 25 r0 (.slice none 0 0) 1 24 Try.underlying22 hr0 hrz hr1 hr2 rfl (by omega) _ k _ rfl (hO2.out _) ⟨w6.heap.size, 0, none⟩ 1 1 [.slice q6 (i0' + 0) c6] rfl rfl (one_cell' rfl) ?d2 ?d3 ?d4 ?d5 ?_)
          case d2 => intro y hy; simp at hy; subst hy; rfl
          case d3 => unfold maxLen; omega
          case d4 => omega
          case d5 => simp; omega
          intro v8 w8 ho8 hg8 _
          obtain ⟨q8, c8, rfl⟩ := owns_shape ho8
          have P8 : Hid (Own2 25 5 w8 w.heap.size (.slice q8 (k + 1) c8) (k + 1) ((xss.tail.take (k + 1)).map (cutF i0')) ∧ Below w.heap.size w w8) := by
            refine ⟨?_, (al BQ.out hsz).grown hg8 (by simp; omega) (fun kk hk => (OA.out.lt kk hk).1)⟩
            rw [hstep.out]
            exact Own2.push (by decide) LA.out (fun jj val hjj => by
              obtain ⟨xs, q, c', a, b, d⟩ := RA.out jj val hjj
              exact ⟨xs, q, c', a, b, owns_keep d (HBAL.out _ _)⟩) (hO2.out _) (owns_keep O6.out (HBAL.out _ _)) ho8 hg8
          clear ho8 hg8 hO2 OA LA RA O6 BQ hsz
          go_wp2
          go_roundw
          case rel => exact ⟨k + 1, q8, c8, by omega, by go_num, rfl, P8.out.1, P8.out.2⟩
          case measure => simp [intOf]; omega
        · have HD : Hid (Sl B8 wr (some ⟨bq, oq + (i0' + 1), none⟩) (mx - (i0' + 1)) (cx - (i0' + 1)) (row.drop (i0' + 1))) := by
            have := HS.out.mid (k := i0' + 1) (m := mx - (i0' + 1)) (by omega)
            rwa [List.take_of_length_le (by rw [List.length_drop, HS.out.len]; exact Nat.le_refl _)] at this
          have HP := Lib.hid (Sl_pre (k := i0') HS.out (by omega))
          clear hc hs hx
          go_wp2_with (at_builtin; refine wpList_append_rs _ rfl _ _ 25 rfl wr.heap.size 5 i0 (.int .u8 0) 1 Try.underlying25 hi0 hz0 hz1 hz2 rfl _ 0 [] rfl (World.ownsRow_nil _ _ _ _) B8 _ _ _ (row.take i0') (fun _ _ => rfl) rfl HP.out ?c1 ?c2 ?c3 ?_)
          case c1 => unfold maxLen at hcm2 ⊢; omega
          case c2 => omega
          case c3 => exact Nat.le_refl _
          intro v5 w5 ho5 hg5
          obtain ⟨q5, c5, rfl⟩ := owns_shape ho5
          have B5 : Hid (Below wr.heap.size wr w5) := (Below.refl _ _).grown hg5 (Nat.le_refl _) (fun kk hk => by cases hk)
          have O5 : Hid (w5.ownsRow wr.heap.size 5 1 (.slice q5 i0' c5) i0' ((row.take i0').map B8)) := by show World.ownsRow _ _ _ _ _ _ _; simpa using ho5
          have HD5 := Lib.hid (HD.out.keep B5.out)
          have hwr : w.heap.size ≤ wr.heap.size := hB.out.size
          clear ho5 hg5 HD HP HS hcw
          go_wp2_with (at_builtin; refine wpList_append_rs _ rfl _ _ 25 rfl wr.heap.size 5 i0 (.int .u8 0) 1 Try.underlying25 hi0 hz0 hz1 hz2 rfl _ i0' _ rfl O5.out B8 _ _ _ (row.drop (i0' + 1)) (fun _ _ => rfl) rfl HD5.out ?c1 ?c2 ?c3 ?_)
          case c1 => unfold maxLen at hcm2 ⊢; omega
          case c2 => omega
          case c3 => exact B5.out.size
          intro v6 w6 ho6 hg6
          obtain ⟨q6, c6, rfl⟩ := owns_shape ho6
          have B6 : Hid (Below wr.heap.size w5 w6) := (Below.refl _ _).grown hg6 B5.out.size (fun kk hk => (O5.out.lt kk hk).1)
          have hsz6 : Hid (w5.heap.size ≤ w6.heap.size) := B6.out.size
          have O6 : Hid (w6.ownsRow w.heap.size 5 1 (.slice q6 (i0' + (mx - (i0' + 1))) c6) (i0' + (mx - (i0' + 1))) ((cutF i0' row).map B8)) := by
            show World.ownsRow _ _ _ _ _ _ _
            unfold cutF
            rw [List.map_append]
            exact owns_mono (by simpa using ho6) hwr
          have B36 : Below wr.heap.size wr w6 := B5.out.trans B6.out
          have OQ : Hid (Own2 25 5 w6 w.heap.size (.slice qo k co) k ((xss.tail.take k).map (cutF i0'))) := hO.out.keep B36
          have BQ : Hid (Below w.heap.size w w6) := bl hB.out B36 hB.out.size
          have bal : ∀ (W : World) (o : Obj), Below W.heap.size W (W.alloc o) := fun W o => al (Below.refl _ _) (Nat.le_refl _)
          obtain ⟨vs, oA, lA, rA⟩ := OQ.out
          have OA := Lib.hid oA; have LA := Lib.hid lA; have RA := Lib.hid rA
          have hO2 : Hid (∀ o, (w6.alloc o).ownsRow w.heap.size 25 1 (.slice qo k co) k vs) := fun o => owns_keep OA.out (bal _ _)
          have HBAL := Lib.hid bal
          have hsz := BQ.out.size
          clear ho6 hg6 B5 B6 O5 HD5 hsz6 B36 hO hB oA lA rA bal OQ
          go_wp2_with (at_builtin; refine wpList_append_own _ rfl _ _ 22 rfl w.heap.size 25 r0 (.slice none 0 0) 1 24 Try.underlying22 hr0 hrz hr1 hr2 rfl (by omega) _ k _ rfl (hO2.out _) ⟨w6.heap.size, 0, none⟩ 1 1 [.slice q6 (i0' + (mx - (i0' + 1))) c6] rfl rfl (one_cell' rfl) ?d2 ?d3 ?d4 ?d5 ?_)
          case d2 => intro y hy; simp at hy; subst hy; rfl
          case d3 => unfold maxLen; omega
          case d4 => omega
          case d5 => simp; omega
          intro v8 w8 ho8 hg8 _
          obtain ⟨q8, c8, rfl⟩ := owns_shape ho8
          have P8 : Hid (Own2 25 5 w8 w.heap.size (.slice q8 (k + 1) c8) (k + 1) ((xss.tail.take (k + 1)).map (cutF i0')) ∧ Below w.heap.size w w8) := by
            refine ⟨?_, (al BQ.out hsz).grown hg8 (by simp; omega) (fun kk hk => (OA.out.lt kk hk).1)⟩
            rw [hstep.out]
            exact Own2.push (by decide) LA.out (fun jj val hjj => by
              obtain ⟨xs, q, c', a, b, d⟩ := RA.out jj val hjj
              exact ⟨xs, q, c', a, b, owns_keep d (HBAL.out _ _)⟩) (hO2.out _) (owns_keep O6.out (HBAL.out _ _)) ho8 hg8
          clear ho8 hg8 hO2 OA LA RA O6 BQ hsz
          go_wp2
          go_roundw
          case rel => exact ⟨k + 1, q8, c8, by omega, by go_num, rfl, P8.out.1, P8.out.2⟩
          case measure => simp [intOf]; omega
      · have hkm : k = m := by omega
        have hge : (m : Int) ≤ (k : Int) := by omega
        have OF : Hid (Own2 25 5 wr w.heap.size (.slice qo m co) m (xss.tail.map (cutF i0'))) := by
          have h := hO.out
          rw [hkm, List.take_of_length_le (by rw [List.length_tail, HLEN.out]; omega)] at h; exact h
        have BF := Lib.hid hB.out
        subst hkm
        clear hO hB
        go_wp2
        go_ret
        exact ⟨qo, co, rfl, OF.out, BF.out⟩
end Go.Proofs.Ytofhdakggapahaa
namespace Go.Proofs.Ytofhdakggapahaa
open Go.RowKit Go.By Gf
/-- rows in memory, so many -/
def shpRows (n : Nat) (L : List (List UInt8)) : Shp := ⟨fun v W => ∃ q c, v = .slice q n c ∧ Sl2 W q n c L, fun _ _ _ ⟨q, c, e, h⟩ hb => ⟨q, c, e, h.keep hb⟩⟩
def detM (xss : List (List UInt8)) : Nat → V := fun i => vf (xss.getD i [])
theorem cutF_at {i c n : Nat} {r : List UInt8} (h : r.length = n + 1) (hi : i < n + 1) (hc : c < n) : vf (cutF i r) c = vf r (skip i c) := by
  unfold vf cutF skip
  rw [List.getD_eq_getElem?_getD, List.getD_eq_getElem?_getD, List.getElem?_append]
  by_cases hci : c < i
  · rw [if_pos (by rw [List.length_take]; omega), if_pos hci, List.getElem?_take, if_pos hci]
  · rw [if_neg (by rw [List.length_take]; omega), if_neg hci, List.getElem?_drop, List.length_take, h, Nat.min_eq_left (by omega)]
    congr 2; omega
theorem det_cut {n i : Nat} {xss : List (List UInt8)} (hl : xss.length = n + 1) (h : ∀ x, x ∈ xss → x.length = n + 1) (hi : i < n + 1) : det n (detM (xss.tail.map (cutF i))) = det n (minor (detM xss) i) := by
  refine det_congr fun r c hr hc => ?_
  unfold detM minor
  have hx : xss[r + 1]? = some (xss[r + 1]'(by omega)) := List.getElem?_eq_getElem (by omega)
  show vf ((xss.tail.map (cutF i)).getD r []) c = vf (xss.getD (r + 1) []) (skip i c)
  rw [List.getD_eq_getElem?_getD, List.getElem?_map, List.getElem?_tail, hx, List.getD_eq_getElem?_getD, hx]
  exact cutF_at (h _ (List.getElem_mem (by omega))) hi hc
set_option maxRecDepth 100000 in
set_option maxHeartbeats 4000000 in
theorem Det_any : ∀ (n : Nat) (p : Option Addr) (c : Nat) (xss : List (List UInt8)) (w : World), Sl2 w p n c xss → (∀ x, x ∈ xss → x.length = n) → n ≤ 6 →
    Calls Try.prog 23 #[.slice p n c] w fun e w' => e = .returned (B8 (det n (detM xss))) ∧ Below w.heap.size w w' := by
  intro n
  induction n with
  | zero =>
    intro p c xss w h hall hn
    go_enter Try.func23, Try.ntmps23
    go_wp2
    go_ret
    exact ⟨rfl, Below.refl _ _⟩
  | succ n ih =>
    intro p c xss w h hall hn
    obtain ⟨b, o, q, mx, cx, row, rfl, hc0, hs0, hx0⟩ := h.at 0 (by omega)
    obtain rfl : mx = n + 1 := by rw [← hs0.len]; exact hall row (List.mem_of_getElem? hx0.out)
    have H := Lib.hid h; have HALL := Lib.hid hall; have HLEN := Lib.hid h.len; have HS0 := Lib.hid hs0; have HC0 := Lib.hid hc0
    have hrow : Hid (∀ k, vf row k = detM xss 0 k) := fun k => by
      have := hx0.out
      unfold detM
      rw [List.getD_eq_getElem?_getD, this]; rfl
    have HIH := Lib.hid ih
    clear h hall hs0 hc0 hx0 ih
    go_enter Try.func23, Try.ntmps23
    go_wp2
    go_loopw [3, 10] (fun s i wr => ∃ k : Nat, k ≤ n + 1 ∧ i = .int .i64 k ∧ s = B8 (sumN k (fun i => gmul (detM xss 0 i) (det n (minor (detM xss) i)))) ∧ Hid (Below w.heap.size w wr)) (fun _ i _ => n + 1 - (intOf i).toNat)
    case atStart => exact ⟨0, Nat.zero_le _, rfl, rfl, Below.refl _ _⟩
    case round =>
      obtain ⟨k, hk, rfl, rfl, hB⟩ := hrel
      by_cases hlt : k < n + 1
      · have kn : (k : Int) < ((n + 1 : Nat) : Int) := by omega
        have kn' : (k : Int) < (n : Int) + 1 := by omega
        obtain ⟨bq, oq, x, rfl, hcx, hxx⟩ := HS0.out.at k hlt
        have hx : x = detM xss 0 k := by rw [← hrow.out k]; unfold vf; rw [List.getD_eq_getElem?_getD, hxx.out]; rfl
        obtain ⟨S, hS⟩ : ∃ S, S = sumN k (fun i => gmul (detM xss 0 i) (det n (minor (detM xss) i))) := ⟨_, rfl⟩
        obtain ⟨D, hD⟩ : ∃ D, D = det n (detM (xss.tail.map (cutF k))) := ⟨_, rfl⟩
        have hnext : Hid (sumN (k + 1) (fun i => gmul (detM xss 0 i) (det n (minor (detM xss) i))) = S ^^^ gmul x D) := by
          show _ = _
          rw [hS, hD, hx, det_cut HLEN.out HALL.out hlt]; rfl
        have bx0 := bits_xor S (gmul x D)
        rw [← hS]
        have cr := (hB.out.cell (p := ⟨b, o, none⟩) (lt_of_cell HC0.out)).trans HC0.out
        have cx' := (hB.out.cell (p := ⟨bq, oq + k, none⟩) (lt_of_cell hcx)).trans hcx
        have HW : Hid (∀ W, Sl2 W (some ⟨b, o, none⟩) (n + 1) c xss → Calls Try.prog 66 #[.slice (some ⟨b, o, none⟩) (n + 1) c, .int .i64 k] W fun e w' => ∃ q c', e = .returned (.slice q n c') ∧ Own2 25 5 w' W.heap.size (.slice q n c') n (xss.tail.map (cutF k)) ∧ Below W.heap.size W w') := fun W h => Without_any (n + 1) k (some ⟨b, o, none⟩) n c xss W h HALL.out hlt (by omega) (by omega)
        have HDET : Hid (∀ W q c', Sl2 W q n c' (xss.tail.map (cutF k)) → Calls Try.prog 23 #[.slice q n c'] W fun e w' => e = .returned (B8 D) ∧ Below W.heap.size W w') := fun W q c' h => by
          rw [hD]
          refine HIH.out q c' _ W h (fun y hy => ?_) (by omega)
          obtain ⟨r, hr, rfl⟩ := List.mem_map.1 hy
          exact cutF_len (HALL.out r (List.mem_of_mem_tail hr)) hlt
        clear hS hD hx hcx hxx
        go_wp2
        refine wp_region_shapes (fun ix => ([.val (B8 S), .val (.slice (some ⟨b, o, none⟩) (n + 1) c), .val (.pointer (some ⟨b, o, none⟩)), .val (.slice (some ⟨bq, oq, none⟩) (n + 1) cx), .val (.int .i64 k), .val (.pointer (some ⟨bq, oq + k, none⟩)), .val (B8 x), .val (.slice (some ⟨b, o, none⟩) (n + 1) c), .val (.int .i64 k), (shpRows n (xss.tail.map (cutF k))), .val (B8 D), .val (B8 (gmul x D)), .val (B8 (S ^^^ gmul x D)), .val (B8 (S ^^^ gmul x D))][ix]?).getD (.any)) 28 rfl (by kernel_rfl) (by decide) (by decide) (by decide) ?_ ?_
        · refine ⟨?_, ?_, ?_, ?_, ?_, ?_, ?_, ?_, ?_, ?_, ?_, ?_, ?_, ?_, trivial⟩
          · intro a W hb0 hs hp hi; have hb := undrew hb0; clear hb0
            have t3 : sl a 3 = B8 S := hi 3 (by decide)
            exact ite_y rfl (wp_val (sl a 3) rfl ⟨_, rfl, Below.refl _ _, t3⟩)
          · intro a W hb0 hs hp hi; have hb := undrew hb0; clear hb0
            have t0 : sl a 0 = .slice (some ⟨b, o, none⟩) (n + 1) c := hi 0 (by decide)
            exact ite_y rfl (wp_val (sl a 0) rfl ⟨_, rfl, Below.refl _ _, t0⟩)
          · intro a W hb0 hs hp hi; have hb := undrew hb0; clear hb0
            have t14 : sl a 14 = .slice (some ⟨b, o, none⟩) (n + 1) c := hp 1 (by decide)
            refine ite_y rfl (wp_val (.pointer (some ⟨b, o, none⟩)) ?_ ?_)
            · simp only [execOp, eval_tmp, eval_const, t14]; simp [go_sem]
            · exact ⟨_, rfl, Below.refl _ _, rfl⟩
          · intro a W hb0 hs hp hi; have hb := undrew hb0; clear hb0
            have tt : sl a 15 = .pointer (some ⟨b, o, none⟩) := hp 2 (by decide)
            have dd0 := (hb.cell (p := ⟨b, o, none⟩) (lt_of_cell cr)).trans cr
            refine ite_y rfl (wp_val (.slice (some ⟨bq, oq, none⟩) (n + 1) cx) ?_ ?_)
            · simp only [execOp, eval_tmp, tt]; simp [go_sem, dd0]
            · exact ⟨_, rfl, Below.refl _ _, rfl⟩
          · intro a W hb0 hs hp hi; have hb := undrew hb0; clear hb0
            have t4 : sl a 4 = .int .i64 k := hi 4 (by decide)
            exact ite_y rfl (wp_val (sl a 4) rfl ⟨_, rfl, Below.refl _ _, t4⟩)
          · intro a W hb0 hs hp hi; have hb := undrew hb0; clear hb0
            have t16 : sl a 16 = .slice (some ⟨bq, oq, none⟩) (n + 1) cx := hp 3 (by decide)
            have t17 : sl a 17 = .int .i64 k := hp 4 (by decide)
            refine ite_y rfl (wp_val (.pointer (some ⟨bq, oq + k, none⟩)) ?_ ?_)
            · simp only [execOp, eval_tmp, eval_const, t16, t17]; simp [go_sem, kn, kn', hlt]
            · exact ⟨_, rfl, Below.refl _ _, rfl⟩
          · intro a W hb0 hs hp hi; have hb := undrew hb0; clear hb0
            have tt : sl a 18 = .pointer (some ⟨bq, oq + k, none⟩) := hp 5 (by decide)
            have dd0 := (hb.cell (p := ⟨bq, oq + k, none⟩) (lt_of_cell cx')).trans cx'
            refine ite_y rfl (wp_val (B8 x) ?_ ?_)
            · simp only [execOp, eval_tmp, tt]; simp [go_sem, dd0]
            · exact ⟨_, rfl, Below.refl _ _, rfl⟩
          · intro a W hb0 hs hp hi; have hb := undrew hb0; clear hb0
            have t0 : sl a 0 = .slice (some ⟨b, o, none⟩) (n + 1) c := hi 0 (by decide)
            exact ite_y rfl (wp_val (sl a 0) rfl ⟨_, rfl, Below.refl _ _, t0⟩)
          · intro a W hb0 hs hp hi; have hb := undrew hb0; clear hb0
            have t4 : sl a 4 = .int .i64 k := hi 4 (by decide)
            exact ite_y rfl (wp_val (sl a 4) rfl ⟨_, rfl, Below.refl _ _, t4⟩)
          · intro a W hb0 hs hp hi; have hb := undrew hb0; clear hb0
            have t20 : sl a 20 = .slice (some ⟨b, o, none⟩) (n + 1) c := hp 7 (by decide)
            have t21 : sl a 21 = .int .i64 k := hp 8 (by decide)
            refine ite_y rfl (wp_enter 66 #[.slice (some ⟨b, o, none⟩) (n + 1) c, .int .i64 k] ?_ (HW.out W (H.out.keep (bl hB.out hb hB.out.size))) ?_)
            · simp only [execOp, resolve, List.map_toArray, List.map, eval_tmp, eval_func, eval_const, t20, t21]; simp [go_sem]
            · rintro e W' ⟨q', c', rfl, ho, hw⟩; exact ⟨_, rfl, _, rfl, hw, q', c', rfl, ho.sl2⟩
          · intro a W hb0 hs hp hi; have hb := undrew hb0; clear hb0
            obtain ⟨q2, c2, tt, z2⟩ : ∃ q2 c2, sl a 22 = .slice q2 n c2 ∧ Sl2 W q2 n c2 (xss.tail.map (cutF k)) := hp 9 (by decide)
            refine ite_y rfl (wp_enter 23 #[.slice q2 n c2] ?_ (HDET.out W q2 c2 z2) ?_)
            · simp only [execOp, resolve, List.map_toArray, List.map, eval_tmp, eval_func, eval_const, tt]; simp [go_sem]
            · rintro e W' ⟨rfl, hw⟩; exact ⟨_, rfl, _, rfl, hw, rfl⟩
          · intro a W hb0 hs hp hi; have hb := undrew hb0; clear hb0
            have t19 : sl a 19 = B8 x := hp 6 (by decide)
            have t23 : sl a 23 = B8 D := hp 10 (by decide)
            refine ite_y rfl (wp_enter 65 #[B8 x, B8 D] ?_ (RefMul_any x D W) ?_)
            · simp only [execOp, resolve, List.map_toArray, List.map, eval_tmp, eval_func, eval_const, t19, t23]; simp [go_sem]
            · rintro e W' ⟨rfl, rfl⟩; exact ⟨_, rfl, _, rfl, Below.refl _ _, rfl⟩
          · intro a W hb0 hs hp hi; have hb := undrew hb0; clear hb0
            have t13 : sl a 13 = B8 S := hp 0 (by decide)
            have t24 : sl a 24 = B8 (gmul x D) := hp 11 (by decide)
            refine ite_y rfl (wp_val (B8 (S ^^^ gmul x D)) ?_ ?_)
            · simp only [execOp, eval_tmp, eval_const, t13, t24]; simp [go_sem, bx0]
            · exact ⟨_, rfl, Below.refl _ _, rfl⟩
          · intro a W hb0 hs hp hi; have hb := undrew hb0; clear hb0
            have t25 : sl a 25 = B8 (S ^^^ gmul x D) := hp 12 (by decide)
            exact ite_y rfl (wp_val (sl a 25) rfl ⟨_, rfl, Below.refl _ _, t25⟩)
        · intro a w9 hb hs hd hI ht
          have ha := act_is [13, 14, 15, 16, 17, 18, 19, 20, 21, 22, 23, 24, 25, 3] hs hd ht (by decide)
          have t3 : sl a 3 = B8 (S ^^^ gmul x D) := hI 13 (by decide)
          simp only [List.foldl, t3] at ha
          generalize sl a 13 = u13 at ha
          generalize sl a 14 = u14 at ha
          generalize sl a 15 = u15 at ha
          generalize sl a 16 = u16 at ha
          generalize sl a 17 = u17 at ha
          generalize sl a 18 = u18 at ha
          generalize sl a 19 = u19 at ha
          generalize sl a 20 = u20 at ha
          generalize sl a 21 = u21 at ha
          generalize sl a 22 = u22 at ha
          generalize sl a 23 = u23 at ha
          generalize sl a 24 = u24 at ha
          generalize sl a 25 = u25 at ha
          simp only [Act.put, List.setIfInBounds_toArray, List.set_cons_zero, List.set_cons_succ] at ha
          rw [ha]; clear ha
          have B9 := Lib.hid (bl hB.out hb hB.out.size)
          have E9 := Lib.hid hnext.out
          clear hI ht hb hB hnext cr cx' HW HDET
          go_wp2
          go_roundw
          case rel => exact ⟨k + 1, by omega, by go_num, by rw [E9.out], B9.out⟩
          case measure => simp [intOf]; omega
      · have hkn : k = n + 1 := by omega
        have hge : ((n + 1 : Nat) : Int) ≤ (k : Int) := by omega
        have hge' : (n : Int) + 1 ≤ (k : Int) := by omega
        subst hkn
        have BF := Lib.hid hB.out
        clear hB
        go_wp2
        go_ret
        exact ⟨rfl, BF.out⟩
end Go.Proofs.Ytofhdakggapahaa
namespace Go.Proofs.Ytofhdakggapahaa
open Go.RowKit Go.By Gf
theorem rows_wide {n : Nat} {L : List (List UInt8)} (h : ∀ x, x ∈ L → x.length = n) : ∀ v, v ∈ L.map vf → Wide n v := fun v hv => by
  obtain ⟨x, hx, rfl⟩ := List.mem_map.1 hv
  have := vf_wide x
  rw [h x hx] at this; exact this
theorem rank_high {m : Nat} {L : List (List UInt8)} (hm : L.length = m) : (iK L).length ≤ m := by
  have := iK_len L m
  rwa [List.take_of_length_le (by omega)] at this
theorem rank_wide {wd : Nat} {L : List (List UInt8)} (h : ∀ x, x ∈ L → x.length = wd) : (iK L).length ≤ wd := (ins_rank L h).le_width (rows_wide h)
theorem rank_turn {wd m : Nat} {L : List (List UInt8)} (h : ∀ x, x ∈ L → x.length = wd) (hm : L.length = m) : (iK (turnX wd L)).length = (iK L).length := by
  have h2 := ins_rank (turnX wd L) (turnX_len hm)
  rw [turnX_cols hm] at h2
  exact (cols_rank (rows_wide h) (ins_rank L h) h2).symm
theorem turn_turn {wd m : Nat} {L : List (List UInt8)} (h : ∀ x, x ∈ L → x.length = wd) (hm : L.length = m) : (turnX m (turnX wd L)).flatten = L.flatten := by
  rcases Nat.eq_zero_or_pos wd with h0 | h0
  · subst h0
    have e1 : L.flatten = [] := List.length_eq_zero_iff.1 (by rw [flat_len h, Nat.mul_zero])
    have e2 : (turnX m (turnX 0 L)).flatten = [] := List.length_eq_zero_iff.1 (by rw [flat_len (wd := 0) (turnX_len (turnX_length 0 L)), Nat.mul_zero])
    rw [e1, e2]
  · congr 1
    apply List.ext_getElem?
    intro i
    by_cases hi : i < m
    · have hx : L[i]? = some (L[i]'(by omega)) := List.getElem?_eq_getElem (by omega)
      have hl := h _ (List.getElem_mem (l := L) (n := i) (by omega))
      rw [hx]
      have e : (turnX m (turnX wd L))[i]? = some ((turnX wd L).map fun row => row.getD i 0) := by
        unfold turnX; rw [List.getElem?_map, List.getElem?_range hi]; rfl
      rw [e]
      congr 1
      unfold turnX
      rw [List.map_map]
      apply List.ext_getElem?
      intro j
      by_cases hj : j < wd
      · rw [List.getElem?_map, List.getElem?_range hj, List.getElem?_eq_getElem (by omega)]
        show some ((L.map fun row => row.getD j 0).getD i 0) = _
        rw [List.getD_eq_getElem?_getD, List.getElem?_map, hx]
        show some ((L[i]'(by omega)).getD j 0) = _
        rw [List.getD_eq_getElem?_getD, List.getElem?_eq_getElem (by omega)]; rfl
      · rw [List.getElem?_eq_none (by simpa using hj), List.getElem?_eq_none (by omega)]
    · rw [List.getElem?_eq_none (by rw [turnX_length]; omega), List.getElem?_eq_none (by omega)]
theorem rank_mul {k v : Nat} {L K : List (List UInt8)} (hL : ∀ x, x ∈ L → x.length = k) (hK : ∀ x, x ∈ K → x.length = v) (hk : K.length = k) : (iK (L.map (mulR v K))).length ≤ (iK L).length ∧ (iK (L.map (mulR v K))).length ≤ (iK K).length := by
  have h := ins_rank (L.map (mulR v K)) (mul_wide hK)
  rw [mul_vf hL hK hk] at h
  exact ⟨rank_mul_left h (ins_rank L hL), rank_mul_right (by simp [hk]) h (ins_rank K hK)⟩
/-- a column more, where all rows are independent -/
theorem GJ.more {n c : Nat} {G : List V} {F : Nat → Rw} (h : GJ n G F c) (hc : c < n) (hr : Rk G n) : ∃ F', GJ n G F' (c + 1) := by
  by_cases hz : ∀ i, c ≤ i → i < n → vf (F i).1 c = 0
  · exact absurd (h.fail hc hz hr) (Nat.lt_irrefl n)
  · have : ∃ i, c ≤ i ∧ i < n ∧ vf (F i).1 c ≠ 0 := by
      apply Classical.byContradiction
      intro hne
      exact hz fun i h1 h2 => Classical.byContradiction fun h3 => hne ⟨i, h1, h2, h3⟩
    obtain ⟨i, h1, h2, h3⟩ := this
    have hs := h.swap hc h2 h1
    have hn := hs.norm hc (by rw [swF_at]; exact h3)
    have hm : ∀ k, k ≤ n → ∃ F', GJm n G F' c k := by
      intro k
      induction k with
      | zero => intro _; exact ⟨_, hn⟩
      | succ k ih =>
        intro hk
        obtain ⟨F', hF⟩ := ih (by omega)
        by_cases e : k = c
        · subst e; exact ⟨F', hF.skip⟩
        · exact ⟨_, hF.step hc (by omega) e⟩
    obtain ⟨F', hF⟩ := hm n (Nat.le_refl _)
    exact ⟨F', hF.done⟩
theorem GJ.all {n : Nat} {L : List (List UInt8)} (h : ∀ x, x ∈ L → x.length = n) (hm : L.length = n) (hr : (iK L).length = n) : ∃ F, GJ n (L.map vf) F n := by
  have h0 : GJ n (L.map vf) (fillF n L.flatten n) 0 := by
    have := fill_init n L.flatten (by rw [flat_len h, hm])
    rwa [sq_rows h hm] at this
  have hR : Rk (L.map vf) n := by have := ins_rank L h; rwa [show (L.foldl (fun K r => insF K (r, [])) []).length = n from hr] at this
  have : ∀ c, c ≤ n → ∃ F, GJ n (L.map vf) F c := by
    intro c
    induction c with
    | zero => intro _; exact ⟨_, h0⟩
    | succ c ih => intro hc; obtain ⟨F, hF⟩ := ih (by omega); exact hF.more (by omega) hR
  exact this n (Nat.le_refl _)
theorem detM_eq {n : Nat} {L : List (List UInt8)} (hm : L.length = n) : det n (detM L) = det n (fun i => (L.map vf).getD i fun _ => 0) := by
  refine det_congr fun r c hr hc => ?_
  have hx : L[r]? = some (L[r]'(by omega)) := List.getElem?_eq_getElem (by omega)
  show vf (L.getD r []) c = ((L.map vf).getD r fun _ => 0) c
  rw [List.getD_eq_getElem?_getD, List.getD_eq_getElem?_getD, List.getElem?_map, hx]; rfl
/-- the rank is full just where the determinant isn't 0 -/
theorem det_rank {n : Nat} {L : List (List UInt8)} (h : ∀ x, x ∈ L → x.length = n) (hm : L.length = n) : (iK L).length = n ↔ det n (detM L) ≠ 0 := by
  constructor
  · intro hr
    obtain ⟨F, hF⟩ := GJ.all h hm hr
    rw [detM_eq hm]; exact hF.det
  · intro hd
    have hI : Ind (L.map vf) := by
      apply Classical.byContradiction
      intro hni
      exact hd (by rw [detM_eq hm]; exact det_not_ind (by simp [hm]) hni)
    have h1 := ins_rank L h
    have h2 : Rk (L.map vf) n := ⟨L.map vf, hI, by simp [hm], fun b hb => Sp.mem hb, fun b hb => Sp.mem hb⟩
    exact h1.unique h2
/-- the inverse's inverse -/
theorem inv_back {n : Nat} {L : List (List UInt8)} {F E : Nat → Rw} (h : ∀ x, x ∈ L → x.length = n) (hm : L.length = n) (g : GJ n (sqR n L.flatten) F n) (e : GJ n (sqR n (rowsD n F).flatten) E n) : (rowsD n E).flatten = L.flatten := by
  congr 1
  have hD := rowsD_wide g
  have hE := rowsD_wide e
  have hu := vrow_units h hm g
  have hv := vrow_units hD (rowsD_len n F) e
  apply List.ext_getElem?
  intro i
  by_cases hi : i < n
  · have x1 : L[i]? = some (L[i]'(by omega)) := List.getElem?_eq_getElem (by omega)
    have x2 : (rowsD n E)[i]? = some ((rowsD n E)[i]'(by rw [rowsD_len]; exact hi)) := List.getElem?_eq_getElem (by rw [rowsD_len]; exact hi)
    rw [x1, x2]
    congr 1
    have l1 := h _ (List.getElem_mem (l := L) (n := i) (by omega))
    have l2 := hE _ (List.getElem_mem (l := rowsD n E) (n := i) (by rw [rowsD_len]; exact hi))
    have k := congrArg (fun l => l[i]?) hv
    simp only [List.getElem?_map, x2, Option.map_some, units, List.getElem?_range hi] at k
    injection k with k
    have w := vf_wide ((rowsD n E)[i]'(by rw [rowsD_len]; exact hi))
    rw [l2] at w
    have := inv_row (D := (rowsD n F).map vf) (G := L.map vf) (n := n) (i := i) (b := vf (L[i]'(by omega))) (by simp [hm]) (by simp [rowsD]) hu w (by rw [List.getElem?_map, x1]; rfl) k
    exact vf_inj (by rw [l1, l2]) (fun j _ => by rw [this])
  · rw [List.getElem?_eq_none (by rw [rowsD_len]; omega), List.getElem?_eq_none (by omega)]
theorem inv_full {n : Nat} {L : List (List UInt8)} {F : Nat → Rw} (h : ∀ x, x ∈ L → x.length = n) (hm : L.length = n) (g : GJ n (sqR n L.flatten) F n) : (iK (rowsD n F)).length = n := by
  have hD := rowsD_wide g
  have hI : Ind ((rowsD n F).map vf) := inv_ind (G := L.map vf) (by simp [rowsD]) (vrow_units h hm g)
  exact (ins_rank (rowsD n F) hD).unique ⟨(rowsD n F).map vf, hI, by simp [rowsD], fun b hb => Sp.mem hb, fun b hb => Sp.mem hb⟩
end Go.Proofs.Ytofhdakggapahaa
namespace Go.Proofs.Ytofhdakggapahaa
open Go.RowKit Go.By Gf
/-- the bytes behind the first k are those that the symbols give -/
def ConsV (k : Nat) (B : List V) (v : V) : Prop := ∀ j, v (k + j) = mulV k B v j
theorem mulV_congr {n : Nat} {B : List V} {u v : V} (h : ∀ i, i < n → u i = v i) : mulV n B u = mulV n B v := by
  unfold mulV
  have : (List.range n).map u = (List.range n).map v := List.map_congr_left fun i hi => h i (List.mem_range.1 hi)
  rw [this]
theorem mulV_nought (n : Nat) (B : List V) : mulV n B (fun _ => 0) = fun _ => 0 := lin_zero (mulV_scale n B)
theorem cons_zero (k : Nat) (B : List V) : ConsV k B (fun _ => 0) := fun j => by rw [mulV_nought]
theorem cons_add {k : Nat} {B : List V} {u v : V} (h : ConsV k B u) (g : ConsV k B v) : ConsV k B (fun j => u j ^^^ v j) := fun j => by
  rw [mulV_add]; show u (k + j) ^^^ v (k + j) = _; rw [h j, g j]
theorem cons_scale {k : Nat} {B : List V} {v : V} (x : UInt8) (h : ConsV k B v) : ConsV k B (fun j => gmul x (v j)) := fun j => by
  rw [mulV_scale]; show gmul x (v (k + j)) = _; rw [h j]
theorem cons_comb {k : Nat} {B : List V} : ∀ (c : List UInt8) (A : List V), (∀ a, a ∈ A → ConsV k B a) → ConsV k B (comb c A)
  | [], A, _ => by
    have : comb [] A = fun _ => 0 := by funext j; exact comb_nil' A j
    rw [this]; exact cons_zero k B
  | c :: cs, [], _ => by
    have : comb (c :: cs) [] = fun _ => 0 := by funext j; exact comb_nil _ j
    rw [this]; exact cons_zero k B
  | c :: cs, a :: A, h => by
    have : comb (c :: cs) (a :: A) = fun j => (fun j => gmul c (a j)) j ^^^ comb cs A j := by funext j; exact comb_cons c cs a A j
    rw [this]
    exact cons_add (cons_scale c (h a (by simp))) (cons_comb cs A fun b hb => h b (by simp [hb]))
theorem cons_sp {k : Nat} {B A : List V} {v : V} (h : ∀ a, a ∈ A → ConsV k B a) (hs : Sp A v) : ConsV k B v := by
  obtain ⟨c, _, rfl⟩ := hs; exact cons_comb c A h
/-- a row and what the symbols give of it -/
def rowC (n : Nat) (FX : List (List UInt8)) (w : List UInt8) : Rw := (w, mulR n FX w)
theorem rowC_fit {k n : Nat} {FX : List (List UInt8)} {w : List UInt8} (hF : ∀ x, x ∈ FX → x.length = n) (hw : w.length = k) : Fit k n (rowC n FX w) := ⟨hw, mulR_len hF w⟩
theorem vR_right {k n j : Nat} {r : Rw} (hf : Fit k n r) : vR r (k + j) = vf r.2 j := by
  unfold vR vf cat
  rw [List.getD_eq_getElem?_getD, List.getElem?_append_right (by rw [hf.1]; omega), hf.1, Nat.add_sub_cancel_left, List.getD_eq_getElem?_getD]
theorem vR_left {k n j : Nat} {r : Rw} (hf : Fit k n r) (hj : j < k) : vR r j = vf r.1 j := vf_app_left (by rw [hf.1]; exact hj)
theorem rowC_cons {k n : Nat} {FX : List (List UInt8)} {w : List UInt8} (hF : ∀ x, x ∈ FX → x.length = n) (hk : FX.length = k) (hw : w.length = k) : ConsV k (FX.map vf) (vR (rowC n FX w)) := fun j => by
  have hf := rowC_fit hF hw
  rw [vR_right hf]
  show vf (mulR n FX w) j = _
  rw [vf_mul hF (by rw [hw, hk]), hk]
  exact congrFun (mulV_congr fun i hi => (vR_left hf hi).symm) j
/-- what is left of a row that holds: it holds; without a first byte nothing is left -/
theorem rest_cons {k n : Nat} {B : List V} {K : List Rw} {x : Rw} (h : KeptS k n K) (hx : Fit k n x) (hK : ∀ r, r ∈ K → ConsV k B (vR r)) (hc : ConsV k B (vR x)) : ConsV k B (vR (restF K x)) := by
  have rK : vR (restF K x) = red (tri K) (vR x) := rest_red h.rows hx
  have s := red_span (tri K) (vR x)
  rw [tri_fst] at s
  have e : vR (restF K x) = fun j => vR x j ^^^ (vR x j ^^^ red (tri K) (vR x) j) := by
    funext j; rw [rK, ← xor_assoc, xor_self, zero_xor]
  rw [e]
  exact cons_add hc (cons_sp (fun a ha => by obtain ⟨r, hr, rfl⟩ := List.mem_map.1 ha; exact hK r hr) s)
theorem rest_nought {k n : Nat} {B : List V} {K : List Rw} {x : Rw} (h : KeptS k n K) (hx : Fit k n x) (hK : ∀ r, r ∈ K → ConsV k B (vR r)) (hc : ConsV k B (vR x)) (hl : leadS (restF K x).1 < 0) : (∀ j, vR (restF K x) j = 0) ∧ Sp (K.map vR) (vR x) := by
  have hf := hx.rest (fun r hr => (h.rows r hr).1)
  have h0 := vf_zero (leadS_neg hl)
  have hz : ∀ j, vR (restF K x) j = 0 := fun j => by
    by_cases hj : j < k
    · rw [vR_left hf hj]; exact h0 j
    · have h1 := rest_cons h hx hK hc (j - k)
      rw [show k + (j - k) = j by omega] at h1
      rw [h1, mulV_congr (v := fun _ => 0) (fun i hi => by rw [vR_left hf hi]; exact h0 i), mulV_nought]
  refine ⟨hz, ?_⟩
  have rK : vR (restF K x) = red (tri K) (vR x) := rest_red h.rows hx
  have s := red_span (tri K) (vR x)
  rw [tri_fst] at s
  have e : vR x = fun j => vR x j ^^^ red (tri K) (vR x) j := by
    funext j; rw [← rK, hz j, xor_zero]
  rw [e]; exact s
/-- the rows kept span those that came -/
structure Spn (k n : Nat) (B : List V) (X K0 : List Rw) : Prop where
  kept : KeptS k n K0
  fit : ∀ x, x ∈ X → Fit k n x
  cons : ∀ x, x ∈ X → ConsV k B (vR x)
  le : ∀ r, r ∈ K0 → Sp (X.map vR) (vR r)
  ge : ∀ x, x ∈ X → Sp (K0.map vR) (vR x)
theorem Spn.nil (k n : Nat) (B : List V) : Spn k n B [] [] := ⟨KeptS.nil k n, fun x h => by simp at h, fun x h => by simp at h, fun x h => by simp at h, fun x h => by simp at h⟩
theorem Spn.consK {k n : Nat} {B : List V} {X K0 : List Rw} (h : Spn k n B X K0) : ∀ r, r ∈ K0 → ConsV k B (vR r) := fun r hr =>
  cons_sp (fun a ha => by obtain ⟨x, hx, rfl⟩ := List.mem_map.1 ha; exact h.cons x hx) (h.le r hr)
theorem Spn.snoc {k n : Nat} {B : List V} {X K0 : List Rw} {x : Rw} (h : Spn k n B X K0) (hx : Fit k n x) (hc : ConsV k B (vR x)) : Spn k n B (X ++ [x]) (insF K0 x) := by
  have memX : ∀ a, a ∈ X.map vR → a ∈ (X ++ [x]).map vR := fun a ha => by rw [List.map_append]; exact List.mem_append.2 (.inl ha)
  have lastX : vR x ∈ (X ++ [x]).map vR := by simp
  refine ⟨h.kept.step hx, fun y hy => ?_, fun y hy => ?_, fun r hr => ?_, fun y hy => ?_⟩
  · rcases List.mem_append.1 hy with hy | hy
    · exact h.fit y hy
    · rw [List.mem_singleton] at hy; rw [hy]; exact hx
  · rcases List.mem_append.1 hy with hy | hy
    · exact h.cons y hy
    · rw [List.mem_singleton] at hy; rw [hy]; exact hc
  · by_cases hl : leadS (restF K0 x).1 < 0
    · have e : insF K0 x = K0 := by unfold insF; rw [norm_leadS, if_pos hl]
      rw [e] at hr
      exact Sp.sub memX (h.le r hr)
    · refine Sp.trans (fun a ha => ?_) ((insF_span h.kept hx hl).1 r hr)
      rcases List.mem_cons.1 ha with rfl | ha
      · exact Sp.mem lastX
      · obtain ⟨q, hq, rfl⟩ := List.mem_map.1 ha
        exact Sp.sub memX (h.le q hq)
  · by_cases hl : leadS (restF K0 x).1 < 0
    · have e : insF K0 x = K0 := by unfold insF; rw [norm_leadS, if_pos hl]
      rw [e]
      rcases List.mem_append.1 hy with hy | hy
      · exact h.ge y hy
      · rw [List.mem_singleton] at hy; rw [hy]; exact (rest_nought h.kept hx h.consK hc hl).2
    · obtain ⟨i1, i2, i3⟩ := insF_span h.kept hx hl
      rcases List.mem_append.1 hy with hy | hy
      · refine Sp.trans (fun a ha => ?_) (h.ge y hy)
        obtain ⟨q, hq, rfl⟩ := List.mem_map.1 ha
        exact i2 q hq
      · rw [List.mem_singleton] at hy; rw [hy]; exact i3
theorem Spn.all {k n : Nat} {B : List V} : ∀ (Y : List Rw) {X K0 : List Rw}, Spn k n B X K0 → (∀ x, x ∈ Y → Fit k n x ∧ ConsV k B (vR x)) → Spn k n B (X ++ Y) (Y.foldl insF K0)
  | [], X, K0, h, _ => by rw [List.append_nil]; exact h
  | y :: Y, X, K0, h, hy => by
    have := Spn.all Y (h.snoc (hy y (by simp)).1 (hy y (by simp)).2) (fun x hx => hy x (by simp [hx]))
    rw [List.append_assoc] at this
    exact this
theorem spn_kD {k n : Nat} {B : List V} {Y : List Rw} (h : ∀ x, x ∈ Y → Fit k n x ∧ ConsV k B (vR x)) : Spn k n B Y (kD Y) := by
  have := Spn.all Y (Spn.nil k n B) h
  rwa [List.nil_append] at this
/-- a system of all that came, also of what added nothing -/
theorem Sys.putX {k n : Nat} {D K : List Rw} {x : Rw} (h : Sys k n (kD D) K) (hx : Fit k n x) : Sys k n (kD (D ++ [x])) (Go.Proofs.Ytofhdakggapahaa.putK K x) := by
  rw [kD_snoc]
  unfold Go.Proofs.Ytofhdakggapahaa.putK
  by_cases hn : leadS (restF K x).1 < 0
  · have e : insF (kD D) x = kD D := by unfold insF; rw [norm_leadS, h.rest hx, if_pos hn]
    rw [if_pos hn, e]; exact h
  · rw [if_neg hn]; exact h.put hx hn
/-- in whatever order they came: the same rows -/
theorem sys_same {k n : Nat} {B : List V} {X Y K M : List Rw} (h : Sys k n (kD X) K) (g : Sys k n (kD Y) M) (hX : ∀ x, x ∈ X → Fit k n x ∧ ConsV k B (vR x)) (hY : ∀ x, x ∈ Y → Fit k n x ∧ ConsV k B (vR x)) (hm : ∀ x, x ∈ X ↔ x ∈ Y) : K = M := by
  have sX := spn_kD hX; have sY := spn_kD hY
  have one : ∀ {X Y K M : List Rw}, Sys k n (kD X) K → Sys k n (kD Y) M → Spn k n B X (kD X) → Spn k n B Y (kD Y) → (∀ x, x ∈ X → x ∈ Y) → ∀ r, r ∈ K → Sp (M.map vR) (vR r) := by
    intro X Y K M h g sX sY hm r hr
    obtain ⟨-, r2, -, -⟩ := redL_red h.kept
    obtain ⟨-, -, r3, -⟩ := redL_red g.kept
    rw [← h.same] at r2
    rw [← g.same] at r3
    refine Sp.trans (fun a ha => ?_) (r2 r hr)
    obtain ⟨q, hq, rfl⟩ := List.mem_map.1 ha
    refine Sp.trans (fun a ha => ?_) (sX.le q hq)
    obtain ⟨x, hx, rfl⟩ := List.mem_map.1 ha
    refine Sp.trans (fun a ha => ?_) (sY.ge x (hm x hx))
    obtain ⟨p, hp, rfl⟩ := List.mem_map.1 ha
    exact r3 p hp
  exact h.red.unique g.red (one h g sX sY fun x hx => (hm x).1 hx) (one g h sY sX fun x hx => (hm x).2 hx)
/-- equations that hold never clash -/
theorem sys_code {k n : Nat} {B : List V} {X K : List Rw} {x : Rw} (h : Sys k n (kD X) K) (hX : ∀ y, y ∈ X → Fit k n y ∧ ConsV k B (vR y)) (hx : Fit k n x) (hc : ConsV k B (vR x)) (hl : leadS (restF K x).1 < 0) : zeroS (restF K x).2 = true := by
  have s := spn_kD hX
  have e := h.rest hx
  rw [← e] at hl ⊢
  have hz := (rest_nought h.kept hx s.consK hc hl).1
  have hf := hx.rest (fun r hr => (h.kept.rows r hr).1)
  unfold zeroS
  rw [List.all_eq_true]
  intro b hb
  obtain ⟨j, hj, rfl⟩ := List.getElem_of_mem hb
  have h1 := hz (k + j)
  rw [vR_right hf] at h1
  unfold vf at h1
  rw [List.getD_eq_getElem?_getD, List.getElem?_eq_getElem hj] at h1
  simpa using h1
/-- rows without data -/
def prR (r : Rw) : Rw := (r.1, [])
theorem rest_pr : ∀ (K : List Rw) (x : Rw), restF (K.map prR) (prR x) = prR (restF K x)
  | [], _ => rfl
  | a :: K, x => by
    have h := rest_pr K (lessF x (atS x.1 (leadS a.1)) a)
    unfold restF at h ⊢
    rw [List.map_cons, List.foldl_cons, List.foldl_cons, ← h]
    rfl
theorem norm_pr (r : Rw) : normS (prR r) = prR (normS r) := by
  unfold normS prR
  simp only
  split <;> simp
theorem ins_pr (K : List Rw) (x : Rw) : insF (K.map prR) (prR x) = (insF K x).map prR := by
  unfold insF
  rw [rest_pr, norm_pr]
  show (if leadS (normS (restF K x)).1 < 0 then _ else _) = _
  by_cases hl : leadS (normS (restF K x)).1 < 0
  · rw [if_pos hl, if_pos hl]
  · rw [if_neg hl, if_neg hl, List.map_append, List.map_cons, List.takeWhile_map, List.dropWhile_map]
    rfl
theorem kD_pr : ∀ (X : List Rw) (K : List Rw), (X.map (fun x : Rw => x.1)).foldl (fun K r => insF K (r, [])) (K.map prR) = (X.foldl insF K).map prR
  | [], _ => rfl
  | x :: X, K => by
    rw [List.map_cons, List.foldl_cons, List.foldl_cons, ← kD_pr X (insF K x), ← ins_pr]
    rfl
theorem sys_rank {k n : Nat} {X K : List Rw} (h : Sys k n (kD X) K) : K.length = (iK (X.map (fun x : Rw => x.1))).length := by
  have h1 := kD_pr X []
  unfold iK
  rw [show ([] : List Rw) = ([] : List Rw).map prR from rfl, h1, List.length_map, h.same]
  unfold redL kD
  rw [List.length_map, List.length_range]
/-- a full system's data are the symbols -/
theorem sys_full {k n : Nat} {FX : List (List UInt8)} {X K : List Rw} (h : Sys k n (kD X) K) (hX : ∀ y, y ∈ X → Fit k n y ∧ ConsV k (FX.map vf) (vR y)) (hF : ∀ x, x ∈ FX → x.length = n) (hk : FX.length = k) (hl : K.length = k) {i : Nat} {r : Rw} {f : List UInt8} (hr : K[i]? = some r) (hf : FX[i]? = some f) : r.2 = f := by
  have hu := full_units h.red hl hr
  obtain ⟨hfit, -⟩ := h.red.kept.rows r (List.mem_of_getElem? hr)
  have s := spn_kD hX
  obtain ⟨-, r2, -, -⟩ := redL_red h.kept
  rw [← h.same] at r2
  have hc : ConsV k (FX.map vf) (vR r) := cons_sp (fun a ha => by obtain ⟨q, hq, rfl⟩ := List.mem_map.1 ha; exact s.consK q hq) (r2 r (List.mem_of_getElem? hr))
  have hik : i < k := by have := (List.getElem?_eq_some_iff.1 hr).1; omega
  refine vf_inj (by rw [hfit.2, hF f (List.mem_of_getElem? hf)]) fun j hj => ?_
  have h1 := hc j
  rw [vR_right hfit] at h1
  rw [h1, mulV_congr (v := unit i) (fun a ha => ?_), mulV_unit (b := vf f) (by rw [List.length_map, hk]) (by rw [List.getElem?_map, hf]; rfl)]
  rw [vR_left hfit ha, hu]
  unfold vf unit
  rw [List.getD_eq_getElem?_getD, List.getElem?_set]
  by_cases e : i = a
  · subst e; rw [if_pos rfl, if_pos (by simpa using hik), if_pos rfl]; rfl
  · rw [if_neg e, if_neg e, List.getElem?_replicate, if_pos ha]; rfl
end Go.Proofs.Ytofhdakggapahaa
namespace Go.By
open Go.RowKit Go.Proofs.Ytofhdakggapahaa
/-- old memory but for some blocks stays -/
structure Tch (w w' : World) (S : Nat → Prop) : Prop where
  os : w'.os = w.os
  tape : w'.tape = w.tape
  output : w'.output = w.output
  size : w.heap.size ≤ w'.heap.size
  block : ∀ b, b < w.heap.size → ¬ S b → w'.heap[b]? = w.heap[b]?
def NoU8 (w : World) (S : Nat → Prop) : Prop := ∀ b, S b → ∀ (cs : Array Value) fr, w.heap[b]? ≠ some (.cells cs 5 fr)
theorem Tch.below {w w' : World} {S : Nat → Prop} {B : Nat} (h : Tch w w' S) (hB : B ≤ w.heap.size) (hS : ∀ b, S b → B ≤ b) : Below B w w' :=
  ⟨h.os, h.tape, h.output, h.size, fun b hb => h.block b (by omega) (fun hs => by have := hS b hs; omega)⟩
theorem Tch.owns {w w' : World} {S : Nat → Prop} {base T s n : Nat} {v : Value} {L : List Value} (h : Tch w w' S) (ho : w.ownsRow base T s v n L) (hv : ∀ g, v.ownBlock = some g → ¬ S g) : w'.ownsRow base T s v n L :=
  owns_same ho h.size fun g hg => h.block g (ho.lt g hg).2 (hv g hg)
theorem owns_not {w : World} {S : Nat → Prop} {base T s n : Nat} {v : Value} {L : List Value} (ho : w.ownsRow base T s v n L) (hT : ∀ b, S b → ∀ (cs : Array Value) fr, w.heap[b]? ≠ some (.cells cs T fr)) : ∀ g, v.ownBlock = some g → ¬ S g := fun g hg hs => by
  rcases ho.2 with ⟨e1, _⟩ | ⟨g', cap, cur, e1, _, hh, _⟩
  · rw [e1] at hg; cases hg
  · rw [e1] at hg; cases hg
    exact hT _ hs _ _ hh
theorem Tch.bw {w w' : World} {S : Nat → Prop} {b : Nat} {u : Value} {xs : List UInt8} (h : Tch w w' S) (h8 : NoU8 w S) (hu : Bw 5 w b u xs) : Bw 5 w' b u xs := by
  obtain ⟨q, m, c, e, l, o⟩ := hu
  exact ⟨q, m, c, e, l, h.owns o (owns_not o h8)⟩
theorem Tch.rwl {w w' : World} {S : Nat → Prop} {b2 n2 : Nat} {v2 : Value} {K2 : List Rw} (h : Tch w w' S) (h8 : NoU8 w S) (h2 : RwL 61 5 w b2 v2 n2 K2) (hv : ∀ g, v2.ownBlock = some g → ¬ S g) : RwL 61 5 w' b2 v2 n2 K2 := by
  obtain ⟨vs, a, b, o, r⟩ := h2
  exact ⟨vs, a, b, h.owns o hv, fun j u hj => by obtain ⟨x, hk, g1, g2⟩ := r j u hj; exact ⟨x, hk, h.bw h8 g1, h.bw h8 g2⟩⟩
theorem Tch.elm {w w' : World} {S : Nat → Prop} {base be k t n : Nat} {v : Value} {K : List Rw} (h : Tch w w' S) (h8 : NoU8 w S) (hE : Elm w base be k t v n K) (hbe : ¬ S be) (hv : ∀ g, v.ownBlock = some g → ¬ S g) : Elm w' base be k t v n K :=
  ⟨(h.block be (blk_lt hE.box) hbe).trans hE.box, h.rwl h8 hE.rows hv, hE.old⟩
theorem Tch.own2 {w w' : World} {S : Nat → Prop} {base n : Nat} {v : Value} {xss : List (List UInt8)} (h : Tch w w' S) (h8 : NoU8 w S) (hO : Own2 25 5 w base v n xss) (hv : ∀ g, v.ownBlock = some g → ¬ S g) : Own2 25 5 w' base v n xss := by
  obtain ⟨vs, o, l, r⟩ := hO
  exact ⟨vs, h.owns o hv, l, fun j u hj => by obtain ⟨xs, q, c, e1, e2, e3⟩ := r j u hj; exact ⟨xs, q, c, e1, e2, h.owns e3 (owns_not e3 h8)⟩⟩
/-- the blocks that Put turns -/
def ChS (be : Nat) (v : Value) : Nat → Prop := fun b => b = be ∨ v.ownBlock = some b
theorem Chg.tch {w w' : World} {be : Nat} {v : Value} (h : Chg w w' be v) : Tch w w' (ChS be v) := ⟨h.os, h.tape, h.output, h.size, fun b hb hs => h.block b hb (fun e => hs (.inl e)) (fun e => hs (.inr e))⟩
theorem ChS.ty {w : World} {base be k t n : Nat} {v : Value} {K : List Rw} (hE : Elm w base be k t v n K) {T : Nat} (h1 : T ≠ 104) (h2 : 61 ≠ T) : ∀ b, ChS be v b → ∀ (cs : Array Value) fr, w.heap[b]? ≠ some (.cells cs T fr) := fun b hs cs fr hh => by
  rcases hs with rfl | e
  · rw [hE.box] at hh; injection hh with hh; injection hh with _ hh _; exact h1 hh.symm
  · exact hE.rows.ne_box hh h2 e
theorem grown_tch {w w' : World} {v : Value} (h : w.grownBy w' v.ownBlock) : Tch w w' (fun b => v.ownBlock = some b) := ⟨h.os, h.tape, h.output, h.size, fun b hb hs => h.block b hb (fun e => hs e.symm)⟩
theorem owns_ty {w : World} {base T s n : Nat} {v : Value} {L : List Value} (ho : w.ownsRow base T s v n L) {T' : Nat} (hT : T' ≠ T) : ∀ b, v.ownBlock = some b → ∀ (cs : Array Value) fr, w.heap[b]? ≠ some (.cells cs T' fr) := fun b hs cs fr hh => by
  rcases ho.2 with ⟨e1, _⟩ | ⟨g', cap, cur, e1, _, hc, _⟩
  · rw [e1] at hs; cases hs
  · rw [e1] at hs; cases hs
    rw [hc] at hh; injection hh with hh; injection hh with _ hh _; exact hT hh.symm
end Go.By
namespace Go.Proofs.Ytofhdakggapahaa
open Go.RowKit Go.By
/-- two systems, the rows and vectors of a list -/
structure SSt (B : Nat) (wN : World) (k n bs : Nat) (vs : Value) (nK : Nat) (K : List Rw) (bu : Nat) (vu : Value) (nM : Nat) (M : List Rw) (vl : Value) (j : Nat) (XS : List Rw) (vv : Value) (WS : List (List UInt8)) (W : World) : Prop where
  bel : Below B wN W
  s : Elm W B bs k n vs nK K
  u : Elm W B bu k n vu nM M
  l : RwL 61 5 W B vl j XS
  v : Own2 25 5 W B vv j WS
  ne : bs ≠ bu
  d1 : ∀ g, vs.ownBlock = some g → vu.ownBlock ≠ some g
  d2 : ∀ g, vs.ownBlock = some g → vl.ownBlock ≠ some g
  d3 : ∀ g, vu.ownBlock = some g → vl.ownBlock ≠ some g
  hB : B ≤ W.heap.size
section
variable {B : Nat} {wN W W' : World} {k n bs : Nat} {vs : Value} {nK : Nat} {K : List Rw} {bu : Nat} {vu : Value} {nM : Nat} {M : List Rw} {vl : Value} {j : Nat} {XS : List Rw} {vv : Value} {WS : List (List UInt8)}
theorem SSt.keep (h : SSt B wN k n bs vs nK K bu vu nM M vl j XS vv WS W) (hb : Below W.heap.size W W') : SSt B wN k n bs vs nK K bu vu nM M vl j XS vv WS W' :=
  ⟨bl h.bel hb h.hB, h.s.keep hb, h.u.keep hb, h.l.keep hb, h.v.keep hb, h.ne, h.d1, h.d2, h.d3, Nat.le_trans h.hB hb.size⟩
theorem SSt.putS (h : SSt B wN k n bs vs nK K bu vu nM M vl j XS vv WS W) (hC : Chg W W' bs vs) {v' : Value} {n' : Nat} {K' : List Rw} (hE : Elm W' B bs k n v' n' K') (hv : v'.ownBlock = vs.ownBlock ∨ ∀ b, v'.ownBlock = some b → W.heap.size ≤ b) : SSt B wN k n bs v' n' K' bu vu nM M vl j XS vv WS W' := by
  have ht := hC.tch
  have h8 : NoU8 W (ChS bs vs) := ChS.ty h.s (by decide) (by decide)
  have hnew : ∀ {x : Value}, (∀ g, x.ownBlock = some g → g < W.heap.size) → (∀ g, vs.ownBlock = some g → x.ownBlock ≠ some g) → ∀ g, v'.ownBlock = some g → x.ownBlock ≠ some g := fun {x} hx hd g hg hxg => by
    rcases hv with e | e
    · exact hd g (by rw [← e]; exact hg) hxg
    · have := e g hg; have := hx g hxg; omega
  have hu : ∀ g, vu.ownBlock = some g → ¬ ChS bs vs g := fun g hg hs => by
    rcases hs with rfl | e
    · exact h.u.rows.ne_box h.s.box (by decide) hg
    · exact h.d1 g e hg
  have hl : ∀ g, vl.ownBlock = some g → ¬ ChS bs vs g := fun g hg hs => by
    rcases hs with rfl | e
    · exact h.l.ne_box h.s.box (by decide) hg
    · exact h.d2 g e hg
  refine ⟨h.bel.trans (ht.below h.hB (fun b hs => ?_)), hE, ht.elm h8 h.u (fun hs => ?_) hu, ht.rwl h8 h.l hl, ht.own2 h8 h.v ?_, h.ne, hnew (fun g hg => (h.u.rows.lt g hg).2) h.d1, hnew (fun g hg => (h.l.lt g hg).2) h.d2, h.d3, Nat.le_trans h.hB hC.size⟩
  · rcases hs with rfl | e
    · exact h.s.old
    · exact (h.s.rows.lt b e).1
  · rcases hs with e | e
    · exact h.ne e.symm
    · exact h.s.rows.ne_box h.u.box (by decide) e
  · obtain ⟨us, o, -⟩ := h.v
    exact owns_not o (ChS.ty h.s (by decide) (by decide))
theorem SSt.putU (h : SSt B wN k n bs vs nK K bu vu nM M vl j XS vv WS W) (hC : Chg W W' bu vu) {v' : Value} {n' : Nat} {M' : List Rw} (hE : Elm W' B bu k n v' n' M') (hv : v'.ownBlock = vu.ownBlock ∨ ∀ b, v'.ownBlock = some b → W.heap.size ≤ b) : SSt B wN k n bs vs nK K bu v' n' M' vl j XS vv WS W' := by
  have ht := hC.tch
  have h8 : NoU8 W (ChS bu vu) := ChS.ty h.u (by decide) (by decide)
  have hu : ∀ g, vs.ownBlock = some g → ¬ ChS bu vu g := fun g hg hs => by
    rcases hs with rfl | e
    · exact h.s.rows.ne_box h.u.box (by decide) hg
    · exact h.d1 g hg e
  have hl : ∀ g, vl.ownBlock = some g → ¬ ChS bu vu g := fun g hg hs => by
    rcases hs with rfl | e
    · exact h.l.ne_box h.u.box (by decide) hg
    · exact h.d3 g e hg
  refine ⟨h.bel.trans (ht.below h.hB (fun b hs => ?_)), ht.elm h8 h.s (fun hs => ?_) hu, hE, ht.rwl h8 h.l hl, ht.own2 h8 h.v ?_, h.ne, fun g hg hvg => ?_, h.d2, fun g hg hlg => ?_, Nat.le_trans h.hB hC.size⟩
  · rcases hs with rfl | e
    · exact h.u.old
    · exact (h.u.rows.lt b e).1
  · rcases hs with e | e
    · exact h.ne e
    · exact h.u.rows.ne_box h.s.box (by decide) e
  · obtain ⟨us, o, -⟩ := h.v
    exact owns_not o (ChS.ty h.u (by decide) (by decide))
  · rcases hv with e | e
    · exact h.d1 g hg (by rw [← e]; exact hvg)
    · have := e g hvg; have := (h.s.rows.lt g hg).2; omega
  · rcases hv with e | e
    · exact h.d3 g (by rw [← e]; exact hg) hlg
    · have := e g hg; have := (h.l.lt g hlg).2; omega
/-- one row and one vector more: after both appends; W1 the world between them -/
theorem SSt.pushL (h : SSt B wN k n bs vs nK K bu vu nM M vl j XS vv WS W) {T : Nat} {L : List Value} {m sz : Nat} (ho : W.ownsRow B T sz vl m L) (hT : T = 61) (hg : W.grownBy W' vl.ownBlock) {vl' : Value} {g' : Nat} (hl : vl'.ownBlock = some g') (hn : vl.ownBlock = some g' ∨ g' = W.heap.size) :
    Below B wN W' ∧ Elm W' B bs k n vs nK K ∧ Elm W' B bu k n vu nM M ∧ Own2 25 5 W' B vv j WS ∧ (∀ g, vs.ownBlock = some g → vl'.ownBlock ≠ some g) ∧ (∀ g, vu.ownBlock = some g → vl'.ownBlock ≠ some g) := by
  subst hT
  have ht := grown_tch hg
  have h8 : NoU8 W (fun b => vl.ownBlock = some b) := owns_ty ho (by decide)
  have nb : ∀ {be : Nat} {v0 : Value}, W.heap[be]? = some (.cells #[.int .i64 k, .int .i64 n, v0] 104 (0, 0)) → ¬ vl.ownBlock = some be := fun hx e => owns_ty ho (by decide) _ e _ _ hx
  have nd : ∀ {x : Value}, (∀ g, x.ownBlock = some g → g < W.heap.size) → (∀ g, x.ownBlock = some g → vl.ownBlock ≠ some g) → ∀ g, x.ownBlock = some g → vl'.ownBlock ≠ some g := fun {x} hx hd g hg e => by
    rw [hl] at e; cases e
    rcases hn with e | e
    · exact hd _ hg e
    · have := hx _ hg; omega
  refine ⟨h.bel.trans (ht.below h.hB fun b hs => (h.l.lt b hs).1), ht.elm h8 h.s (nb h.s.box) (fun g hg => h.d2 g hg), ht.elm h8 h.u (nb h.u.box) (fun g hg => h.d3 g hg), ht.own2 h8 h.v ?_, nd (fun g hg => (h.s.rows.lt g hg).2) h.d2, nd (fun g hg => (h.u.rows.lt g hg).2) h.d3⟩
  obtain ⟨us, o, -⟩ := h.v
  exact owns_not o (owns_ty ho (by decide))
theorem grown_v {T : Nat} {L : List Value} {m sz : Nat} (h1 : Below B wN W) (h2 : Elm W B bs k n vs nK K) (h3 : Elm W B bu k n vu nM M) (h4 : RwL 61 5 W B vl j XS) (ho : W.ownsRow B T sz vv m L) (hT : T = 25) (hB : B ≤ W.heap.size) (hg : W.grownBy W' vv.ownBlock) :
    Below B wN W' ∧ Elm W' B bs k n vs nK K ∧ Elm W' B bu k n vu nM M ∧ RwL 61 5 W' B vl j XS := by
  subst hT
  have ht := grown_tch hg
  have h8 : NoU8 W (fun b => vv.ownBlock = some b) := owns_ty ho (by decide)
  have nr : ∀ {b2 n2 : Nat} {v2 : Value} {K2 : List Rw}, RwL 61 5 W b2 v2 n2 K2 → ∀ g, v2.ownBlock = some g → ¬ vv.ownBlock = some g := fun hR g hg => by
    obtain ⟨us, -, -, o, -⟩ := hR
    exact owns_not o (owns_ty ho (by decide)) g hg
  exact ⟨h1.trans (ht.below hB fun b hs => (ho.lt b hs).1), ht.elm h8 h2 (fun e => owns_ty ho (by decide) _ e _ _ h2.box) (nr h2.rows), ht.elm h8 h3 (fun e => owns_ty ho (by decide) _ e _ _ h3.box) (nr h3.rows), ht.rwl h8 h4 (nr h4)⟩
end
end Go.Proofs.Ytofhdakggapahaa
namespace Go.Proofs.Ytofhdakggapahaa
open Go.RowKit Go.By
theorem putF_len2 (K : List Rw) (x : Rw) : (putF K x).length = K.length + 1 := by
  unfold putF putAt
  rw [List.length_append, List.length_cons]
  have h := congrArg List.length (List.takeWhile_append_dropWhile (p := fun r : Rw => decide (leadS r.1 ≤ leadS (normS (restF K x)).1)) (l := K.map (clrF (normS (restF K x)))))
  rw [List.length_append, List.length_map] at h
  omega
theorem codeF_zero {K : List Rw} {x : Rw} (h : leadS (restF K x).1 < 0) (hz : zeroS (restF K x).2 = true) : codeF K x = 1 := by unfold codeF; rw [if_pos h, if_pos hz]
theorem codeF_put {K : List Rw} {x : Rw} (h : ¬ leadS (restF K x).1 < 0) : codeF K x = 0 := by unfold codeF; rw [if_neg h]
theorem putK_zero {K : List Rw} {x : Rw} (h : leadS (restF K x).1 < 0) : putK K x = K := by unfold putK; rw [if_pos h]
theorem putK_more {K : List Rw} {x : Rw} (h : ¬ leadS (restF K x).1 < 0) : (putK K x).length = K.length + 1 := by unfold putK; rw [if_neg h, putF_len2]
theorem fitR_fill (n : Nat) (row : List UInt8) : fillS (List.replicate n 0) row = fitR n row := by
  unfold fillS fitR
  rw [List.length_replicate, List.drop_replicate]
theorem take_map_succ2 {α β : Type} {f : α → β} {xs : List α} {k : Nat} {a : α} (h : xs[k]? = some a) : (xs.take (k + 1)).map f = (xs.take k).map f ++ [f a] := by
  rw [List.take_add_one, h, List.map_append]; rfl
set_option maxRecDepth 100000 in
set_option maxHeartbeats 16000000 in
theorem ES_main (tt : UInt8) (k m2 : Nat) (p1 p2 : Option Addr) (c1 c2 : Nat) (SY VE : List (List UInt8)) (w : World) (h1 : Sl2 w p1 k c1 SY) (h2 : Sl2 w p2 m2 c2 VE) (hk1 : 1 ≤ k) (hk2 : k ≤ 20) (hm2 : m2 ≤ 30) :
    Calls Try.prog 8 #[.slice p1 k c1, .slice p2 m2 c2, B8 tt] w fun e w' => e = .returned (.bool true) ∧ Below w.heap.size w w' := by
  obtain ⟨r0, hr0, hrz, hr1, hr2⟩ := info_parts info_rows
  obtain ⟨i0, hi0, hz0, hz1, hz2⟩ := info_parts info_u8
  obtain ⟨s0, hs0, hsz, hs1, hs2⟩ := info_parts info_vrow
  obtain ⟨n, hn⟩ : ∃ n, n = tt.toNat % 21 := ⟨_, rfl⟩
  have hn2 : n ≤ 20 := by omega
  have hwz : ((tt.toNat : Int) % 21) = (n : Int) := by omega
  have hwt : ((tt.toNat : Int)).tmod 21 = (n : Int) := by rw [Int.tmod_eq_emod_of_nonneg (by omega)]; exact hwz
  have H1 := Lib.hid h1; have H2 := Lib.hid h2; have HL1 := Lib.hid h1.len; have HL2 := Lib.hid h2.len
  have HM1 : Hid (n ≤ maxLen) := by show n ≤ maxLen; unfold maxLen; omega
  have HM2 : Hid (1 * n ≤ 281474976710656) := by show 1 * n ≤ _; omega
  have HM3 : Hid (k ≤ maxLen) := by show k ≤ maxLen; unfold maxLen; omega
  have HM4 : Hid (1 * k ≤ 281474976710656) := by show 1 * k ≤ _; omega
  have a1 : (1 : Int) ≤ (k : Int) := by omega
  have a2 : (k : Int) ≤ 20 := by omega
  have a3 : (m2 : Int) ≤ 30 := by omega
  clear h1 h2 hn
  go_enter Try.func8, Try.ntmps8
  go_wp2_with fail
  refine Calls.mono (awake08 _) ?_
  rintro e w1 ⟨rfl, hb⟩
  have B1 := Lib.hid hb
  clear hb
  go_wp2
  clear a1 a2 a3
  go_loopw [9, 58] (fun o i wr => ∃ (j : Nat) (qo : Option Addr) (co : Nat), j ≤ k ∧ i = .int .i64 j ∧ o = .slice qo j co ∧ Hid (Own2 25 5 wr w.heap.size (.slice qo j co) j ((SY.take j).map (fitR n))) ∧ Hid (Below w.heap.size w wr)) (fun _ i _ => k - (intOf i).toNat)
  case atStart => exact ⟨0, none, 0, Nat.zero_le _, rfl, rfl, Own2.nil _ _ _ _, B1.out⟩
  case round =>
    clear B1
    obtain ⟨j, qo, co, hj, rfl, rfl, hO, hB⟩ := hrel
    by_cases hlt : j < k
    · obtain ⟨b, o, q, mx, cx, row, rfl, hc, hs, hx⟩ := H1.out.at j hlt
      have hcw := (hB.out.cell (p := ⟨b, o + j, none⟩) (lt_of_cell hc)).trans hc
      have HSW := Lib.hid (hs.keep hB.out)
      have kn : (j : Int) < (k : Int) := by omega
      have hstep : Hid ((SY.take (j + 1)).map (fitR n) = (SY.take j).map (fitR n) ++ [fitR n row]) := take_map_succ2 hx.out
      clear hc hs hx
      go_wp2_with (at_make; refine wpList_make_full _ rfl _ _ 25 rfl wr.heap.size 5 i0 (.int .u8 0) 1 Try.underlying25 hi0 hz0 hz1 .i64 .i64 _ _ n rfl rfl rfl rfl (by rw [hz2]; exact HM2.out) HM1.out (Nat.le_refl _) ?_)
      intro w1 ho hg
      have HV : Hid (w1.heap[wr.heap.size]? = some (.cells ((List.replicate n (0 : UInt8)).map B8).toArray 5 (0, 0))) := by
        have e : (madeCells #[Value.int .u8 0] n).toList = List.replicate n (B8 0) := toList_madeCells_one _ _
        rw [e] at ho
        show _ = _
        rw [List.map_replicate]; exact heap_of_owns ho
      have B1 : Hid (Below wr.heap.size wr w1) := (Below.refl _ _).grown hg (Nat.le_refl _) (by simp)
      have HS1 := Lib.hid (HSW.out.keep B1.out)
      clear ho hg hcw HSW
      go_wp2_with (with_reducible refine wpList_copy_bytes w1 rfl (.tmp 64) (.tmp 65) 25 25 rfl 5 Try.underlying25 (by kernel_rfl) wr.heap.size n q mx cx rfl rfl (List.replicate n 0) row 5 HV.out (by simp) HS1.out ?_)
      intro w2 z2 hh2 hg2
      have hszw := hB.out.size
      have R2 : Hid (w2.ownsRow w.heap.size 5 1 (.slice (some ⟨wr.heap.size, 0, none⟩) n n) n ((fitR n row).map B8)) := by
        rw [fitR_fill] at hh2
        exact owns_of_heap hszw hh2 (by rw [List.length_map, fitR_len]) HM1.out
      have B2' : Hid (Below wr.heap.size wr w2) := B1.out.grown hg2 B1.out.size (fun kk hkk => by cases hkk; exact Nat.le_refl _)
      have O2 := hO.out.keep B2'.out
      have B2 := Lib.hid (bl hB.out B2'.out hszw)
      have bal : ∀ (W : World) (o : Obj), Below W.heap.size W (W.alloc o) := fun W o => al (Below.refl _ _) (Nat.le_refl _)
      obtain ⟨vs, oA, lA, rA⟩ := O2
      have OA := Lib.hid oA; have LA := Lib.hid lA; have RA := Lib.hid rA
      have hO3 : Hid (∀ o, (w2.alloc o).ownsRow w.heap.size 25 1 (.slice qo j co) j vs) := fun o => owns_keep OA.out (bal _ _)
      have HBAL := Lib.hid bal
      have hsz2 := B2.out.size
      clear hh2 hg2 oA lA rA bal hO hB HV B1 HS1 B2'
      go_wp2_with (at_builtin; refine wpList_append_own _ rfl _ _ 22 rfl w.heap.size 25 r0 (.slice none 0 0) 1 24 Try.underlying22 hr0 hrz hr1 hr2 rfl (by omega) _ j _ rfl (hO3.out _) ⟨w2.heap.size, 0, none⟩ 1 1 [.slice (some ⟨wr.heap.size, 0, none⟩) n n] rfl rfl (one_cell' rfl) ?d2 ?d3 ?d4 ?d5 ?_)
      case d2 => intro y hy; simp at hy; subst hy; rfl
      case d3 => unfold maxLen; omega
      case d4 => omega
      case d5 => simp; omega
      intro v6 w6 ho6 hg6 _
      obtain ⟨q6, c6, rfl⟩ := owns_shape ho6
      have P6 : Hid (Own2 25 5 w6 w.heap.size (.slice q6 (j + 1) c6) (j + 1) ((SY.take (j + 1)).map (fitR n)) ∧ Below w.heap.size w w6) := by
        refine ⟨?_, (al B2.out B2.out.size).grown hg6 (by simp; omega) (fun kk hk => (OA.out.lt kk hk).1)⟩
        rw [hstep.out]
        exact Own2.push (by decide) LA.out (fun jj val hjj => by
          obtain ⟨xs, q, c', a, b, d⟩ := RA.out jj val hjj
          exact ⟨xs, q, c', a, b, owns_keep d (HBAL.out _ _)⟩) (hO3.out _) (owns_keep R2.out (HBAL.out _ _)) ho6 hg6
      clear ho6 hg6 hO3 OA LA RA R2 B2
      go_wp2
      go_roundw
      case rel => exact ⟨j + 1, q6, c6, by omega, by go_num, rfl, P6.out.1, P6.out.2⟩
      case measure => simp [intOf]; omega
    · have hjk : j = k := by omega
      have hge : (k : Int) ≤ (j : Int) := by omega
      subst hjk
      rename World => wN
      obtain ⟨FX, hFX⟩ : ∃ FX, FX = SY.map (fitR n) := ⟨_, rfl⟩
      have F0 : Hid (Sl2 wN qo j co FX) := by
        have h := hO.out
        rw [List.take_of_length_le (by rw [HL1.out]; exact Nat.le_refl _), ← hFX] at h
        exact h.sl2
      have HFL : Hid (∀ x, x ∈ FX → x.length = n) := fun x hx => by rw [hFX] at hx; exact fit_len x hx
      have HFK : Hid (FX.length = j) := by rw [hFX, List.length_map]; exact HL1.out
      have B0 := Lib.hid hB.out
      clear hO hB hFX HM1 HM2 hwz hwt
      go_wp2_with fail
      refine Calls.mono (New_good j n wN hk1 (by omega) (by omega)) ?_
      rintro e w3 ⟨bs, rfl, hE, hb⟩
      obtain ⟨B, hBd⟩ : ∃ B, B = wN.heap.size := ⟨_, rfl⟩
      have hwB : w.heap.size ≤ B := by rw [hBd]; exact B0.out.size
      have HN : Hid (∀ W : World, Below B wN W → Below w.heap.size w W) := fun W hW => B0.out.trans (hW.mono hwB)
      have HFT : Hid (∀ W : World, Below B wN W → Sl2 W qo j co FX) := fun W hW => F0.out.keep (by rw [← hBd]; exact hW)
      have HVE : Hid (∀ W : World, Below B wN W → Sl2 W p2 m2 c2 VE) := fun W hW => (H2.out.keep B0.out).keep (by rw [← hBd]; exact hW)
      rw [← hBd] at hE hb
      have E3 := Lib.hid hE; have B3 := Lib.hid hb
      have hs3 : B ≤ w3.heap.size := by rw [hBd]; exact (show Below wN.heap.size wN w3 by rw [← hBd]; exact hb).size
      clear hE hb F0 hBd B0 H2
      go_wp2_with fail
      refine Calls.mono (New_good j n w3 hk1 (by omega) (by omega)) ?_
      rintro e w4 ⟨bu, rfl, hE, hb⟩
      have ST0 : Hid (SSt B wN j n bs (.slice none 0 0) 0 [] bu (.slice none 0 0) 0 [] (.slice none 0 0) 0 [] (.slice none 0 0) [] w4) :=
        ⟨bl B3.out hb hs3, E3.out.keep hb, ⟨hE.box, RwL.nil _ _ _ _, Nat.le_trans hs3 hE.old⟩, RwL.nil _ _ _ _, Own2.nil _ _ _ _, fun e => by have g1 := blk_lt E3.out.box; have g2 := hE.old; omega, fun g e => (by cases e), fun g e => (by cases e), fun g e => (by cases e), Nat.le_trans hs3 hb.size⟩
      clear hE hb E3 B3 hs3
      go_wp2
      have HXF : Hid (∀ v : List UInt8, Fit j n (rowC n FX (fitR j v)) ∧ ConsV j (FX.map vf) (vR (rowC n FX (fitR j v)))) := fun v => ⟨rowC_fit HFL.out (fitR_len j v), rowC_cons HFL.out HFK.out (fitR_len j v)⟩
      have HXM : Hid (∀ (V : List (List UInt8)) (x : Rw), x ∈ V.map (fun v => rowC n FX (fitR j v)) → Fit j n x ∧ ConsV j (FX.map vf) (vR x)) := fun V x hx => by
        obtain ⟨v, -, rfl⟩ := List.mem_map.1 hx
        exact HXF.out v
      go_loopw [17, 18, 92] (fun a b v wx => ∃ (i nK : Nat) (vs : Value) (K : List Rw) (ql qv : Option Addr) (cl cv : Nat), i ≤ m2 ∧ v = .int .i64 i ∧ a = .slice ql i cl ∧ b = .slice qv i cv ∧
        Hid (SSt B wN j n bs vs nK K bu (.slice none 0 0) 0 [] (.slice ql i cl) i ((VE.take i).map (fun v => rowC n FX (fitR j v))) (.slice qv i cv) ((VE.take i).map (fitR j)) wx) ∧ Hid (Sys j n (kD ((VE.take i).map (fun v => rowC n FX (fitR j v)))) K)) (fun _ _ v _ => m2 - (intOf v).toNat)
      case atStart => exact ⟨0, 0, .slice none 0 0, [], none, none, 0, 0, Nat.zero_le _, rfl, rfl, rfl, Lib.hid (by simpa using ST0.out), Lib.hid (by simpa [kD] using Sys.nil j n)⟩
      case round =>
        clear ST0
        obtain ⟨i, nK, vs, K, ql, qv, cl, cv, hi, rfl, rfl, rfl, hST, hSY⟩ := hrel
        by_cases him : i < m2
        · have im : (i : Int) < (m2 : Int) := by omega
          obtain ⟨b, o, q, mx, cx, row, rfl, hc, hs, hx⟩ := (HVE.out _ hST.out.bel).at i him
          have HSW := Lib.hid hs; have HC := Lib.hid hc
          obtain ⟨wv, hwv⟩ : ∃ wv, wv = fitR j row := ⟨_, rfl⟩
          have hwl : Hid (wv.length = j) := by rw [hwv]; exact fitR_len j row
          have hW1 : Hid ((VE.take (i + 1)).map (fitR j) = (VE.take i).map (fitR j) ++ [wv]) := by rw [hwv]; exact take_map_succ2 hx.out
          have hX1 : Hid ((VE.take (i + 1)).map (fun v => rowC n FX (fitR j v)) = (VE.take i).map (fun v => rowC n FX (fitR j v)) ++ [rowC n FX wv]) := by rw [hwv]; exact take_map_succ2 (f := fun v => rowC n FX (fitR j v)) hx.out
          have HXR : Hid (Fit j n (rowC n FX wv) ∧ ConsV j (FX.map vf) (vR (rowC n FX wv))) := by rw [hwv]; exact HXF.out row
          have HPX := Lib.hid (HXM.out (VE.take i))
          have HPX1 := Lib.hid (HXM.out (VE.take (i + 1)))
          have HPR : Hid ((((VE.take (i + 1)).map (fun v => rowC n FX (fitR j v))).map (fun x : Rw => x.1)) = (VE.take (i + 1)).map (fitR j)) := by show _ = _; rw [List.map_map]; rfl
          have HWL : Hid (∀ x, x ∈ (VE.take (i + 1)).map (fitR j) → x.length = j) := fun x hx => fit_len x hx
          have HWN : Hid (((VE.take (i + 1)).map (fitR j)).length = i + 1) := by show _ = _; rw [List.length_map, List.length_take, HL2.out, Nat.min_eq_left (by omega)]
          have HFR : Hid (fillS (List.replicate j 0) row = wv) := by show _ = _; rw [hwv]; exact fitR_fill j row
          rw [hX1.out, hW1.out] at HPR
          rw [hX1.out] at HPX1
          rw [hW1.out] at HWL HWN
          obtain ⟨XS, hXS⟩ : ∃ XS, XS = (VE.take i).map (fun v => rowC n FX (fitR j v)) := ⟨_, rfl⟩
          obtain ⟨WS, hWS⟩ : ∃ WS, WS = (VE.take i).map (fitR j) := ⟨_, rfl⟩
          rw [← hXS, ← hWS] at HPR
          rw [← hXS] at HPX HPX1 hX1
          rw [← hWS] at HWL HWN hW1
          rw [← hXS] at hST hSY
          rw [← hWS] at hST
          clear hc hs hx hwv hXS hWS
          have hcw := HC.out
          go_wp2_with (at_make; refine wpList_make_full _ rfl _ _ 25 rfl wr.heap.size 5 i0 (.int .u8 0) 1 Try.underlying25 hi0 hz0 hz1 .i64 .i64 _ _ j rfl rfl rfl rfl (by rw [hz2]; exact HM4.out) HM3.out (Nat.le_refl _) ?_)
          intro w5 ho hg
          have HV : Hid (w5.heap[wr.heap.size]? = some (.cells ((List.replicate j (0 : UInt8)).map B8).toArray 5 (0, 0))) := by
            have e : (madeCells #[Value.int .u8 0] j).toList = List.replicate j (B8 0) := toList_madeCells_one _ _
            rw [e] at ho
            show _ = _
            rw [List.map_replicate]; exact heap_of_owns ho
          have B5 : Hid (Below wr.heap.size wr w5) := (Below.refl _ _).grown hg (Nat.le_refl _) (by simp)
          have HS5 := Lib.hid (HSW.out.keep B5.out)
          clear ho hg hcw HSW HC
          go_wp2_with (with_reducible refine wpList_copy_bytes w5 rfl (.tmp 98) (.tmp 99) 25 25 rfl 5 Try.underlying25 (by kernel_rfl) wr.heap.size j q mx cx rfl rfl (List.replicate j 0) row 5 HV.out (by simp) HS5.out ?_)
          intro w6 z6 hh6 hg6
          rw [HFR.out] at hh6
          have hb6 : Below wr.heap.size wr w6 := B5.out.grown hg6 B5.out.size (fun kk hkk => by cases hkk; exact Nat.le_refl _)
          have S6 := Lib.hid (hST.out.keep hb6)
          obtain ⟨gw, hgw⟩ : ∃ gw, gw = wr.heap.size := ⟨_, rfl⟩
          rw [← hgw] at hh6 ⊢
          have W6 : Hid (w6.ownsRow B 5 1 (.slice (some ⟨gw, 0, none⟩) j j) j (wv.map B8)) := owns_of_heap (by rw [hgw]; exact hST.out.hB) hh6 (by rw [List.length_map, hwl.out]) HM3.out
          have HCB : Hid (combS wv FX = (mulR n FX wv, 0)) := by
            show _ = _
            rw [comb_ok HFL.out (by rw [hwl.out, HFK.out]), if_neg (fun e => by have := HFK.out; rw [e] at this; simp at this; omega)]
          have HCM : Hid (∀ W, Sl B8 W (some ⟨gw, 0, none⟩) j j wv → Sl2 W qo j co FX → Calls Try.prog 50 #[.slice (some ⟨gw, 0, none⟩) j j, .slice qo j co] W (RetB 5 W (mulR n FX wv) 0)) := fun W a b => by
            have := Comb_any (some ⟨gw, 0, none⟩) qo j j j co wv FX W a b (fun xs hxs => by rw [HFL.out xs hxs]; unfold Room; omega)
            rwa [HCB.out] at this
          clear hh6 hg6 hb6 B5 HV HS5 hST hgw HCB
          go_wp2_with fail
          refine Calls.mono (HCM.out w6 (Sl.of_owns W6.out) (HFT.out _ S6.out.bel)) ?_
          rintro e w7 ⟨qd, md, cd, hmd, rfl, od, hb⟩
          obtain rfl : n = md := by have := hmd.out; rw [mulR_len HFL.out] at this; exact this
          have S7 := Lib.hid (S6.out.keep hb); have W7 := Lib.hid (owns_keep W6.out hb); have D7 := Lib.hid (owns_mono od S6.out.hB)
          clear hmd od hb S6 W6 HCM
          go_wp2_with fail
          refine Calls.mono (Of_any (some ⟨gw, 0, none⟩) qd j j n cd wv (mulR n FX wv) w7 (Sl.of_owns W7.out) (Sl.of_owns D7.out) (by unfold Room; omega) (by unfold Room; omega)) ?_
          rintro e w8 ⟨r1, m1, d1, r2, m3, d2, l1, l2, rfl, o1, o2, hb⟩
          obtain rfl : j = m1 := by have := l1.out; simp only [hwl.out] at this; exact this
          obtain rfl : n = m3 := by have := l2.out; simp only [mulR_len HFL.out] at this; exact this
          have S8 := Lib.hid (S7.out.keep hb)
          have W8 : Hid (Bw 5 w8 B (.slice (some ⟨gw, 0, none⟩) j j) wv) := Bw.mk (owns_keep W7.out hb) hwl.out
          have D8 : Hid (Bw 5 w8 B (.slice qd n cd) (mulR n FX wv)) := Bw.mk (owns_keep D7.out hb) (mulR_len HFL.out wv)
          have O1 : Hid (Bw 5 w8 B (.slice r1 j d1) (rowC n FX wv).1) := Bw.mk (owns_mono o1 S7.out.hB) l1.out
          have O2 : Hid (Bw 5 w8 B (.slice r2 n d2) (rowC n FX wv).2) := Bw.mk (owns_mono o2 S7.out.hB) l2.out
          clear o1 o2 hb S7 W7 D7 l1 l2
          have BAL : Hid (∀ o, Below w8.heap.size w8 (w8.alloc o)) := fun o => al (Below.refl _ _) (Nat.le_refl _)
          obtain ⟨us, la, lb, lo, lr⟩ := S8.out.l
          have LO : Hid (∀ o, (w8.alloc o).ownsRow B 61 2 (.slice ql i cl) i (fl2 us)) := fun o => owns_keep lo (BAL.out o)
          have LR : Hid (∀ o (j : Nat) (u : Value × Value), us[j]? = some u → ∃ k, XS[j]? = some k ∧ Bw 5 (w8.alloc o) B u.1 k.1 ∧ Bw 5 (w8.alloc o) B u.2 k.2) := fun o jj u hj => by
            obtain ⟨kk, g1, g2, g3⟩ := lr jj u hj
            exact ⟨kk, g1, g2.keep (BAL.out o), g3.keep (BAL.out o)⟩
          have LA := Lib.hid la; have LB := Lib.hid lb
          have hs8 := S8.out.hB
          clear lo lr la lb
          go_wp2_with (at_builtin; refine wpList_append_lies _ rfl (.tmp 109) (.tmp 113) 79 rfl B 61 s0 (.agg #[.slice none 0 0, .slice none 0 0]) 2 48 Try.underlying79 hs0 hsz hs1 hs2 rfl (by omega) (.slice ql i cl) i (fl2 us) rfl (LO.out _) ⟨w8.heap.size, 0, none⟩ 1 1 [.slice r1 j d1, .slice r2 n d2] rfl rfl (two_cells rfl) (two_ones _ _ _ _ _ _) (by omega) (by unfold maxLen; omega) (by omega) (by simp; omega) _ rfl ?_)
          intro gl cl' w9 ho9 hg9 hat9 hlt9
          have S8a := S8.out.keep (BAL.out (.cells #[.slice r1 j d1, .slice r2 n d2] 61))
          have ht9 := grown_tch hg9
          have h89 : NoU8 (w8.alloc (.cells #[.slice r1 j d1, .slice r2 n d2] 61)) (fun b => (Value.slice ql i cl).ownBlock = some b) := owns_ty (LO.out _) (show (5 : Nat) ≠ 61 by decide)
          have P9 := Lib.hid (S8a.pushL (LO.out _) rfl hg9 (vl' := .slice (some ⟨gl, 0, none⟩) (i + 1) cl') (g' := gl) rfl (hat9.imp id fun e => by rw [e]; simp))
          have L9 : Hid (RwL 61 5 w9 B (.slice (some ⟨gl, 0, none⟩) (i + 1) cl') (i + 1) (XS ++ [rowC n FX wv])) :=
            RwL.push LA.out LB.out (LO.out _) (LR.out _) (by decide) (O1.out.keep (BAL.out _)) (O2.out.keep (BAL.out _)) ho9 hg9
          have W9 := Lib.hid (ht9.bw h89 (W8.out.keep (BAL.out _))); have D9 := Lib.hid (ht9.bw h89 (D8.out.keep (BAL.out _)))
          have NE := Lib.hid S8a.ne; have ND1 := Lib.hid S8a.d1
          have hs9 : B ≤ w9.heap.size := by have := hg9.size; simp at this; omega
          clear ho9 hg9 hat9 hlt9 S8a ht9 h89 S8 W8 D8 O1 O2 LO LR LA LB BAL
          obtain ⟨p91, p92, p93, p94, p95, p96⟩ := P9.out
          obtain ⟨vs2, oA, lA, rA⟩ := p94
          have BAL : Hid (∀ o, Below w9.heap.size w9 (w9.alloc o)) := fun o => al (Below.refl _ _) (Nat.le_refl _)
          have OA : Hid (∀ o, (w9.alloc o).ownsRow B 25 1 (.slice qv i cv) i vs2) := fun o => owns_keep oA (BAL.out o)
          have RA : Hid (∀ o (jj : Nat) (val : Value), vs2[jj]? = some val → ∃ xs q c', WS[jj]? = some xs ∧ val = Value.slice q xs.length c' ∧ (w9.alloc o).ownsRow B 5 1 (.slice q xs.length c') xs.length (xs.map B8)) := fun o jj val hjj => by
            obtain ⟨xs, q, c', a, b, d⟩ := rA jj val hjj
            exact ⟨xs, q, c', a, b, owns_keep d (BAL.out o)⟩
          have LA := Lib.hid lA
          have E91 := Lib.hid p91; have E92 := Lib.hid p92; have E93 := Lib.hid p93; have E95 := Lib.hid p95; have E96 := Lib.hid p96
          clear p91 p92 p93 p95 p96 oA lA rA P9
          go_wp2_with (at_builtin; refine wpList_append_own _ rfl (.tmp 115) (.tmp 117) 22 rfl B 25 r0 (.slice none 0 0) 1 24 Try.underlying22 hr0 hrz hr1 hr2 rfl (by omega) _ i _ rfl (OA.out _) ⟨w9.heap.size, 0, none⟩ 1 1 [.slice (some ⟨gw, 0, none⟩) j j] rfl rfl (one_cell' rfl) ?d2 ?d3 ?d4 ?d5 ?_)
          case d2 => intro y hy; simp at hy; subst hy; rfl
          case d3 => unfold maxLen; omega
          case d4 => omega
          case d5 => simp; omega
          intro va wa hoa hga _
          obtain ⟨qa, ca, rfl⟩ := owns_shape hoa
          have hta := grown_tch hga
          have h8a : NoU8 (w9.alloc (.cells #[.slice (some ⟨gw, 0, none⟩) j j] 25)) (fun b => (Value.slice qv i cv).ownBlock = some b) := owns_ty (OA.out _) (show (5 : Nat) ≠ 25 by decide)
          have ga := grown_v (bl E91.out (BAL.out _) hs9) (E92.out.keep (BAL.out _)) (E93.out.keep (BAL.out _)) (L9.out.keep (BAL.out _)) (OA.out (.cells #[.slice (some ⟨gw, 0, none⟩) j j] 25)) rfl (Nat.le_trans hs9 (BAL.out _).size) hga
          have hWo : (w9.alloc (.cells #[.slice (some ⟨gw, 0, none⟩) j j] 25)).ownsRow B 5 1 (.slice (some ⟨gw, 0, none⟩) j j) j (wv.map B8) := by
            obtain ⟨q', m', c', e1, e2, e3⟩ := W9.out
            cases e1; exact owns_keep e3 (BAL.out _)
          have SA : Hid (SSt B wN j n bs vs nK K bu (.slice none 0 0) 0 [] (.slice (some ⟨gl, 0, none⟩) (i + 1) cl') (i + 1) (XS ++ [rowC n FX wv]) (.slice qa (i + 1) ca) (WS ++ [wv]) wa) :=
            ⟨ga.1, ga.2.1, ga.2.2.1, ga.2.2.2, Own2.push (by decide) LA.out (RA.out _) (OA.out _) hWo hoa hga, NE.out, ND1.out, E95.out, E96.out, Nat.le_trans hs9 (Nat.le_trans (BAL.out _).size hga.size)⟩
          have WA := Lib.hid (hta.bw h8a (W9.out.keep (BAL.out _))); have DA := Lib.hid (hta.bw h8a (D9.out.keep (BAL.out _)))
          clear hoa hga hta h8a ga hWo W9 D9 L9 LA RA OA E91 E92 E93 E95 E96 NE ND1 BAL
          go_wp2_with fail
          refine Calls.mono (Rank_any' B bs j n nK vs K wa SA.out.s) ?_
          rintro e w' ⟨rfl, rfl⟩
          go_wp2_with fail
          refine Calls.mono (Of_any (some ⟨gw, 0, none⟩) qd j j n cd wv (mulR n FX wv) wa WA.out.sl' DA.out.sl' (by unfold Room; omega) (by unfold Room; omega)) ?_
          rintro e wb ⟨r1, m1, d1, r2, m3, d2, l1, l2, rfl, o1, o2, hb⟩
          obtain rfl : j = m1 := by have := l1.out; simp only [hwl.out] at this; exact this
          obtain rfl : n = m3 := by have := l2.out; simp only [mulR_len HFL.out] at this; exact this
          have SB := Lib.hid (SA.out.keep hb)
          have T1 : Hid (Sl B8 wb r1 j d1 (rowC n FX wv).1) := Sl.of_owns o1; have T2 : Hid (Sl B8 wb r2 n d2 (rowC n FX wv).2) := Sl.of_owns o2
          clear o1 o2 hb SA WA DA l1 l2
          obtain ⟨x, hx⟩ : ∃ x, x = rowC n FX wv := ⟨_, rfl⟩
          rw [← hx] at T1 T2 SB HXR hX1 HPX1 HPR
          have KL : Hid (K.length = nK) := SB.out.s.rows.len
          have hnK : nK ≤ 20 := by have := hSY.out.red.le; have := KL.out; omega
          have SY1 : Hid (Sys j n (kD (XS ++ [x])) (putK K x)) := Sys.putX hSY.out HXR.out.1
          clear hx
          go_wp2_with fail
          refine Calls.mono (EPut_fit B bs j n nK vs K r1 r2 d1 d2 x wb SB.out.s T1.out T2.out hSY.out.red (by omega) (by omega) (by omega)) ?_
          rintro e wc ⟨rfl, v', n', hE, hC, hv⟩
          have SC := Lib.hid (SB.out.putS hC hE hv)
          clear hE hC hv SB T1 T2
          have HGO : Hid (∀ W, Sl2 W qa (i + 1) ca (WS ++ [wv]) → Calls Try.prog 11 #[.int .i64 j, .slice qa (i + 1) ca] W (RetG2 5 W (i + 1) j (WS ++ [wv]).flatten 0)) := fun W h =>
            GOf_good j qa (i + 1) ca _ W h (by omega) (by omega) (by have : (i + 1) * j ≤ 30 * 20 := Nat.mul_le_mul (by omega) hk2; omega) (by
              rw [List.all_eq_true]
              intro y hy
              exact decide_eq_true (HWL.out y hy))
          go_wp2_with fail
          refine Calls.mono (HGO.out wc SC.out.v.sl2) ?_
          rintro e wd ⟨q8, n8, c8, hn8, rfl, o8, hb⟩
          have SD := Lib.hid (SC.out.keep hb); have GD := Lib.hid (Sl.of_owns o8); have N8 := Lib.hid hn8
          clear hb o8 hn8 SC HGO
          go_wp2
          obtain ⟨z, hz⟩ : ∃ z, z = i + 1 := ⟨_, rfl⟩
          have hzi : ((i : Int) + 1) = (z : Int) := by omega
          rw [hzi]
          clear hzi
          have ba : Below wd.heap.size wd (wd.alloc (.cells #[.int .i64 z, .int .i64 j, .slice q8 n8 c8] 27)) := al (Below.refl _ _) (Nat.le_refl _)
          have bx : (wd.alloc (.cells #[.int .i64 z, .int .i64 j, .slice q8 n8 c8] 27)).heap[wd.heap.size]? = some (.cells #[.int .i64 z, .int .i64 j, .slice q8 n8 c8] 27 (0, 0)) := hnew rfl
          generalize wd.alloc (.cells #[.int .i64 z, .int .i64 j, .slice q8 n8 c8] 27) = we at ba bx ⊢
          obtain ⟨b27, hb27⟩ : ∃ b27, b27 = wd.heap.size := ⟨_, rfl⟩
          rw [← hb27] at bx ⊢
          have BX := Lib.hid bx
          have SE := Lib.hid (SD.out.keep ba); have G8 := Lib.hid (GD.out.keep ba)
          have HN' : Hid (n' = (iK (WS ++ [wv])).length) := by
            show _ = _
            rw [← SE.out.s.rows.len, sys_rank SY1.out, HPR.out]
          have HGR : Hid (∀ W, Sl B8 W q8 n8 c8 (WS ++ [wv]).flatten → Calls Try.prog 20 #[.agg #[.int .i64 z, .int .i64 j, .slice q8 n8 c8]] W fun e w' => e = .returned (.int .i64 n') ∧ Below W.heap.size W w') := fun W h => by
            rw [HN'.out, hz]
            exact GRank_rows HWL.out HWN.out (by omega) (by omega) q8 n8 c8 W N8.out h
          obtain ⟨z1, hz1⟩ : ∃ z1, z1 = nK + 1 := ⟨_, rfl⟩
          have hA2 : IntKind.i64.wrap ((nK : Int) + 1) = (z1 : Int) := (Go.IntWalk.i64_in ((nK : Int) + 1) ⟨by omega, by omega⟩).trans (by omega)
          have HA2 := Lib.hid hA2
          clear hA2
          clear ba bx hb27 SD GD N8
          by_cases hl : leadS (restF K x).1 < 0
          · have hcode : codeF K x = 1 := codeF_zero hl (sys_code hSY.out HPX.out HXR.out.1 HXR.out.2 hl)
            have hK' : putK K x = K := putK_zero hl
            have hn' : n' = nK := by have g1 := SE.out.s.rows.len; rw [hK'] at g1; have g2 := KL.out; omega
            have hZ : ((n' : Int) == (z1 : Int)) = false := by simp; omega
            have hZ2 : ¬ (n' = z1) := by omega
            rw [hcode]
            clear hl hcode hK' hn' hz1
            refine wp_region_shapes (fun ix => ([.val (.int .i64 0), .val (.bool false), .val (.bool false), .val (.int .i64 0), .val (.bool false), .val (.bool false), .val (.bool false), .val (.int .i64 1), .val (.bool false), .val (.bool false), .val (.bool false), .val (.pointer (some ⟨bs, 0, none⟩)), .val (.int .i64 n'), .val (.agg #[.int .i64 z, .int .i64 j, .slice q8 n8 c8]), .val (.int .i64 n'), .val (.bool false), .val (.bool false), .val (.bool false), .val (.int .i64 1), .val (.bool false), .val (.pointer (some ⟨bs, 0, none⟩)), .val (.int .i64 n'), .val (.int .i64 nK), .val (.int .i64 z1), .val (.bool false), .val (.bool false), .val (.bool false)][ix]?).getD (.any)) 238 rfl (by kernel_rfl) (by decide) (by decide) (by decide) ?_ ?_
            · refine ⟨?_, ?_, ?_, ?_, ?_, ?_, ?_, ?_, ?_, ?_, ?_, ?_, ?_, ?_, ?_, ?_, ?_, ?_, ?_, ?_, ?_, ?_, ?_, ?_, ?_, ?_, ?_, trivial⟩
              · intro a W hb0 hs hp hi; have hb := undrew hb0; clear hb0
                have t26 : sl a 26 = .int .i64 0 := hi 26 (by decide)
                exact ite_y rfl (wp_val (sl a 26) rfl ⟨_, rfl, Below.refl _ _, t26⟩)
              · intro a W hb0 hs hp hi; have hb := undrew hb0; clear hb0
                have t135 : sl a 135 = .int .i64 0 := hp 0 (by decide)
                refine ite_y rfl (wp_val (.bool false) ?_ ?_)
                · simp only [execOp, eval_tmp, eval_const, t135]; simp [go_sem]
                · exact ⟨_, rfl, Below.refl _ _, rfl⟩
              · intro a W hb0 hs hp hi; have hb := undrew hb0; clear hb0
                have t136 : sl a 136 = .bool false := hp 1 (by decide)
                exact ite_y rfl (wp_val (sl a 136) rfl ⟨_, rfl, Below.refl _ _, t136⟩)
              · intro a W hb0 hs hp hi; have hb := undrew hb0; clear hb0
                have tg : sl a 137 = .bool false := hp 2 (by decide)
                have t28 : sl a 28 = .int .i64 0 := hi 28 (by decide)
                exact ite_y (wanted_yes rfl rfl (by have hz : a.tmps.size = 238 := hs; rw [hz]; decide) tg) (wp_val (sl a 28) rfl ⟨_, rfl, Below.refl _ _, t28⟩)
              · intro a W hb0 hs hp hi; have hb := undrew hb0; clear hb0
                have tg : sl a 137 = .bool false := hp 2 (by decide)
                have t138 : sl a 138 = .int .i64 0 := hp 3 (by decide)
                refine ite_y (wanted_yes rfl rfl (by have hz : a.tmps.size = 238 := hs; rw [hz]; decide) tg) (wp_val (.bool false) ?_ ?_)
                · simp only [execOp, eval_tmp, eval_const, t138]; simp [go_sem]
                · exact ⟨_, rfl, Below.refl _ _, rfl⟩
              · intro a W hb0 hs hp hi; have hb := undrew hb0; clear hb0
                have t137 : sl a 137 = .bool false := hp 2 (by decide)
                have t139 : sl a 139 = .bool false := hp 4 (by decide)
                refine ite_y rfl (wp_val (.bool false) ?_ ?_)
                · simp only [execOp, eval_tmp, eval_const, t137, t139]; simp [go_sem]
                · exact ⟨_, rfl, Below.refl _ _, rfl⟩
              · intro a W hb0 hs hp hi; have hb := undrew hb0; clear hb0
                have t140 : sl a 140 = .bool false := hp 5 (by decide)
                exact ite_y rfl (wp_val (sl a 140) rfl ⟨_, rfl, Below.refl _ _, t140⟩)
              · intro a W hb0 hs hp hi; have hb := undrew hb0; clear hb0
                have tg : sl a 141 = .bool false := hp 6 (by decide)
                have t25 : sl a 25 = .int .i64 1 := hi 25 (by decide)
                exact ite_y (wanted_yes rfl rfl (by have hz : a.tmps.size = 238 := hs; rw [hz]; decide) tg) (wp_val (sl a 25) rfl ⟨_, rfl, Below.refl _ _, t25⟩)
              · intro a W hb0 hs hp hi; have hb := undrew hb0; clear hb0
                have tg : sl a 141 = .bool false := hp 6 (by decide)
                have t142 : sl a 142 = .int .i64 1 := hp 7 (by decide)
                refine ite_y (wanted_yes rfl rfl (by have hz : a.tmps.size = 238 := hs; rw [hz]; decide) tg) (wp_val (.bool false) ?_ ?_)
                · simp only [execOp, eval_tmp, eval_const, t142]; simp [go_sem]
                · exact ⟨_, rfl, Below.refl _ _, rfl⟩
              · intro a W hb0 hs hp hi; have hb := undrew hb0; clear hb0
                have t141 : sl a 141 = .bool false := hp 6 (by decide)
                have t143 : sl a 143 = .bool false := hp 8 (by decide)
                refine ite_y rfl (wp_val (.bool false) ?_ ?_)
                · simp only [execOp, eval_tmp, eval_const, t141, t143]; simp [go_sem]
                · exact ⟨_, rfl, Below.refl _ _, rfl⟩
              · intro a W hb0 hs hp hi; have hb := undrew hb0; clear hb0
                have t144 : sl a 144 = .bool false := hp 9 (by decide)
                exact ite_y rfl (wp_val (sl a 144) rfl ⟨_, rfl, Below.refl _ _, t144⟩)
              · intro a W hb0 hs hp hi; have hb := undrew hb0; clear hb0
                have tg : sl a 145 = .bool false := hp 10 (by decide)
                have t13 : sl a 13 = .pointer (some ⟨bs, 0, none⟩) := hi 13 (by decide)
                exact ite_y (wanted_yes rfl rfl (by have hz : a.tmps.size = 238 := hs; rw [hz]; decide) tg) (wp_val (sl a 13) rfl ⟨_, rfl, Below.refl _ _, t13⟩)
              · intro a W hb0 hs hp hi; have hb := undrew hb0; clear hb0
                have tg : sl a 145 = .bool false := hp 10 (by decide)
                have t146 : sl a 146 = .pointer (some ⟨bs, 0, none⟩) := hp 11 (by decide)
                refine ite_y (wanted_yes rfl rfl (by have hz : a.tmps.size = 238 := hs; rw [hz]; decide) tg) (wp_enter 44 #[.pointer (some ⟨bs, 0, none⟩)] ?_ (Rank_any' B bs j n n' v' _ W (SE.out.s.keep hb)) ?_)
                · simp only [execOp, resolve, List.map_toArray, List.map, eval_tmp, eval_func, eval_const, t146]; simp [go_sem]
                · rintro e W' ⟨rfl, rfl⟩; exact ⟨_, rfl, _, rfl, Below.refl _ _, rfl⟩
              · intro a W hb0 hs hp hi; have hb := undrew hb0; clear hb0
                have tg : sl a 145 = .bool false := hp 10 (by decide)
                have tt : sl a 27 = .pointer (some ⟨b27, 0, none⟩) := hi 27 (by decide)
                refine ite_y (wanted_yes rfl rfl (by have hz : a.tmps.size = 238 := hs; rw [hz]; decide) tg) (wp_load_row 27 (.tmp 27) rfl b27 tt 27 #[.int .i64 z, .int .i64 j, .slice q8 n8 c8] (0, 0) _ ((hb.block _ (blk_lt BX.out)).trans BX.out) Try.underlying27 rfl info_grid ?_)
                exact ⟨_, rfl, Below.refl _ _, rfl⟩
              · intro a W hb0 hs hp hi; have hb := undrew hb0; clear hb0
                have tg : sl a 145 = .bool false := hp 10 (by decide)
                have t148 : sl a 148 = .agg #[.int .i64 z, .int .i64 j, .slice q8 n8 c8] := hp 13 (by decide)
                refine ite_y (wanted_yes rfl rfl (by have hz : a.tmps.size = 238 := hs; rw [hz]; decide) tg) (wp_enter 20 #[.agg #[.int .i64 z, .int .i64 j, .slice q8 n8 c8]] ?_ (HGR.out W (G8.out.keep hb)) ?_)
                · simp only [execOp, resolve, List.map_toArray, List.map, eval_tmp, eval_func, eval_const, t148]; simp [go_sem]
                · rintro e W' ⟨rfl, hw⟩; exact ⟨_, rfl, _, rfl, hw, rfl⟩
              · intro a W hb0 hs hp hi; have hb := undrew hb0; clear hb0
                have tg : sl a 145 = .bool false := hp 10 (by decide)
                have t147 : sl a 147 = .int .i64 n' := hp 12 (by decide)
                have t149 : sl a 149 = .int .i64 n' := hp 14 (by decide)
                refine ite_y (wanted_yes rfl rfl (by have hz : a.tmps.size = 238 := hs; rw [hz]; decide) tg) (wp_val (.bool false) ?_ ?_)
                · simp only [execOp, eval_tmp, eval_const, t147, t149]; simp [go_sem]
                · exact ⟨_, rfl, Below.refl _ _, rfl⟩
              · intro a W hb0 hs hp hi; have hb := undrew hb0; clear hb0
                have t145 : sl a 145 = .bool false := hp 10 (by decide)
                have t150 : sl a 150 = .bool false := hp 15 (by decide)
                refine ite_y rfl (wp_val (.bool false) ?_ ?_)
                · simp only [execOp, eval_tmp, eval_const, t145, t150]; simp [go_sem]
                · exact ⟨_, rfl, Below.refl _ _, rfl⟩
              · intro a W hb0 hs hp hi; have hb := undrew hb0; clear hb0
                have t151 : sl a 151 = .bool false := hp 16 (by decide)
                exact ite_y rfl (wp_val (sl a 151) rfl ⟨_, rfl, Below.refl _ _, t151⟩)
              · intro a W hb0 hs hp hi; have hb := undrew hb0; clear hb0
                have tg : sl a 152 = .bool false := hp 17 (by decide)
                have t25 : sl a 25 = .int .i64 1 := hi 25 (by decide)
                exact ite_y (wanted_yes rfl rfl (by have hz : a.tmps.size = 238 := hs; rw [hz]; decide) tg) (wp_val (sl a 25) rfl ⟨_, rfl, Below.refl _ _, t25⟩)
              · intro a W hb0 hs hp hi; have hb := undrew hb0; clear hb0
                have tg : sl a 152 = .bool false := hp 17 (by decide)
                have t153 : sl a 153 = .int .i64 1 := hp 18 (by decide)
                refine ite_y (wanted_yes rfl rfl (by have hz : a.tmps.size = 238 := hs; rw [hz]; decide) tg) (wp_val (.bool false) ?_ ?_)
                · simp only [execOp, eval_tmp, eval_const, t153]; simp [go_sem]
                · exact ⟨_, rfl, Below.refl _ _, rfl⟩
              · intro a W hb0 hs hp hi; have hb := undrew hb0; clear hb0
                have tg : sl a 152 = .bool false := hp 17 (by decide)
                have t13 : sl a 13 = .pointer (some ⟨bs, 0, none⟩) := hi 13 (by decide)
                exact ite_y (wanted_yes rfl rfl (by have hz : a.tmps.size = 238 := hs; rw [hz]; decide) tg) (wp_val (sl a 13) rfl ⟨_, rfl, Below.refl _ _, t13⟩)
              · intro a W hb0 hs hp hi; have hb := undrew hb0; clear hb0
                have tg : sl a 152 = .bool false := hp 17 (by decide)
                have t155 : sl a 155 = .pointer (some ⟨bs, 0, none⟩) := hp 20 (by decide)
                refine ite_y (wanted_yes rfl rfl (by have hz : a.tmps.size = 238 := hs; rw [hz]; decide) tg) (wp_enter 44 #[.pointer (some ⟨bs, 0, none⟩)] ?_ (Rank_any' B bs j n n' v' _ W (SE.out.s.keep hb)) ?_)
                · simp only [execOp, resolve, List.map_toArray, List.map, eval_tmp, eval_func, eval_const, t155]; simp [go_sem]
                · rintro e W' ⟨rfl, rfl⟩; exact ⟨_, rfl, _, rfl, Below.refl _ _, rfl⟩
              · intro a W hb0 hs hp hi; have hb := undrew hb0; clear hb0
                have tg : sl a 152 = .bool false := hp 17 (by decide)
                have t24 : sl a 24 = .int .i64 nK := hi 24 (by decide)
                exact ite_y (wanted_yes rfl rfl (by have hz : a.tmps.size = 238 := hs; rw [hz]; decide) tg) (wp_val (sl a 24) rfl ⟨_, rfl, Below.refl _ _, t24⟩)
              · intro a W hb0 hs hp hi; have hb := undrew hb0; clear hb0
                have tg : sl a 152 = .bool false := hp 17 (by decide)
                have t157 : sl a 157 = .int .i64 nK := hp 22 (by decide)
                refine ite_y (wanted_yes rfl rfl (by have hz : a.tmps.size = 238 := hs; rw [hz]; decide) tg) (wp_val (.int .i64 z1) ?_ ?_)
                · simp only [execOp, eval_tmp, eval_const, t157]; simp [go_sem, HA2.out]
                · exact ⟨_, rfl, Below.refl _ _, rfl⟩
              · intro a W hb0 hs hp hi; have hb := undrew hb0; clear hb0
                have tg : sl a 152 = .bool false := hp 17 (by decide)
                have t156 : sl a 156 = .int .i64 n' := hp 21 (by decide)
                have t158 : sl a 158 = .int .i64 z1 := hp 23 (by decide)
                refine ite_y (wanted_yes rfl rfl (by have hz : a.tmps.size = 238 := hs; rw [hz]; decide) tg) (wp_val (.bool false) ?_ ?_)
                · simp only [execOp, eval_tmp, eval_const, t156, t158]; simp [go_sem, hZ, hZ2]
                · exact ⟨_, rfl, Below.refl _ _, rfl⟩
              · intro a W hb0 hs hp hi; have hb := undrew hb0; clear hb0
                have tg : sl a 152 = .bool false := hp 17 (by decide)
                have t154 : sl a 154 = .bool false := hp 19 (by decide)
                have t159 : sl a 159 = .bool false := hp 24 (by decide)
                refine ite_y (wanted_yes rfl rfl (by have hz : a.tmps.size = 238 := hs; rw [hz]; decide) tg) (wp_val (.bool false) ?_ ?_)
                · simp only [execOp, eval_tmp, eval_const, t154, t159]; simp [go_sem]
                · exact ⟨_, rfl, Below.refl _ _, rfl⟩
              · intro a W hb0 hs hp hi; have hb := undrew hb0; clear hb0
                have t152 : sl a 152 = .bool false := hp 17 (by decide)
                have t160 : sl a 160 = .bool false := hp 25 (by decide)
                refine ite_y rfl (wp_val (.bool false) ?_ ?_)
                · simp only [execOp, eval_tmp, eval_const, t152, t160]; simp [go_sem]
                · exact ⟨_, rfl, Below.refl _ _, rfl⟩
            intro a wk hb hs hd hI ht
            have ha := act_is [135, 136, 137, 138, 139, 140, 141, 142, 143, 144, 145, 146, 147, 148, 149, 150, 151, 152, 153, 154, 155, 156, 157, 158, 159, 160, 161] hs hd ht (by decide)
            have t161 : sl a 161 = .bool false := hI 26 (by decide)
            simp only [List.foldl, t161] at ha
            generalize sl a 135 = u135 at ha
            generalize sl a 136 = u136 at ha
            generalize sl a 137 = u137 at ha
            generalize sl a 138 = u138 at ha
            generalize sl a 139 = u139 at ha
            generalize sl a 140 = u140 at ha
            generalize sl a 141 = u141 at ha
            generalize sl a 142 = u142 at ha
            generalize sl a 143 = u143 at ha
            generalize sl a 144 = u144 at ha
            generalize sl a 145 = u145 at ha
            generalize sl a 146 = u146 at ha
            generalize sl a 147 = u147 at ha
            generalize sl a 148 = u148 at ha
            generalize sl a 149 = u149 at ha
            generalize sl a 150 = u150 at ha
            generalize sl a 151 = u151 at ha
            generalize sl a 152 = u152 at ha
            generalize sl a 153 = u153 at ha
            generalize sl a 154 = u154 at ha
            generalize sl a 155 = u155 at ha
            generalize sl a 156 = u156 at ha
            generalize sl a 157 = u157 at ha
            generalize sl a 158 = u158 at ha
            generalize sl a 159 = u159 at ha
            generalize sl a 160 = u160 at ha
            simp only [Act.put, List.setIfInBounds_toArray, List.set_cons_zero, List.set_cons_succ] at ha
            rw [ha]
            clear ha hI ht
            have SK := Lib.hid (SE.out.keep hb)
            rw [← hX1.out, ← hW1.out] at SK
            rw [← hX1.out] at SY1
            clear hb hZ hZ2 HA2 SE G8 BX HGR HN' hSY KL HXR HPX HPX1 HPR HWL HWN HFR hwl hX1 hW1
            go_wp2
            go_roundw
            case rel => exact ⟨i + 1, n', v', putK K x, some ⟨gl, 0, none⟩, qa, cl', ca, by omega, by go_num, rfl, rfl, SK.out, SY1.out⟩
            case measure => simp [intOf]; omega
          · have hcode : codeF K x = 0 := codeF_put hl
            have hK' : (putK K x).length = nK + 1 := by rw [putK_more hl, KL.out]
            have hn' : n' = z1 := by have g1 := SE.out.s.rows.len; omega
            have hZ : ((n' : Int) == (z1 : Int)) = true := by simp; omega
            have hZ2 : n' = z1 := hn'
            rw [hcode]
            clear hl hcode hK' hn' hz1
            refine wp_region_shapes (fun ix => ([.val (.int .i64 0), .val (.bool false), .val (.bool false), .val (.int .i64 0), .val (.bool false), .val (.bool false), .val (.bool false), .val (.int .i64 0), .val (.bool false), .val (.bool false), .val (.bool false), .val (.pointer (some ⟨bs, 0, none⟩)), .val (.int .i64 n'), .val (.agg #[.int .i64 z, .int .i64 j, .slice q8 n8 c8]), .val (.int .i64 n'), .val (.bool false), .val (.bool false), .val (.bool false), .val (.int .i64 0), .val (.bool true), .val (.pointer (some ⟨bs, 0, none⟩)), .val (.int .i64 n'), .val (.int .i64 nK), .val (.int .i64 z1), .val (.bool true), .val (.bool false), .val (.bool false)][ix]?).getD (.any)) 238 rfl (by kernel_rfl) (by decide) (by decide) (by decide) ?_ ?_
            · refine ⟨?_, ?_, ?_, ?_, ?_, ?_, ?_, ?_, ?_, ?_, ?_, ?_, ?_, ?_, ?_, ?_, ?_, ?_, ?_, ?_, ?_, ?_, ?_, ?_, ?_, ?_, ?_, trivial⟩
              · intro a W hb0 hs hp hi; have hb := undrew hb0; clear hb0
                have t26 : sl a 26 = .int .i64 0 := hi 26 (by decide)
                exact ite_y rfl (wp_val (sl a 26) rfl ⟨_, rfl, Below.refl _ _, t26⟩)
              · intro a W hb0 hs hp hi; have hb := undrew hb0; clear hb0
                have t135 : sl a 135 = .int .i64 0 := hp 0 (by decide)
                refine ite_y rfl (wp_val (.bool false) ?_ ?_)
                · simp only [execOp, eval_tmp, eval_const, t135]; simp [go_sem]
                · exact ⟨_, rfl, Below.refl _ _, rfl⟩
              · intro a W hb0 hs hp hi; have hb := undrew hb0; clear hb0
                have t136 : sl a 136 = .bool false := hp 1 (by decide)
                exact ite_y rfl (wp_val (sl a 136) rfl ⟨_, rfl, Below.refl _ _, t136⟩)
              · intro a W hb0 hs hp hi; have hb := undrew hb0; clear hb0
                have tg : sl a 137 = .bool false := hp 2 (by decide)
                have t28 : sl a 28 = .int .i64 0 := hi 28 (by decide)
                exact ite_y (wanted_yes rfl rfl (by have hz : a.tmps.size = 238 := hs; rw [hz]; decide) tg) (wp_val (sl a 28) rfl ⟨_, rfl, Below.refl _ _, t28⟩)
              · intro a W hb0 hs hp hi; have hb := undrew hb0; clear hb0
                have tg : sl a 137 = .bool false := hp 2 (by decide)
                have t138 : sl a 138 = .int .i64 0 := hp 3 (by decide)
                refine ite_y (wanted_yes rfl rfl (by have hz : a.tmps.size = 238 := hs; rw [hz]; decide) tg) (wp_val (.bool false) ?_ ?_)
                · simp only [execOp, eval_tmp, eval_const, t138]; simp [go_sem]
                · exact ⟨_, rfl, Below.refl _ _, rfl⟩
              · intro a W hb0 hs hp hi; have hb := undrew hb0; clear hb0
                have t137 : sl a 137 = .bool false := hp 2 (by decide)
                have t139 : sl a 139 = .bool false := hp 4 (by decide)
                refine ite_y rfl (wp_val (.bool false) ?_ ?_)
                · simp only [execOp, eval_tmp, eval_const, t137, t139]; simp [go_sem]
                · exact ⟨_, rfl, Below.refl _ _, rfl⟩
              · intro a W hb0 hs hp hi; have hb := undrew hb0; clear hb0
                have t140 : sl a 140 = .bool false := hp 5 (by decide)
                exact ite_y rfl (wp_val (sl a 140) rfl ⟨_, rfl, Below.refl _ _, t140⟩)
              · intro a W hb0 hs hp hi; have hb := undrew hb0; clear hb0
                have tg : sl a 141 = .bool false := hp 6 (by decide)
                have t25 : sl a 25 = .int .i64 0 := hi 25 (by decide)
                exact ite_y (wanted_yes rfl rfl (by have hz : a.tmps.size = 238 := hs; rw [hz]; decide) tg) (wp_val (sl a 25) rfl ⟨_, rfl, Below.refl _ _, t25⟩)
              · intro a W hb0 hs hp hi; have hb := undrew hb0; clear hb0
                have tg : sl a 141 = .bool false := hp 6 (by decide)
                have t142 : sl a 142 = .int .i64 0 := hp 7 (by decide)
                refine ite_y (wanted_yes rfl rfl (by have hz : a.tmps.size = 238 := hs; rw [hz]; decide) tg) (wp_val (.bool false) ?_ ?_)
                · simp only [execOp, eval_tmp, eval_const, t142]; simp [go_sem]
                · exact ⟨_, rfl, Below.refl _ _, rfl⟩
              · intro a W hb0 hs hp hi; have hb := undrew hb0; clear hb0
                have t141 : sl a 141 = .bool false := hp 6 (by decide)
                have t143 : sl a 143 = .bool false := hp 8 (by decide)
                refine ite_y rfl (wp_val (.bool false) ?_ ?_)
                · simp only [execOp, eval_tmp, eval_const, t141, t143]; simp [go_sem]
                · exact ⟨_, rfl, Below.refl _ _, rfl⟩
              · intro a W hb0 hs hp hi; have hb := undrew hb0; clear hb0
                have t144 : sl a 144 = .bool false := hp 9 (by decide)
                exact ite_y rfl (wp_val (sl a 144) rfl ⟨_, rfl, Below.refl _ _, t144⟩)
              · intro a W hb0 hs hp hi; have hb := undrew hb0; clear hb0
                have tg : sl a 145 = .bool false := hp 10 (by decide)
                have t13 : sl a 13 = .pointer (some ⟨bs, 0, none⟩) := hi 13 (by decide)
                exact ite_y (wanted_yes rfl rfl (by have hz : a.tmps.size = 238 := hs; rw [hz]; decide) tg) (wp_val (sl a 13) rfl ⟨_, rfl, Below.refl _ _, t13⟩)
              · intro a W hb0 hs hp hi; have hb := undrew hb0; clear hb0
                have tg : sl a 145 = .bool false := hp 10 (by decide)
                have t146 : sl a 146 = .pointer (some ⟨bs, 0, none⟩) := hp 11 (by decide)
                refine ite_y (wanted_yes rfl rfl (by have hz : a.tmps.size = 238 := hs; rw [hz]; decide) tg) (wp_enter 44 #[.pointer (some ⟨bs, 0, none⟩)] ?_ (Rank_any' B bs j n n' v' _ W (SE.out.s.keep hb)) ?_)
                · simp only [execOp, resolve, List.map_toArray, List.map, eval_tmp, eval_func, eval_const, t146]; simp [go_sem]
                · rintro e W' ⟨rfl, rfl⟩; exact ⟨_, rfl, _, rfl, Below.refl _ _, rfl⟩
              · intro a W hb0 hs hp hi; have hb := undrew hb0; clear hb0
                have tg : sl a 145 = .bool false := hp 10 (by decide)
                have tt : sl a 27 = .pointer (some ⟨b27, 0, none⟩) := hi 27 (by decide)
                refine ite_y (wanted_yes rfl rfl (by have hz : a.tmps.size = 238 := hs; rw [hz]; decide) tg) (wp_load_row 27 (.tmp 27) rfl b27 tt 27 #[.int .i64 z, .int .i64 j, .slice q8 n8 c8] (0, 0) _ ((hb.block _ (blk_lt BX.out)).trans BX.out) Try.underlying27 rfl info_grid ?_)
                exact ⟨_, rfl, Below.refl _ _, rfl⟩
              · intro a W hb0 hs hp hi; have hb := undrew hb0; clear hb0
                have tg : sl a 145 = .bool false := hp 10 (by decide)
                have t148 : sl a 148 = .agg #[.int .i64 z, .int .i64 j, .slice q8 n8 c8] := hp 13 (by decide)
                refine ite_y (wanted_yes rfl rfl (by have hz : a.tmps.size = 238 := hs; rw [hz]; decide) tg) (wp_enter 20 #[.agg #[.int .i64 z, .int .i64 j, .slice q8 n8 c8]] ?_ (HGR.out W (G8.out.keep hb)) ?_)
                · simp only [execOp, resolve, List.map_toArray, List.map, eval_tmp, eval_func, eval_const, t148]; simp [go_sem]
                · rintro e W' ⟨rfl, hw⟩; exact ⟨_, rfl, _, rfl, hw, rfl⟩
              · intro a W hb0 hs hp hi; have hb := undrew hb0; clear hb0
                have tg : sl a 145 = .bool false := hp 10 (by decide)
                have t147 : sl a 147 = .int .i64 n' := hp 12 (by decide)
                have t149 : sl a 149 = .int .i64 n' := hp 14 (by decide)
                refine ite_y (wanted_yes rfl rfl (by have hz : a.tmps.size = 238 := hs; rw [hz]; decide) tg) (wp_val (.bool false) ?_ ?_)
                · simp only [execOp, eval_tmp, eval_const, t147, t149]; simp [go_sem]
                · exact ⟨_, rfl, Below.refl _ _, rfl⟩
              · intro a W hb0 hs hp hi; have hb := undrew hb0; clear hb0
                have t145 : sl a 145 = .bool false := hp 10 (by decide)
                have t150 : sl a 150 = .bool false := hp 15 (by decide)
                refine ite_y rfl (wp_val (.bool false) ?_ ?_)
                · simp only [execOp, eval_tmp, eval_const, t145, t150]; simp [go_sem]
                · exact ⟨_, rfl, Below.refl _ _, rfl⟩
              · intro a W hb0 hs hp hi; have hb := undrew hb0; clear hb0
                have t151 : sl a 151 = .bool false := hp 16 (by decide)
                exact ite_y rfl (wp_val (sl a 151) rfl ⟨_, rfl, Below.refl _ _, t151⟩)
              · intro a W hb0 hs hp hi; have hb := undrew hb0; clear hb0
                have tg : sl a 152 = .bool false := hp 17 (by decide)
                have t25 : sl a 25 = .int .i64 0 := hi 25 (by decide)
                exact ite_y (wanted_yes rfl rfl (by have hz : a.tmps.size = 238 := hs; rw [hz]; decide) tg) (wp_val (sl a 25) rfl ⟨_, rfl, Below.refl _ _, t25⟩)
              · intro a W hb0 hs hp hi; have hb := undrew hb0; clear hb0
                have tg : sl a 152 = .bool false := hp 17 (by decide)
                have t153 : sl a 153 = .int .i64 0 := hp 18 (by decide)
                refine ite_y (wanted_yes rfl rfl (by have hz : a.tmps.size = 238 := hs; rw [hz]; decide) tg) (wp_val (.bool true) ?_ ?_)
                · simp only [execOp, eval_tmp, eval_const, t153]; simp [go_sem]
                · exact ⟨_, rfl, Below.refl _ _, rfl⟩
              · intro a W hb0 hs hp hi; have hb := undrew hb0; clear hb0
                have tg : sl a 152 = .bool false := hp 17 (by decide)
                have t13 : sl a 13 = .pointer (some ⟨bs, 0, none⟩) := hi 13 (by decide)
                exact ite_y (wanted_yes rfl rfl (by have hz : a.tmps.size = 238 := hs; rw [hz]; decide) tg) (wp_val (sl a 13) rfl ⟨_, rfl, Below.refl _ _, t13⟩)
              · intro a W hb0 hs hp hi; have hb := undrew hb0; clear hb0
                have tg : sl a 152 = .bool false := hp 17 (by decide)
                have t155 : sl a 155 = .pointer (some ⟨bs, 0, none⟩) := hp 20 (by decide)
                refine ite_y (wanted_yes rfl rfl (by have hz : a.tmps.size = 238 := hs; rw [hz]; decide) tg) (wp_enter 44 #[.pointer (some ⟨bs, 0, none⟩)] ?_ (Rank_any' B bs j n n' v' _ W (SE.out.s.keep hb)) ?_)
                · simp only [execOp, resolve, List.map_toArray, List.map, eval_tmp, eval_func, eval_const, t155]; simp [go_sem]
                · rintro e W' ⟨rfl, rfl⟩; exact ⟨_, rfl, _, rfl, Below.refl _ _, rfl⟩
              · intro a W hb0 hs hp hi; have hb := undrew hb0; clear hb0
                have tg : sl a 152 = .bool false := hp 17 (by decide)
                have t24 : sl a 24 = .int .i64 nK := hi 24 (by decide)
                exact ite_y (wanted_yes rfl rfl (by have hz : a.tmps.size = 238 := hs; rw [hz]; decide) tg) (wp_val (sl a 24) rfl ⟨_, rfl, Below.refl _ _, t24⟩)
              · intro a W hb0 hs hp hi; have hb := undrew hb0; clear hb0
                have tg : sl a 152 = .bool false := hp 17 (by decide)
                have t157 : sl a 157 = .int .i64 nK := hp 22 (by decide)
                refine ite_y (wanted_yes rfl rfl (by have hz : a.tmps.size = 238 := hs; rw [hz]; decide) tg) (wp_val (.int .i64 z1) ?_ ?_)
                · simp only [execOp, eval_tmp, eval_const, t157]; simp [go_sem, HA2.out]
                · exact ⟨_, rfl, Below.refl _ _, rfl⟩
              · intro a W hb0 hs hp hi; have hb := undrew hb0; clear hb0
                have tg : sl a 152 = .bool false := hp 17 (by decide)
                have t156 : sl a 156 = .int .i64 n' := hp 21 (by decide)
                have t158 : sl a 158 = .int .i64 z1 := hp 23 (by decide)
                refine ite_y (wanted_yes rfl rfl (by have hz : a.tmps.size = 238 := hs; rw [hz]; decide) tg) (wp_val (.bool true) ?_ ?_)
                · simp only [execOp, eval_tmp, eval_const, t156, t158]; simp [go_sem, hZ, hZ2]
                · exact ⟨_, rfl, Below.refl _ _, rfl⟩
              · intro a W hb0 hs hp hi; have hb := undrew hb0; clear hb0
                have tg : sl a 152 = .bool false := hp 17 (by decide)
                have t154 : sl a 154 = .bool true := hp 19 (by decide)
                have t159 : sl a 159 = .bool true := hp 24 (by decide)
                refine ite_y (wanted_yes rfl rfl (by have hz : a.tmps.size = 238 := hs; rw [hz]; decide) tg) (wp_val (.bool false) ?_ ?_)
                · simp only [execOp, eval_tmp, eval_const, t154, t159]; simp [go_sem]
                · exact ⟨_, rfl, Below.refl _ _, rfl⟩
              · intro a W hb0 hs hp hi; have hb := undrew hb0; clear hb0
                have t152 : sl a 152 = .bool false := hp 17 (by decide)
                have t160 : sl a 160 = .bool false := hp 25 (by decide)
                refine ite_y rfl (wp_val (.bool false) ?_ ?_)
                · simp only [execOp, eval_tmp, eval_const, t152, t160]; simp [go_sem]
                · exact ⟨_, rfl, Below.refl _ _, rfl⟩
            intro a wk hb hs hd hI ht
            have ha := act_is [135, 136, 137, 138, 139, 140, 141, 142, 143, 144, 145, 146, 147, 148, 149, 150, 151, 152, 153, 154, 155, 156, 157, 158, 159, 160, 161] hs hd ht (by decide)
            have t161 : sl a 161 = .bool false := hI 26 (by decide)
            simp only [List.foldl, t161] at ha
            generalize sl a 135 = u135 at ha
            generalize sl a 136 = u136 at ha
            generalize sl a 137 = u137 at ha
            generalize sl a 138 = u138 at ha
            generalize sl a 139 = u139 at ha
            generalize sl a 140 = u140 at ha
            generalize sl a 141 = u141 at ha
            generalize sl a 142 = u142 at ha
            generalize sl a 143 = u143 at ha
            generalize sl a 144 = u144 at ha
            generalize sl a 145 = u145 at ha
            generalize sl a 146 = u146 at ha
            generalize sl a 147 = u147 at ha
            generalize sl a 148 = u148 at ha
            generalize sl a 149 = u149 at ha
            generalize sl a 150 = u150 at ha
            generalize sl a 151 = u151 at ha
            generalize sl a 152 = u152 at ha
            generalize sl a 153 = u153 at ha
            generalize sl a 154 = u154 at ha
            generalize sl a 155 = u155 at ha
            generalize sl a 156 = u156 at ha
            generalize sl a 157 = u157 at ha
            generalize sl a 158 = u158 at ha
            generalize sl a 159 = u159 at ha
            generalize sl a 160 = u160 at ha
            simp only [Act.put, List.setIfInBounds_toArray, List.set_cons_zero, List.set_cons_succ] at ha
            rw [ha]
            clear ha hI ht
            have SK := Lib.hid (SE.out.keep hb)
            rw [← hX1.out, ← hW1.out] at SK
            rw [← hX1.out] at SY1
            clear hb hZ hZ2 HA2 SE G8 BX HGR HN' hSY KL HXR HPX HPX1 HPR HWL HWN HFR hwl hX1 hW1
            go_wp2
            go_roundw
            case rel => exact ⟨i + 1, n', v', putK K x, some ⟨gl, 0, none⟩, qa, cl', ca, by omega, by go_num, rfl, rfl, SK.out, SY1.out⟩
            case measure => simp [intOf]; omega
        · have hge : (m2 : Int) ≤ (i : Int) := by omega
          obtain rfl : i = m2 := by omega
          have hvt : VE.take i = VE := List.take_of_length_le (by rw [HL2.out]; exact Nat.le_refl _)
          rw [hvt] at hST hSY
          have HPX := Lib.hid (HXM.out VE)
          obtain ⟨XS, hXS⟩ : ∃ XS, XS = VE.map (fun v => rowC n FX (fitR j v)) := ⟨_, rfl⟩
          obtain ⟨WS, hWS⟩ : ∃ WS, WS = VE.map (fitR j) := ⟨_, rfl⟩
          rw [← hXS] at hST hSY HPX
          rw [← hWS] at hST
          have XL : Hid (XS.length = i) := by rw [hXS, List.length_map]; exact HL2.out
          have ST1 := Lib.hid hST.out; have SY1 := Lib.hid hSY.out
          clear hXS hWS hvt hST hSY HXM HXF HVE
          go_wp2
          go_loopw [29] (fun v wx => ∃ (a e nM : Nat) (vu : Value) (M : List Rw), a + e = i ∧ v = .int .i64 ((e : Int) - 1) ∧ Hid (SSt B wN j n bs vs nK K bu vu nM M (.slice ql i cl) i XS (.slice qv i cv) WS wx) ∧ Hid (Sys j n (kD (XS.reverse.take a)) M)) (fun v _ => (intOf v + 1).toNat)
          case atStart => exact ⟨0, i, 0, .slice none 0 0, [], by omega, by go_num, ST1.out, by simpa [kD, Hid] using Sys.nil j n⟩
          case round =>
            clear ST1
            obtain ⟨a, e, nM, vu, M, hae, rfl, hST, hSY⟩ := hrel
            cases e with
            | succ e =>
              have hcast : (((e + 1 : Nat) : Int) - 1) = (e : Int) := by omega
              rw [hcast]
              clear hcast
              have hei : e < i := by omega
              have ei : (e : Int) < (i : Int) := by omega
              have e0 : (0 : Int) ≤ (e : Int) := by omega
              obtain ⟨gl, x, q1, m1, d1, q2, m3, d2, rfl, E1, E2, hx, t1, t2⟩ := hST.out.l.at hei
              have T1 := Lib.hid t1; have T2 := Lib.hid t2
              have HXR := Lib.hid (HPX.out x (List.mem_of_getElem? hx.out))
              obtain rfl : j = m1 := by have g1 := t1.len; rw [HXR.out.1.1] at g1; exact g1
              obtain rfl : n = m3 := by have g1 := t2.len; rw [HXR.out.1.2] at g1; exact g1
              have HTK : Hid (XS.reverse.take (a + 1) = XS.reverse.take a ++ [x]) := by
                have g : XS.reverse[a]? = some x := by
                  rw [List.getElem?_reverse (by rw [XL.out]; omega), XL.out, show i - 1 - a = e by omega]; exact hx.out
                show _ = _
                rw [List.take_add_one, g]; rfl
              have ML : Hid (M.length = nM) := hST.out.u.rows.len
              have hnM : nM ≤ 20 := by have := hSY.out.red.le; have := ML.out; omega
              have SYN : Hid (Sys j n (kD (XS.reverse.take (a + 1))) (putK M x)) := by rw [HTK.out]; exact Sys.putX hSY.out HXR.out.1
              clear t1 t2 hx
              go_wp2_with fail
              clear E1 E2
              refine Calls.mono (EPut_fit B bu j n nM vu M q1 q2 d1 d2 x wr hST.out.u T1.out T2.out hSY.out.red (by omega) (by omega) (by omega)) ?_
              rintro e' wc ⟨rfl, v', n', hE, hC, hv⟩
              have SC := Lib.hid (hST.out.putU hC hE hv)
              generalize codeF M x = CC
              clear hE hC hv hST hSY T1 T2 HTK ML HXR
              go_wp2
              go_roundw
              case rel => exact ⟨a + 1, e, n', v', putK M x, by omega, by go_num, SC.out, SYN.out⟩
              case measure => (simp [intOf] <;> omega)
            | zero =>
              have ha : a = i := by omega
              have hKM : K = M := by
                have h3 := hSY.out
                rw [ha, List.take_of_length_le (by rw [List.length_reverse, XL.out]; exact Nat.le_refl _)] at h3
                exact sys_same SY1.out h3 HPX.out (fun x hx => HPX.out x (List.mem_reverse.1 hx)) (fun x => List.mem_reverse.symm)
              subst hKM
              have hnn : nK = nM := by rw [← hST.out.s.rows.len]; exact hST.out.u.rows.len
              subst hnn
              have RED := Lib.hid SY1.out.red
              have HRM : Hid (∀ r, r ∈ K → Room r.1.length ∧ Room r.2.length) := fun r hr => by
                obtain ⟨hf, -⟩ := RED.out.kept.rows r hr
                exact ⟨by rw [hf.1]; unfold Room; omega, by rw [hf.2]; unfold Room; omega⟩
              have KL : Hid (K.length = nK) := hST.out.s.rows.len
              have hnK : nK ≤ 20 := by have := RED.out.le; have := KL.out; omega
              have hneg : ((0 : Nat) : Int) - 1 < 0 := by omega
              have S9 := Lib.hid hST.out
              clear hST hSY ha
              go_wp2_with fail
              refine Calls.mono (ERows_any B bs j n nK vs K wr S9.out.s HRM.out (by omega)) ?_
              rintro e' wa ⟨va, rfl, hRA, hb⟩
              obtain ⟨qa, ca, rfl⟩ := hRA.shape
              have SA := Lib.hid (S9.out.keep hb); have RA := Lib.hid hRA
              clear hb hRA S9
              go_wp2_with fail
              refine Calls.mono (ERows_any B bu j n nK vu K wa SA.out.u HRM.out (by omega)) ?_
              rintro e' wb ⟨vb, rfl, hRB, hb⟩
              obtain ⟨qb, cb, rfl⟩ := hRB.shape
              have SB := Lib.hid (SA.out.keep hb); have RA2 := Lib.hid (RA.out.keep hb); have RB := Lib.hid hRB
              clear hb hRB SA RA
              go_wp2
              go_loopw [187] (fun v wx => ∃ ia : Nat, ia ≤ nK ∧ v = .int .i64 ia ∧ Hid (Below wb.heap.size wb wx)) (fun v _ => nK - (intOf v).toNat)
              case atStart => exact ⟨0, Nat.zero_le _, rfl, Below.refl _ _⟩
              case round =>
                obtain ⟨ia, haK, rfl, hB⟩ := hrel
                by_cases han : ia < nK
                · have an : (ia : Int) < (nK : Int) := by omega
                  obtain ⟨ga, kk, x1, y1, z1, x2, y2, z2, rfl, E1, E2, hk1, t1, t2⟩ := (RA2.out.keep hB.out).at han
                  obtain ⟨gb, k2, x3, y3, z3, x4, y4, z4, rfl, E3, E4, hk3, t3, t4⟩ := (RB.out.keep hB.out).at han
                  obtain rfl : kk = k2 := by have g1 := hk1.out; rw [hk3.out] at g1; cases g1; rfl
                  have T1 := Lib.hid t1; have T2 := Lib.hid t2; have T3 := Lib.hid t3; have T4 := Lib.hid t4
                  clear t1 t2 t3 t4 hk1 hk3
                  go_wp2
                  refine wp_region_shapes (fun ix => ([.val (.slice (some ⟨ga, 0, none⟩) nK ca), .val (.int .i64 ia), .val (.pointer (some ⟨ga, ia * 2, none⟩)), .val (.agg #[.slice x1 y1 z1, .slice x2 y2 z2]), .val (.slice (some ⟨gb, 0, none⟩) nK cb), .val (.int .i64 ia), .val (.pointer (some ⟨gb, ia * 2, none⟩)), .val (.agg #[.slice x3 y3 z3, .slice x4 y4 z4]), .val (.bool true), .val (.bool false)][ix]?).getD (.any)) 238 rfl (by kernel_rfl) (by decide) (by decide) (by decide) ?_ ?_
                  · refine ⟨?_, ?_, ?_, ?_, ?_, ?_, ?_, ?_, ?_, ?_, trivial⟩
                    · intro a W hb0 hs hp hi; have hb := undrew hb0; clear hb0
                      have t30 : sl a 30 = .slice (some ⟨ga, 0, none⟩) nK ca := hi 30 (by decide)
                      exact ite_y rfl (wp_val (sl a 30) rfl ⟨_, rfl, Below.refl _ _, t30⟩)
                    · intro a W hb0 hs hp hi; have hb := undrew hb0; clear hb0
                      have t32 : sl a 32 = .int .i64 ia := hi 32 (by decide)
                      exact ite_y rfl (wp_val (sl a 32) rfl ⟨_, rfl, Below.refl _ _, t32⟩)
                    · intro a W hb0 hs hp hi; have hb := undrew hb0; clear hb0
                      have ti0 : sl a 190 = .slice (some ⟨ga, 0, none⟩) nK ca := hp 0 (by decide)
                      have ti1 : sl a 191 = .int .i64 ia := hp 1 (by decide)
                      refine ite_y rfl (wp_val (.pointer (some ⟨ga, ia * 2, none⟩)) ?_ ?_)
                      · simp only [execOp, eval_tmp, eval_const, ti0, ti1]; simp [go_sem, an, han]
                      · exact ⟨_, rfl, Below.refl _ _, rfl⟩
                    · intro a W hb0 hs hp hi; have hb := undrew hb0; clear hb0
                      have tt : sl a 192 = .pointer (some ⟨ga, ia * 2, none⟩) := hp 2 (by decide)
                      have dd0 := (hb.cell (p := ⟨ga, ia * 2, none⟩) (lt_of_cell E1)).trans E1
                      have dd1 := (hb.cell (p := ⟨ga, ia * 2 + 1, none⟩) (lt_of_cell E2)).trans E2
                      refine ite_y rfl (wp_val (.agg #[.slice x1 y1 z1, .slice x2 y2 z2]) ?_ ?_)
                      · simp only [execOp, eval_tmp, tt]; simp [go_sem, dd0, dd1]
                      · exact ⟨_, rfl, Below.refl _ _, rfl⟩
                    · intro a W hb0 hs hp hi; have hb := undrew hb0; clear hb0
                      have t31 : sl a 31 = .slice (some ⟨gb, 0, none⟩) nK cb := hi 31 (by decide)
                      exact ite_y rfl (wp_val (sl a 31) rfl ⟨_, rfl, Below.refl _ _, t31⟩)
                    · intro a W hb0 hs hp hi; have hb := undrew hb0; clear hb0
                      have t32 : sl a 32 = .int .i64 ia := hi 32 (by decide)
                      exact ite_y rfl (wp_val (sl a 32) rfl ⟨_, rfl, Below.refl _ _, t32⟩)
                    · intro a W hb0 hs hp hi; have hb := undrew hb0; clear hb0
                      have ti0 : sl a 194 = .slice (some ⟨gb, 0, none⟩) nK cb := hp 4 (by decide)
                      have ti1 : sl a 195 = .int .i64 ia := hp 5 (by decide)
                      refine ite_y rfl (wp_val (.pointer (some ⟨gb, ia * 2, none⟩)) ?_ ?_)
                      · simp only [execOp, eval_tmp, eval_const, ti0, ti1]; simp [go_sem, an, han]
                      · exact ⟨_, rfl, Below.refl _ _, rfl⟩
                    · intro a W hb0 hs hp hi; have hb := undrew hb0; clear hb0
                      have tt : sl a 196 = .pointer (some ⟨gb, ia * 2, none⟩) := hp 6 (by decide)
                      have dd0 := (hb.cell (p := ⟨gb, ia * 2, none⟩) (lt_of_cell E3)).trans E3
                      have dd1 := (hb.cell (p := ⟨gb, ia * 2 + 1, none⟩) (lt_of_cell E4)).trans E4
                      refine ite_y rfl (wp_val (.agg #[.slice x3 y3 z3, .slice x4 y4 z4]) ?_ ?_)
                      · simp only [execOp, eval_tmp, tt]; simp [go_sem, dd0, dd1]
                      · exact ⟨_, rfl, Below.refl _ _, rfl⟩
                    · intro a W hb0 hs hp hi; have hb := undrew hb0; clear hb0
                      have t193 : sl a 193 = .agg #[.slice x1 y1 z1, .slice x2 y2 z2] := hp 3 (by decide)
                      have t197 : sl a 197 = .agg #[.slice x3 y3 z3, .slice x4 y4 z4] := hp 7 (by decide)
                      refine ite_y rfl (wp_enter 52 #[.agg #[.slice x1 y1 z1, .slice x2 y2 z2], .agg #[.slice x3 y3 z3, .slice x4 y4 z4]] ?_ (VSame_any x1 x2 x3 x4 y1 z1 y2 z2 y3 z3 y4 z4 kk.1 kk.2 kk.1 kk.2 W (T1.out.keep hb) (T2.out.keep hb) (T3.out.keep hb) (T4.out.keep hb)) ?_)
                      · simp only [execOp, resolve, List.map_toArray, List.map, eval_tmp, eval_func, eval_const, t193, t197]; simp [go_sem]
                      · rintro e W' ⟨rfl, hw⟩; exact ⟨_, rfl, _, rfl, hw, congrArg Value.bool (decide_eq_true rfl)⟩
                    · intro a W hb0 hs hp hi; have hb := undrew hb0; clear hb0
                      have t198 : sl a 198 = .bool true := hp 8 (by decide)
                      refine ite_y rfl (wp_val (.bool false) ?_ ?_)
                      · simp only [execOp, eval_tmp, eval_const, t198]; simp [go_sem]
                      · exact ⟨_, rfl, Below.refl _ _, rfl⟩
                  intro a wk hb hs hd hI ht
                  have ha := act_is [190, 191, 192, 193, 194, 195, 196, 197, 198, 199] hs hd ht (by decide)
                  have t199 : sl a 199 = .bool false := hI 9 (by decide)
                  simp only [List.foldl, t199] at ha
                  generalize sl a 190 = u190 at ha
                  generalize sl a 191 = u191 at ha
                  generalize sl a 192 = u192 at ha
                  generalize sl a 193 = u193 at ha
                  generalize sl a 194 = u194 at ha
                  generalize sl a 195 = u195 at ha
                  generalize sl a 196 = u196 at ha
                  generalize sl a 197 = u197 at ha
                  generalize sl a 198 = u198 at ha
                  simp only [Act.put, List.setIfInBounds_toArray, List.set_cons_zero, List.set_cons_succ] at ha
                  rw [ha]
                  clear ha hI ht
                  have B5 := Lib.hid (bl hB.out hb hB.out.size)
                  clear hb hB E1 E2 E3 E4 T1 T2 T3 T4
                  go_wp2
                  go_roundw
                  case rel => exact ⟨ia + 1, by omega, by go_num, B5.out⟩
                  case measure => simp [intOf]; omega
                · have hge2 : (nK : Int) ≤ (ia : Int) := by omega
                  have SC := Lib.hid (SB.out.keep hB.out)
                  clear hB RA2 RB SB
                  by_cases hlt : nK < j
                  · have hlt' : (nK : Int) < (j : Int) := by omega
                    go_wp2_with fail
                    refine Calls.mono (ESolve_less B bs j n nK vs K wr SC.out.s hlt) ?_
                    rintro e' wd ⟨rfl, hb⟩
                    have SD := Lib.hid (SC.out.keep hb)
                    clear hb SC hlt
                    go_wp2_with fail
                    refine Calls.mono (Rank_any' B bs j n nK vs K wd SD.out.s) ?_
                    rintro e' w' ⟨rfl, rfl⟩
                    have BF := Lib.hid (HN.out _ SD.out.bel)
                    clear SD
                    go_wp2
                    go_ret
                    exact ⟨rfl, BF.out⟩
                  · have hnk : j = nK := by have g1 := RED.out.le; have g2 := KL.out; omega
                    subst hnk
                    clear hlt
                    go_wp2_with fail
                    refine Calls.mono (ESolve_full B bs j n vs K wr SC.out.s (fun r hr => (HRM.out r hr).2) (by omega)) ?_
                    rintro e' wd ⟨qs, cs, rfl, hO, hb⟩
                    have SD := Lib.hid (SC.out.keep hb); have OD := Lib.hid hO.sl2
                    clear hb hO SC
                    go_wp2_with fail
                    refine Calls.mono (Rank_any' B bs j n j vs K wd SD.out.s) ?_
                    rintro e' w' ⟨rfl, rfl⟩
                    have FD := Lib.hid (HFT.out _ SD.out.bel)
                    have BD := Lib.hid (HN.out _ SD.out.bel)
                    clear SD HRM
                    go_wp2
                    go_loopw [214] (fun v wx => ∃ ia : Nat, ia ≤ j ∧ v = .int .i64 ia ∧ Hid (Below wd.heap.size wd wx)) (fun v _ => j - (intOf v).toNat)
                    case atStart => exact ⟨0, Nat.zero_le _, rfl, Below.refl _ _⟩
                    case round =>
                      obtain ⟨ia, haj, rfl, hB⟩ := hrel
                      by_cases han : ia < j
                      · have an : (ia : Int) < (j : Int) := by omega
                        obtain ⟨ba, oa, x1, y1, z1, r2, rfl, E1, t1, hx1⟩ := (OD.out.keep hB.out).at ia han
                        obtain ⟨bb, ob, x2, y2, z2, fa, rfl, E2, t2, hx2⟩ := (FD.out.keep hB.out).at ia han
                        obtain rfl : r2 = fa := by
                          have g1 := hx1.out
                          rw [List.getElem?_map] at g1
                          obtain ⟨r, hr⟩ : ∃ r, K[ia]? = some r := ⟨_, List.getElem?_eq_getElem (by rw [KL.out]; exact han)⟩
                          rw [hr] at g1
                          have g2 : r.2 = r2 := by simpa using g1
                          rw [← g2]
                          exact sys_full SY1.out HPX.out HFL.out HFK.out KL.out hr hx2.out
                        have T1 := Lib.hid t1; have T2 := Lib.hid t2
                        clear t1 t2 hx1 hx2
                        go_wp2
                        refine wp_region_shapes (fun ix => ([.val (.int .i64 0), .val (.bool false), .val (.bool false), .val (.slice (some ⟨ba, oa, none⟩) j cs), .val (.int .i64 (j : Nat)), .val (.int .i64 j), .val (.bool false), .val (.bool false), .val (.bool false), .val (.slice (some ⟨ba, oa, none⟩) j cs), .val (.int .i64 ia), .val (.pointer (some ⟨ba, oa + ia, none⟩)), .val (.slice x1 y1 z1), .val (.slice (some ⟨bb, ob, none⟩) j co), .val (.int .i64 ia), .val (.pointer (some ⟨bb, ob + ia, none⟩)), .val (.slice x2 y2 z2), .val (.bool true), .val (.bool false), .val (.bool false)][ix]?).getD (.any)) 238 rfl (by kernel_rfl) (by decide) (by decide) (by decide) ?_ ?_
                        · refine ⟨?_, ?_, ?_, ?_, ?_, ?_, ?_, ?_, ?_, ?_, ?_, ?_, ?_, ?_, ?_, ?_, ?_, ?_, ?_, ?_, trivial⟩
                          · intro a W hb0 hs hp hi; have hb := undrew hb0; clear hb0
                            have t34 : sl a 34 = .int .i64 0 := hi 34 (by decide)
                            exact ite_y rfl (wp_val (sl a 34) rfl ⟨_, rfl, Below.refl _ _, t34⟩)
                          · intro a W hb0 hs hp hi; have hb := undrew hb0; clear hb0
                            have t217 : sl a 217 = .int .i64 0 := hp 0 (by decide)
                            refine ite_y rfl (wp_val (.bool false) ?_ ?_)
                            · simp only [execOp, eval_tmp, eval_const, t217]; simp [go_sem]
                            · exact ⟨_, rfl, Below.refl _ _, rfl⟩
                          · intro a W hb0 hs hp hi; have hb := undrew hb0; clear hb0
                            have t218 : sl a 218 = .bool false := hp 1 (by decide)
                            exact ite_y rfl (wp_val (sl a 218) rfl ⟨_, rfl, Below.refl _ _, t218⟩)
                          · intro a W hb0 hs hp hi; have hb := undrew hb0; clear hb0
                            have tg : sl a 219 = .bool false := hp 2 (by decide)
                            have t33 : sl a 33 = .slice (some ⟨ba, oa, none⟩) j cs := hi 33 (by decide)
                            exact ite_y (wanted_yes rfl rfl (by have hz : a.tmps.size = 238 := hs; rw [hz]; decide) tg) (wp_val (sl a 33) rfl ⟨_, rfl, Below.refl _ _, t33⟩)
                          · intro a W hb0 hs hp hi; have hb := undrew hb0; clear hb0
                            have tg : sl a 219 = .bool false := hp 2 (by decide)
                            have t220 : sl a 220 = .slice (some ⟨ba, oa, none⟩) j cs := hp 3 (by decide)
                            refine ite_y (wanted_yes rfl rfl (by have hz : a.tmps.size = 238 := hs; rw [hz]; decide) tg) (wp_val (.int .i64 (j : Nat)) ?_ ?_)
                            · simp only [execOp, resolve, List.map_toArray, List.map, eval_tmp, eval_func, eval_const, t220]; simp [go_sem]
                            · exact ⟨_, rfl, Below.refl _ _, rfl⟩
                          · intro a W hb0 hs hp hi; have hb := undrew hb0; clear hb0
                            have tg : sl a 219 = .bool false := hp 2 (by decide)
                            have t7 : sl a 7 = .int .i64 j := hi 7 (by decide)
                            exact ite_y (wanted_yes rfl rfl (by have hz : a.tmps.size = 238 := hs; rw [hz]; decide) tg) (wp_val (sl a 7) rfl ⟨_, rfl, Below.refl _ _, t7⟩)
                          · intro a W hb0 hs hp hi; have hb := undrew hb0; clear hb0
                            have tg : sl a 219 = .bool false := hp 2 (by decide)
                            have t221 : sl a 221 = .int .i64 (j : Nat) := hp 4 (by decide)
                            have t222 : sl a 222 = .int .i64 j := hp 5 (by decide)
                            refine ite_y (wanted_yes rfl rfl (by have hz : a.tmps.size = 238 := hs; rw [hz]; decide) tg) (wp_val (.bool false) ?_ ?_)
                            · simp only [execOp, eval_tmp, eval_const, t221, t222]; simp [go_sem]
                            · exact ⟨_, rfl, Below.refl _ _, rfl⟩
                          · intro a W hb0 hs hp hi; have hb := undrew hb0; clear hb0
                            have t219 : sl a 219 = .bool false := hp 2 (by decide)
                            have t223 : sl a 223 = .bool false := hp 6 (by decide)
                            refine ite_y rfl (wp_val (.bool false) ?_ ?_)
                            · simp only [execOp, eval_tmp, eval_const, t219, t223]; simp [go_sem]
                            · exact ⟨_, rfl, Below.refl _ _, rfl⟩
                          · intro a W hb0 hs hp hi; have hb := undrew hb0; clear hb0
                            have t224 : sl a 224 = .bool false := hp 7 (by decide)
                            exact ite_y rfl (wp_val (sl a 224) rfl ⟨_, rfl, Below.refl _ _, t224⟩)
                          · intro a W hb0 hs hp hi; have hb := undrew hb0; clear hb0
                            have tg : sl a 225 = .bool false := hp 8 (by decide)
                            have t33 : sl a 33 = .slice (some ⟨ba, oa, none⟩) j cs := hi 33 (by decide)
                            exact ite_y (wanted_yes rfl rfl (by have hz : a.tmps.size = 238 := hs; rw [hz]; decide) tg) (wp_val (sl a 33) rfl ⟨_, rfl, Below.refl _ _, t33⟩)
                          · intro a W hb0 hs hp hi; have hb := undrew hb0; clear hb0
                            have tg : sl a 225 = .bool false := hp 8 (by decide)
                            have t35 : sl a 35 = .int .i64 ia := hi 35 (by decide)
                            exact ite_y (wanted_yes rfl rfl (by have hz : a.tmps.size = 238 := hs; rw [hz]; decide) tg) (wp_val (sl a 35) rfl ⟨_, rfl, Below.refl _ _, t35⟩)
                          · intro a W hb0 hs hp hi; have hb := undrew hb0; clear hb0
                            have tg : sl a 225 = .bool false := hp 8 (by decide)
                            have ti0 : sl a 226 = .slice (some ⟨ba, oa, none⟩) j cs := hp 9 (by decide)
                            have ti1 : sl a 227 = .int .i64 ia := hp 10 (by decide)
                            refine ite_y (wanted_yes rfl rfl (by have hz : a.tmps.size = 238 := hs; rw [hz]; decide) tg) (wp_val (.pointer (some ⟨ba, oa + ia, none⟩)) ?_ ?_)
                            · simp only [execOp, eval_tmp, eval_const, ti0, ti1]; simp [go_sem, an, han]
                            · exact ⟨_, rfl, Below.refl _ _, rfl⟩
                          · intro a W hb0 hs hp hi; have hb := undrew hb0; clear hb0
                            have tg : sl a 225 = .bool false := hp 8 (by decide)
                            have tt : sl a 228 = .pointer (some ⟨ba, oa + ia, none⟩) := hp 11 (by decide)
                            have dd := (hb.cell (p := ⟨ba, oa + ia, none⟩) (lt_of_cell E1)).trans E1
                            refine ite_y (wanted_yes rfl rfl (by have hz : a.tmps.size = 238 := hs; rw [hz]; decide) tg) (wp_val (.slice x1 y1 z1) ?_ ?_)
                            · simp only [execOp, eval_tmp, tt]; simp [go_sem, dd]
                            · exact ⟨_, rfl, Below.refl _ _, rfl⟩
                          · intro a W hb0 hs hp hi; have hb := undrew hb0; clear hb0
                            have tg : sl a 225 = .bool false := hp 8 (by decide)
                            have t9 : sl a 9 = .slice (some ⟨bb, ob, none⟩) j co := hi 9 (by decide)
                            exact ite_y (wanted_yes rfl rfl (by have hz : a.tmps.size = 238 := hs; rw [hz]; decide) tg) (wp_val (sl a 9) rfl ⟨_, rfl, Below.refl _ _, t9⟩)
                          · intro a W hb0 hs hp hi; have hb := undrew hb0; clear hb0
                            have tg : sl a 225 = .bool false := hp 8 (by decide)
                            have t35 : sl a 35 = .int .i64 ia := hi 35 (by decide)
                            exact ite_y (wanted_yes rfl rfl (by have hz : a.tmps.size = 238 := hs; rw [hz]; decide) tg) (wp_val (sl a 35) rfl ⟨_, rfl, Below.refl _ _, t35⟩)
                          · intro a W hb0 hs hp hi; have hb := undrew hb0; clear hb0
                            have tg : sl a 225 = .bool false := hp 8 (by decide)
                            have ti0 : sl a 230 = .slice (some ⟨bb, ob, none⟩) j co := hp 13 (by decide)
                            have ti1 : sl a 231 = .int .i64 ia := hp 14 (by decide)
                            refine ite_y (wanted_yes rfl rfl (by have hz : a.tmps.size = 238 := hs; rw [hz]; decide) tg) (wp_val (.pointer (some ⟨bb, ob + ia, none⟩)) ?_ ?_)
                            · simp only [execOp, eval_tmp, eval_const, ti0, ti1]; simp [go_sem, an, han]
                            · exact ⟨_, rfl, Below.refl _ _, rfl⟩
                          · intro a W hb0 hs hp hi; have hb := undrew hb0; clear hb0
                            have tg : sl a 225 = .bool false := hp 8 (by decide)
                            have tt : sl a 232 = .pointer (some ⟨bb, ob + ia, none⟩) := hp 15 (by decide)
                            have dd := (hb.cell (p := ⟨bb, ob + ia, none⟩) (lt_of_cell E2)).trans E2
                            refine ite_y (wanted_yes rfl rfl (by have hz : a.tmps.size = 238 := hs; rw [hz]; decide) tg) (wp_val (.slice x2 y2 z2) ?_ ?_)
                            · simp only [execOp, eval_tmp, tt]; simp [go_sem, dd]
                            · exact ⟨_, rfl, Below.refl _ _, rfl⟩
                          · intro a W hb0 hs hp hi; have hb := undrew hb0; clear hb0
                            have tg : sl a 225 = .bool false := hp 8 (by decide)
                            have t229 : sl a 229 = .slice x1 y1 z1 := hp 12 (by decide)
                            have t233 : sl a 233 = .slice x2 y2 z2 := hp 16 (by decide)
                            refine ite_y (wanted_yes rfl rfl (by have hz : a.tmps.size = 238 := hs; rw [hz]; decide) tg) (wp_enter 48 #[.slice x1 y1 z1, .slice x2 y2 z2] ?_ (Same_any x1 x2 y1 y2 z1 z2 r2 r2 W (T1.out.keep hb) (T2.out.keep hb)) ?_)
                            · simp only [execOp, resolve, List.map_toArray, List.map, eval_tmp, eval_func, eval_const, t229, t233]; simp [go_sem]
                            · rintro e W' ⟨rfl, hw⟩; exact ⟨_, rfl, _, rfl, hw, congrArg Value.bool (decide_eq_true rfl)⟩
                          · intro a W hb0 hs hp hi; have hb := undrew hb0; clear hb0
                            have tg : sl a 225 = .bool false := hp 8 (by decide)
                            have t234 : sl a 234 = .bool true := hp 17 (by decide)
                            refine ite_y (wanted_yes rfl rfl (by have hz : a.tmps.size = 238 := hs; rw [hz]; decide) tg) (wp_val (.bool false) ?_ ?_)
                            · simp only [execOp, eval_tmp, eval_const, t234]; simp [go_sem]
                            · exact ⟨_, rfl, Below.refl _ _, rfl⟩
                          · intro a W hb0 hs hp hi; have hb := undrew hb0; clear hb0
                            have t225 : sl a 225 = .bool false := hp 8 (by decide)
                            have t235 : sl a 235 = .bool false := hp 18 (by decide)
                            refine ite_y rfl (wp_val (.bool false) ?_ ?_)
                            · simp only [execOp, eval_tmp, eval_const, t225, t235]; simp [go_sem]
                            · exact ⟨_, rfl, Below.refl _ _, rfl⟩
                        intro a wk hb hs hd hI ht
                        have ha := act_is [217, 218, 219, 220, 221, 222, 223, 224, 225, 226, 227, 228, 229, 230, 231, 232, 233, 234, 235, 236] hs hd ht (by decide)
                        have t236 : sl a 236 = .bool false := hI 19 (by decide)
                        simp only [List.foldl, t236] at ha
                        generalize sl a 217 = u217 at ha
                        generalize sl a 218 = u218 at ha
                        generalize sl a 219 = u219 at ha
                        generalize sl a 220 = u220 at ha
                        generalize sl a 221 = u221 at ha
                        generalize sl a 222 = u222 at ha
                        generalize sl a 223 = u223 at ha
                        generalize sl a 224 = u224 at ha
                        generalize sl a 225 = u225 at ha
                        generalize sl a 226 = u226 at ha
                        generalize sl a 227 = u227 at ha
                        generalize sl a 228 = u228 at ha
                        generalize sl a 229 = u229 at ha
                        generalize sl a 230 = u230 at ha
                        generalize sl a 231 = u231 at ha
                        generalize sl a 232 = u232 at ha
                        generalize sl a 233 = u233 at ha
                        generalize sl a 234 = u234 at ha
                        generalize sl a 235 = u235 at ha
                        simp only [Act.put, List.setIfInBounds_toArray, List.set_cons_zero, List.set_cons_succ] at ha
                        rw [ha]
                        clear ha hI ht
                        have B5 := Lib.hid (bl hB.out hb hB.out.size)
                        clear hb hB E1 E2 T1 T2
                        go_wp2
                        go_roundw
                        case rel => exact ⟨ia + 1, by omega, by go_num, B5.out⟩
                        case measure => simp [intOf]; omega
                      · have hge3 : (j : Int) ≤ (ia : Int) := by omega
                        have BF := Lib.hid (BD.out.trans (hB.out.mono BD.out.size))
                        clear hB
                        go_wp2
                        go_ret
                        exact ⟨rfl, BF.out⟩
end Go.Proofs.Ytofhdakggapahaa
