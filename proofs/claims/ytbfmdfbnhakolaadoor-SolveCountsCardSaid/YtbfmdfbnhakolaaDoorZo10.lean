/- The walk of the law SolveCounts. SolveCounts: whole. Arguments that came in, as bytes and slices of bytes. Arguments that came in: slices of byte slices. The table that the library's TrailingZeros reads, out of the row's condition. -/
import Derived.Test.YtbfmdfbnhakolaaDoorZo9
import Derived.OpenShut
import Derived.Deep.Matrix
import Derived.Test.YtbfmdfbnhakolaaDoorRows
import Derived.Lib.LaidTab
import Derived.Stop.LaidErr
namespace Go.Proofs.YtbfmdfbnhakolaaDoor
open Go.RowKit Go.By
theorem fitR_fill9 (n : Nat) (row : List UInt8) : fillS (List.replicate n 0) row = fitR n row := by
  unfold fillS fitR
  rw [List.length_replicate, List.drop_replicate]
theorem take_map_succ9 {α β : Type} {f : α → β} {xs : List α} {k : Nat} {a : α} (h : xs[k]? = some a) : (xs.take (k + 1)).map f = (xs.take k).map f ++ [f a] := by
  rw [List.take_add_one, h, List.map_append]; rfl
theorem own_kind {w : World} {base T s n : Nat} {v : Value} {L : List Value} (ho : w.ownsRow base T s v n L) : ∀ b, v.ownBlock = some b → ∃ (cs : Array Value) (fr : Nat × Nat), w.heap[b]? = some (.cells cs T fr) := fun b hs => by
  rcases ho.2 with ⟨e1, _⟩ | ⟨g', cap, cur, e1, _, hc, _⟩
  · rw [e1] at hs; cases hs
  · rw [e1] at hs; cases hs
    exact ⟨_, _, hc⟩
theorem own_other {w : World} {base T s n : Nat} {v : Value} {L : List Value} (ho : w.ownsRow base T s v n L) {T' b : Nat} {cs : Array Value} {fr : Nat × Nat} (hb : w.heap[b]? = some (.cells cs T' fr)) (hT : T' ≠ T) : some b ≠ v.ownBlock := fun e => by
  obtain ⟨cs', fr', h⟩ := own_kind ho b e.symm
  rw [hb] at h; cases h; exact hT rfl
theorem Ws.grow {w w' : World} {base T U s n m : Nat} {v : Value} {L : List Value} (ho : w.ownsRow base T s v m L) (hg : w.grownBy w' v.ownBlock) {q : Option Addr} {c N : Nat} (h : Ws U w q n c N) (hT : U ≠ T) : Ws U w' q n c N := by
  obtain ⟨ws, hs, hn, hv⟩ := h.ex
  have hq : ∀ a, q = some a → some a.block ≠ v.ownBlock := fun a ha => by
    obtain ⟨cs, fr, hh⟩ := h.lies a ha
    exact own_other ho hh hT
  refine ⟨⟨ws, hs.grown hg hq, hn, hv⟩, h.le, fun a ha => ?_⟩
  obtain ⟨cs, fr, hh⟩ := h.lies a ha
  exact ⟨cs, fr, (hg.block _ (lt_of_block hh) (hq a ha)).trans hh⟩
set_option maxRecDepth 100000 in
set_option maxHeartbeats 16000000 in
theorem SC_main (tt : UInt8) (k m2 : Nat) (p1 p2 p3 p4 : Option Addr) (c1 c2 m3 c3 m4 c4 : Nat) (SY VE : List (List UInt8)) (mo : Rw) (w : World) (h1 : Sl2 w p1 k c1 SY) (h2 : Sl2 w p2 m2 c2 VE) (h3 : Sl B8 w p3 m3 c3 mo.1) (h4 : Sl B8 w p4 m4 c4 mo.2) (hT : Tab w) (hk1 : 1 ≤ k) (hk2 : k ≤ 20) (hm2 : m2 ≤ 20) :
    Calls Tryd.prog 6 #[.slice p1 k c1, .slice p2 m2 c2, B8 tt, .agg #[.slice p3 m3 c3, .slice p4 m4 c4]] w fun e w' => e = .returned (.bool true) ∧ Below w.heap.size w w' := by
  obtain ⟨r0, hr0, hrz, hr1, hr2⟩ := info_parts info_rows
  obtain ⟨i0, hi0, hz0, hz1, hz2⟩ := info_parts info_u8
  obtain ⟨s0, hs0, hsz, hs1, hs2⟩ := info_parts info_vrow
  obtain ⟨n, hn⟩ : ∃ n, n = tt.toNat % 21 := ⟨_, rfl⟩
  have hn2 : n ≤ 20 := by omega
  have hwz : ((tt.toNat : Int) % 21) = (n : Int) := by omega
  have hwt : ((tt.toNat : Int)).tmod 21 = (n : Int) := by rw [Int.tmod_eq_emod_of_nonneg (by omega)]; exact hwz
  have H1 := Lib.hid h1; have H2 := Lib.hid h2; have HL1 := Lib.hid h1.len; have HL2 := Lib.hid h2.len; have H3 := Lib.hid h3; have H4 := Lib.hid h4; have HT := Lib.hid hT
  have HM1 : Hid (n ≤ maxLen) := by show n ≤ maxLen; unfold maxLen; omega
  have HM2 : Hid (1 * n ≤ 281474976710656) := by show 1 * n ≤ _; omega
  have HM3 : Hid (k ≤ maxLen) := by show k ≤ maxLen; unfold maxLen; omega
  have HM4 : Hid (1 * k ≤ 281474976710656) := by show 1 * k ≤ _; omega
  have a1 : (1 : Int) ≤ (k : Int) := by omega
  have a2 : (k : Int) ≤ 20 := by omega
  have a3 : (m2 : Int) ≤ 20 := by omega
  clear h1 h2 h3 h4 hT hn
  go_enter Tryd.func6, Tryd.ntmps6
  go_wp2_with fail
  refine Calls.mono (awake09 _ (HT.out.keep (ba1 _ _))) ?_
  rintro e w1 ⟨rfl, hb⟩
  have X1 : Hid (BlkIs w.heap.size (.cells #[.slice p3 m3 c3, .slice p4 m4 c4] 54) w1) := BlkIs.keep (hnew rfl) hb
  have B1 : Hid (Below w.heap.size w w1) := bl (ba1 w _) hb (ba1 w _).size
  clear hb
  go_wp2
  clear a1 a2 a3
  go_loopw [11, 49] (fun o i wr => ∃ (j : Nat) (qo : Option Addr) (co : Nat), j ≤ k ∧ i = .int .i64 j ∧ o = .slice qo j co ∧ Hid (Own2 24 5 wr w1.heap.size (.slice qo j co) j ((SY.take j).map (fitR n))) ∧ Hid (Below w1.heap.size w1 wr)) (fun _ i _ => k - (intOf i).toNat)
  case atStart => exact ⟨0, none, 0, Nat.zero_le _, rfl, rfl, Own2.nil _ _ _ _, Below.refl _ _⟩
  case round =>
    obtain ⟨j, qo, co, hj, rfl, rfl, hO, hB⟩ := hrel
    by_cases hlt : j < k
    · obtain ⟨b, o, q, mx, cx, row, rfl, hc, hs, hx⟩ := (H1.out.keep B1.out).at j hlt
      have hcw := (hB.out.cell (p := ⟨b, o + j, none⟩) (lt_of_cell hc)).trans hc
      have HSW := Lib.hid (hs.keep hB.out)
      have kn : (j : Int) < (k : Int) := by omega
      have hstep : Hid ((SY.take (j + 1)).map (fitR n) = (SY.take j).map (fitR n) ++ [fitR n row]) := take_map_succ9 hx.out
      clear hc hs hx
      go_wp2_with (at_make; refine wpList_make_full _ rfl _ _ 24 rfl wr.heap.size 5 i0 (.int .u8 0) 1 Tryd.underlying24 hi0 hz0 hz1 .i64 .i64 _ _ n rfl rfl rfl rfl (by rw [hz2]; exact HM2.out) HM1.out (Nat.le_refl _) ?_)
      intro w5 ho hg
      have HV : Hid (w5.heap[wr.heap.size]? = some (.cells ((List.replicate n (0 : UInt8)).map B8).toArray 5 (0, 0))) := by
        have e : (madeCells #[Value.int .u8 0] n).toList = List.replicate n (B8 0) := toList_madeCells_one _ _
        rw [e] at ho
        show _ = _
        rw [List.map_replicate]; exact heap_of_owns ho
      have B5 : Hid (Below wr.heap.size wr w5) := (Below.refl _ _).grown hg (Nat.le_refl _) (by simp)
      have HS1 := Lib.hid (HSW.out.keep B5.out)
      clear ho hg hcw HSW
      go_wp2_with (with_reducible refine wpList_copy_bytes w5 rfl (.tmp 55) (.tmp 56) 24 24 rfl 5 Tryd.underlying24 (by kernel_rfl) wr.heap.size n q mx cx rfl rfl (List.replicate n 0) row 5 HV.out (by simp) HS1.out ?_)
      intro w2 z2 hh2 hg2
      have hszw := hB.out.size
      have R2 : Hid (w2.ownsRow w1.heap.size 5 1 (.slice (some ⟨wr.heap.size, 0, none⟩) n n) n ((fitR n row).map B8)) := by
        rw [fitR_fill9] at hh2
        exact owns_of_heap hszw hh2 (by rw [List.length_map, fitR_len]) HM1.out
      have B2' : Hid (Below wr.heap.size wr w2) := B5.out.grown hg2 B5.out.size (fun kk hkk => by cases hkk; exact Nat.le_refl _)
      have O2 := hO.out.keep B2'.out
      have B2 := Lib.hid (bl hB.out B2'.out hszw)
      have bal : ∀ (W : World) (o : Obj), Below W.heap.size W (W.alloc o) := fun W o => al (Below.refl _ _) (Nat.le_refl _)
      obtain ⟨vs, oA, lA, rA⟩ := O2
      have OA := Lib.hid oA; have LA := Lib.hid lA; have RA := Lib.hid rA
      have hO3 : Hid (∀ o, (w2.alloc o).ownsRow w1.heap.size 24 1 (.slice qo j co) j vs) := fun o => owns_keep OA.out (bal _ _)
      have HBAL := Lib.hid bal
      have hsz2 := B2.out.size
      clear hh2 hg2 oA lA rA bal hO hB HV B5 HS1 B2'
      go_wp2_with (at_builtin; refine wpList_append_own _ rfl _ _ 25 rfl w1.heap.size 24 r0 (.slice none 0 0) 1 24 Tryd.underlying25 hr0 hrz hr1 hr2 rfl (by omega) _ j _ rfl (hO3.out _) ⟨w2.heap.size, 0, none⟩ 1 1 [.slice (some ⟨wr.heap.size, 0, none⟩) n n] rfl rfl (one_cell' rfl) ?d2 ?d3 ?d4 ?d5 ?_)
      case d2 => intro y hy; simp at hy; subst hy; rfl
      case d3 => unfold maxLen; omega
      case d4 => omega
      case d5 => simp; omega
      intro v6 w6 ho6 hg6 _
      obtain ⟨q6, c6, rfl⟩ := owns_shape ho6
      have P6 : Hid (Own2 24 5 w6 w1.heap.size (.slice q6 (j + 1) c6) (j + 1) ((SY.take (j + 1)).map (fitR n)) ∧ Below w1.heap.size w1 w6) := by
        refine ⟨?_, (al B2.out B2.out.size).grown hg6 (by simp; omega) (fun kk hk => (OA.out.lt kk hk).1)⟩
        rw [hstep.out]
        exact Own2.push (by decide) LA.out (fun jj val hjj => by
          obtain ⟨xs, q, c', a, b, d⟩ := RA.out jj val hjj
          exact ⟨xs, q, c', a, b, owns_keep d (HBAL.out _ _)⟩) (hO3.out _) (owns_keep R2.out (HBAL.out _ _)) ho6 hg6
      clear ho6 hg6 hO3 OA LA RA R2 B2
      go_wp2
      go_roundw
      case rel => exact ⟨j + 1, q6, c6, by omega, by go_num, rfl, P6.out.1, P6.out.2⟩
      case measure => simp [intOf]; omega
    · have hjk : j = k := by omega
      have hge : (k : Int) ≤ (j : Int) := by omega
      subst hjk
      rename World => wN
      obtain ⟨FX, hFX⟩ : ∃ FX, FX = SY.map (fitR n) := ⟨_, rfl⟩
      have F0 : Hid (Sl2 wN qo j co FX) := by
        have h := hO.out
        rw [List.take_of_length_le (by rw [HL1.out]; exact Nat.le_refl _), ← hFX] at h
        exact h.sl2
      have HFL : Hid (∀ x, x ∈ FX → x.length = n) := fun x hx => by rw [hFX] at hx; exact fit_len x hx
      have HFK : Hid (FX.length = j) := by rw [hFX, List.length_map]; exact HL1.out
      have B0 : Hid (Below w.heap.size w wN) := bl B1.out hB.out B1.out.size
      have X0 : Hid (BlkIs w.heap.size (.cells #[.slice p3 m3 c3, .slice p4 m4 c4] 54) wN) := X1.out.keep hB.out
      clear hO hB hFX HM1 HM2 hwz hwt B1 X1
      obtain ⟨B, hBd⟩ : ∃ B, B = wN.heap.size := ⟨_, rfl⟩
      have hwB : w.heap.size ≤ B := by rw [hBd]; exact B0.out.size
      have HN : Hid (∀ W : World, Below B wN W → Below w.heap.size w W) := fun W hW => B0.out.trans (hW.mono hwB)
      have HFT : Hid (∀ W : World, Below B wN W → Sl2 W qo j co FX) := fun W hW => F0.out.keep (by rw [← hBd]; exact hW)
      have HVE : Hid (∀ W : World, Below B wN W → Sl2 W p2 m2 c2 VE) := fun W hW => (H2.out.keep B0.out).keep (by rw [← hBd]; exact hW)
      have HXO : Hid (∀ W : World, Below B wN W → BlkIs w.heap.size (.cells #[.slice p3 m3 c3, .slice p4 m4 c4] 54) W) := fun W hW => X0.out.keep (by rw [← hBd]; exact hW)
      have HBR : Hid (Below B wN wN) := Below.refl _ _
      have HBs : Hid (∀ W : World, Below B wN W → B ≤ W.heap.size) := fun W hW => by have := hW.size; omega
      clear F0 X0 B0 H2 hBd
      go_wp2
      have HXF : Hid (∀ v : List UInt8, Fit j n (rowC n FX (fitR j v)) ∧ ConsV j (FX.map vf) (vR (rowC n FX (fitR j v)))) := fun v => ⟨rowC_fit HFL.out (fitR_len j v), rowC_cons HFL.out HFK.out (fitR_len j v)⟩
      go_loopw [15, 65] (fun a v wx => ∃ (i : Nat) (ql : Option Addr) (cl : Nat), i ≤ m2 ∧ v = .int .i64 i ∧ a = .slice ql i cl ∧
        Hid (RwL 63 5 wx B (.slice ql i cl) i ((VE.take i).map (fun v => rowC n FX (fitR j v)))) ∧ Hid (Below B wN wx)) (fun _ v _ => m2 - (intOf v).toNat)
      case atStart => exact ⟨0, none, 0, Nat.zero_le _, rfl, rfl, RwL.nil _ _ _ _, HBR.out⟩
      case round =>
        clear HBR
        obtain ⟨i, ql, cl, hi, rfl, rfl, hR, hB⟩ := hrel
        by_cases him : i < m2
        · have im : (i : Int) < (m2 : Int) := by omega
          obtain ⟨b, o, q, mx, cx, row, rfl, hc, hs, hx⟩ := (HVE.out _ hB.out).at i him
          have HSW := Lib.hid hs; have HC := Lib.hid hc
          obtain ⟨wv, hwv⟩ : ∃ wv, wv = fitR j row := ⟨_, rfl⟩
          have hwl : Hid (wv.length = j) := by rw [hwv]; exact fitR_len j row
          have hX1 : Hid ((VE.take (i + 1)).map (fun v => rowC n FX (fitR j v)) = (VE.take i).map (fun v => rowC n FX (fitR j v)) ++ [rowC n FX wv]) := by rw [hwv]; exact take_map_succ9 (f := fun v => rowC n FX (fitR j v)) hx.out
          have HFR : Hid (fillS (List.replicate j 0) row = wv) := by show _ = _; rw [hwv]; exact fitR_fill9 j row
          obtain ⟨XS, hXS⟩ : ∃ XS, XS = (VE.take i).map (fun v => rowC n FX (fitR j v)) := ⟨_, rfl⟩
          rw [← hXS] at hX1 hR
          clear hc hs hx hwv hXS
          have hcw := HC.out
          go_wp2_with (at_make; refine wpList_make_full _ rfl _ _ 24 rfl wr.heap.size 5 i0 (.int .u8 0) 1 Tryd.underlying24 hi0 hz0 hz1 .i64 .i64 _ _ j rfl rfl rfl rfl (by rw [hz2]; exact HM4.out) HM3.out (Nat.le_refl _) ?_)
          intro w5 ho hg
          have HV : Hid (w5.heap[wr.heap.size]? = some (.cells ((List.replicate j (0 : UInt8)).map B8).toArray 5 (0, 0))) := by
            have e : (madeCells #[Value.int .u8 0] j).toList = List.replicate j (B8 0) := toList_madeCells_one _ _
            rw [e] at ho
            show _ = _
            rw [List.map_replicate]; exact heap_of_owns ho
          have B5 : Hid (Below wr.heap.size wr w5) := (Below.refl _ _).grown hg (Nat.le_refl _) (by simp)
          have HS5 := Lib.hid (HSW.out.keep B5.out)
          clear ho hg hcw HSW HC
          go_wp2_with (with_reducible refine wpList_copy_bytes w5 rfl (.tmp 71) (.tmp 72) 24 24 rfl 5 Tryd.underlying24 (by kernel_rfl) wr.heap.size j q mx cx rfl rfl (List.replicate j 0) row 5 HV.out (by simp) HS5.out ?_)
          intro w6 z6 hh6 hg6
          rw [HFR.out] at hh6
          have hb6 : Below wr.heap.size wr w6 := B5.out.grown hg6 B5.out.size (fun kk hkk => by cases hkk; exact Nat.le_refl _)
          have hwrB := HBs.out _ hB.out
          have R6 := Lib.hid (hR.out.keep hb6)
          have B6 : Hid (Below B wN w6) := bl hB.out hb6 hwrB
          obtain ⟨gw, hgw⟩ : ∃ gw, gw = wr.heap.size := ⟨_, rfl⟩
          rw [← hgw] at hh6 ⊢
          have W6 : Hid (w6.ownsRow B 5 1 (.slice (some ⟨gw, 0, none⟩) j j) j (wv.map B8)) := owns_of_heap (by rw [hgw]; exact hwrB) hh6 (by rw [List.length_map, hwl.out]) HM3.out
          have HCB : Hid (combS wv FX = (mulR n FX wv, 0)) := by
            show _ = _
            rw [comb_ok HFL.out (by rw [hwl.out, HFK.out]), if_neg (fun e => by have := HFK.out; rw [e] at this; simp at this; omega)]
          have HCM : Hid (∀ W, Sl B8 W (some ⟨gw, 0, none⟩) j j wv → Sl2 W qo j co FX → Calls Tryd.prog 25 #[.slice (some ⟨gw, 0, none⟩) j j, .slice qo j co] W (RetB 5 W (mulR n FX wv) 0)) := fun W a b => by
            have := Comb_any (some ⟨gw, 0, none⟩) qo j j j co wv FX W a b (fun xs hxs => by rw [HFL.out xs hxs]; unfold Room; omega)
            rwa [HCB.out] at this
          clear hh6 hg6 hb6 B5 HV HS5 hR hB hgw HCB
          go_wp2_with fail
          refine Calls.mono (HCM.out w6 (Sl.of_owns W6.out) (HFT.out _ B6.out)) ?_
          rintro e w7 ⟨qd, md, cd, hmd, rfl, od, hb⟩
          obtain rfl : n = md := by have := hmd.out; rw [mulR_len HFL.out] at this; exact this
          have hs6 := HBs.out _ B6.out
          have B7 : Hid (Below B wN w7) := bl B6.out hb hs6
          have R7 := Lib.hid (R6.out.keep hb); have W7 := Lib.hid (owns_keep W6.out hb); have D7 := Lib.hid (owns_mono od hs6)
          clear hmd od hb R6 W6 B6 HCM
          go_wp2_with fail
          refine Calls.mono (Of_any (some ⟨gw, 0, none⟩) qd j j n cd wv (mulR n FX wv) w7 (Sl.of_owns W7.out) (Sl.of_owns D7.out) (by unfold Room; omega) (by unfold Room; omega)) ?_
          rintro e w8 ⟨r1, m1, d1, r2, m3, d2, l1, l2, rfl, o1, o2, hb⟩
          obtain rfl : j = m1 := by have := l1.out; simp only [hwl.out] at this; exact this
          obtain rfl : n = m3 := by have := l2.out; simp only [mulR_len HFL.out] at this; exact this
          have hs7 := HBs.out _ B7.out
          have B8' : Hid (Below B wN w8) := bl B7.out hb hs7
          have R8 := Lib.hid (R7.out.keep hb)
          have O1 : Hid (Bw 5 w8 B (.slice r1 j d1) (rowC n FX wv).1) := Bw.mk (owns_mono o1 hs7) l1.out
          have O2 : Hid (Bw 5 w8 B (.slice r2 n d2) (rowC n FX wv).2) := Bw.mk (owns_mono o2 hs7) l2.out
          clear o1 o2 hb R7 W7 D7 l1 l2 B7
          have BAL : Hid (∀ o, Below w8.heap.size w8 (w8.alloc o)) := fun o => al (Below.refl _ _) (Nat.le_refl _)
          obtain ⟨us, la, lb, lo, lr⟩ := R8.out
          have LO : Hid (∀ o, (w8.alloc o).ownsRow B 63 2 (.slice ql i cl) i (fl2 us)) := fun o => owns_keep lo (BAL.out o)
          have LR : Hid (∀ o (j : Nat) (u : Value × Value), us[j]? = some u → ∃ k, XS[j]? = some k ∧ Bw 5 (w8.alloc o) B u.1 k.1 ∧ Bw 5 (w8.alloc o) B u.2 k.2) := fun o jj u hj => by
            obtain ⟨kk, g1, g2, g3⟩ := lr jj u hj
            exact ⟨kk, g1, g2.keep (BAL.out o), g3.keep (BAL.out o)⟩
          have LA := Lib.hid la; have LB := Lib.hid lb
          have hs8 := HBs.out _ B8'.out
          clear lo lr la lb R8
          go_wp2_with (at_builtin; refine wpList_append_lies _ rfl (.tmp 82) (.tmp 86) 43 rfl B 63 s0 (.agg #[.slice none 0 0, .slice none 0 0]) 2 48 Tryd.underlying43 hs0 hsz hs1 hs2 rfl (by omega) (.slice ql i cl) i (fl2 us) rfl (LO.out _) ⟨w8.heap.size, 0, none⟩ 1 1 [.slice r1 j d1, .slice r2 n d2] rfl rfl (two_cells rfl) (two_ones _ _ _ _ _ _) (by omega) (by unfold maxLen; omega) (by omega) (by simp; omega) _ rfl ?_)
          intro gl cl' w9 ho9 hg9 hat9 hlt9
          have L9 : Hid (RwL 63 5 w9 B (.slice (some ⟨gl, 0, none⟩) (i + 1) cl') (i + 1) (XS ++ [rowC n FX wv])) :=
            RwL.push LA.out LB.out (LO.out _) (LR.out _) (by decide) (O1.out.keep (BAL.out _)) (O2.out.keep (BAL.out _)) ho9 hg9
          have B9 : Hid (Below B wN w9) := (al B8'.out hs8).grown hg9 (by simp; omega) (fun kk hk => ((LO.out (.cells #[.slice r1 j d1, .slice r2 n d2] 63)).lt kk hk).1)
          rw [← hX1.out] at L9
          clear ho9 hg9 hat9 hlt9 O1 O2 LO LR LA LB BAL B8' hX1
          go_wp2
          go_roundw
          case rel => exact ⟨i + 1, _, _, by omega, by go_num, rfl, L9.out, B9.out⟩
          case measure => simp [intOf]; omega
        · obtain rfl : i = m2 := by omega
          have hge2 : (i : Int) ≤ (i : Int) := Int.le_refl _
          obtain ⟨XS, hXS⟩ : ∃ XS, XS = VE.map (fun v => rowC n FX (fitR j v)) := ⟨_, rfl⟩
          have R0 : Hid (RwS wr ql i cl XS) := by
            have h := hR.out
            rw [List.take_of_length_le (by rw [HL2.out]; exact Nat.le_refl _), ← hXS] at h
            exact h.rwS
          have R1 : Hid (RwL 63 5 wr B (.slice ql i cl) i XS) := by
            have h := hR.out
            rw [List.take_of_length_le (by rw [HL2.out]; exact Nat.le_refl _), ← hXS] at h
            exact h
          have HXA : Hid (∀ y, y ∈ XS → Fit j n y ∧ ConsV j (FX.map vf) (vR y)) := fun y hy => by
            rw [hXS] at hy
            obtain ⟨v, -, rfl⟩ := List.mem_map.1 hy
            exact HXF.out v
          have HHO : Hid (XS.all (hold1 FX) = true) := by
            show _ = _
            rw [List.all_eq_true]
            intro y hy
            rw [hXS] at hy
            obtain ⟨v, -, rfl⟩ := List.mem_map.1 hy
            exact hold_rowC HFL.out HFK.out hk1 (fitR_len j v)
          obtain ⟨r, hr⟩ : ∃ r, r = (kD XS).length := ⟨_, rfl⟩
          have hrk : r ≤ j := by rw [hr]; exact kD_wide (fun x hx => (HXA.out x hx).1)
          have HJ : Hid (∀ W q c, RwS W q i c XS → Calls Tryd.prog 20 #[.int .i64 j, .int .i64 n, .slice q i c] W (RetVd W r (-1) 0)) := fun W q c h => by
            have := Judge_fit j n q i c XS W h hk1 (by omega) (by omega) (by omega) (fun x hx => (HXA.out x hx).1)
            rwa [fits_clash HXA.out, ← hr] at this
          have HRD := Lib.hid hr
          have hszr := HBs.out _ hB.out
          have BB := Lib.hid hB.out
          clear hR hr hXS HXF HL2 HVE hB him
          go_wp2_with fail
          refine Calls.mono (HJ.out _ _ _ R0.out) ?_
          rintro e w3 ⟨rfl, hb⟩
          have B3 : Hid (Below B wN w3) := bl BB.out hb hszr
          have R3 := Lib.hid (R1.out.keep hb)
          have hs3 := HBs.out _ B3.out
          clear hb BB R0 R1
          go_wp2_with fail
          refine Calls.mono (Count_ok j n ql i cl r _ (by omega) (by omega) hrk (fun W2 hb2 => HJ.out W2 _ _ ((R3.out.keep (ba1 _ _)).keep hb2).rwS)) ?_
          rintro e w4 ⟨qn, nn, dn, rfl, hw, hb⟩
          have V4 : Hid (BlkIs w3.heap.size (.cells #[.int .i64 r, .int .i64 (-1)] 48) w4) := BlkIs.keep (hnew rfl) hb
          have hbb : Below w3.heap.size w3 w4 := bl (ba1 w3 _) hb (ba1 w3 _).size
          have B4 : Hid (Below B wN w4) := bl B3.out hbb hs3
          have R4 := Lib.hid (R3.out.keep hbb)
          have hs4 := HBs.out _ B4.out
          have hv4 : w3.heap.size < w4.heap.size := blk_lt V4.out
          obtain ⟨P, hP⟩ : ∃ P, P = 256 ^ (n * (j - r)) := ⟨_, rfl⟩
          rw [← hP] at hw
          have W4 := Lib.hid hw
          have HP := Lib.hid hP
          clear hw hb hbb B3 R3 hP
          have V5 : Hid (BlkIs w3.heap.size (.cells #[.int .i64 r, .int .i64 (-1)] 48) (w4.alloc (.cells #[.slice qn nn dn] 29))) := V4.out.keep (ba1 _ _)
          have N5 : Hid (BlkIs w4.heap.size (.cells #[.slice qn nn dn] 29) (w4.alloc (.cells #[.slice qn nn dn] 29))) := hnew rfl
          have B5 : Hid (Below B wN (w4.alloc (.cells #[.slice qn nn dn] 29))) := al B4.out hs4
          have R5 := Lib.hid (R4.out.keep (ba1 w4 (.cells #[.slice qn nn dn] 29)))
          have W5 := Lib.hid (W4.out.keep (ba1 w4 (.cells #[.slice qn nn dn] 29)))
          clear V4 B4 R4 W4
          go_wp2
          generalize w4.alloc (.cells #[.slice qn nn dn] 29) = w5 at *
          generalize w3.heap.size = bv at *
          generalize w4.heap.size = bn at *
          have v0 : w5.cell? ⟨bv, 0, none⟩ = some (.int .i64 r) := cell_of_row _ _ 0 _ _ _ V5.out
          have v1 : w5.cell? ⟨bv, 1, none⟩ = some (.int .i64 (-1)) := cell_of_row _ _ 1 _ _ _ V5.out
          have n0 : w5.cell? ⟨bn, 0, none⟩ = some (.slice qn nn dn) := cell_of_row _ _ 0 _ _ _ N5.out
          have hs5 := HBs.out _ B5.out
          have HLN : Hid (∀ W, Ws 34 W qn nn dn P → ∃ l : Nat, 0 < l ∧ Calls Tryd.prog 22 #[.agg #[.slice qn nn dn]] W fun e w' => e = .returned (.int .i64 l) ∧ Below W.heap.size W w') := fun W h =>
            ⟨(bytesN P).length, Nat.pos_of_ne_zero (fun e => by
              have := (len_any_bytes P).1 e
              have hp : 0 < P := by rw [HP.out]; exact Nat.pow_pos (by decide)
              omega), Len_any qn nn dn P W h⟩
          obtain ⟨l, hl⟩ : ∃ l, l = (bytesN P).length := ⟨_, rfl⟩
          have hl0 : 0 < l := by
            rw [hl]
            refine Nat.pos_of_ne_zero fun e => ?_
            have := (len_any_bytes P).1 e
            have hp : 0 < P := by rw [HP.out]; exact Nat.pow_pos (by decide)
            omega
          have hlb : ((l : Int) == 0) = false := by simp; omega
          have HLE : Hid (∀ W, Ws 34 W qn nn dn P → Calls Tryd.prog 22 #[.agg #[.slice qn nn dn]] W fun e w' => e = .returned (.int .i64 l) ∧ Below W.heap.size W w') := fun W h => by rw [hl]; exact Len_any qn nn dn P W h
          clear HLN hl
          have HHD : Hid (∀ W, Sl2 W qo j co FX → RwS W ql i cl XS → Calls Tryd.prog 27 #[.slice qo j co, .slice ql i cl] W fun e w' => e = .returned (.bool true) ∧ Below W.heap.size W w') := fun W a b => by
            have := Holds_any qo ql j co i cl FX XS W a b (fun x hx => by rw [(HXA.out x hx).1.2]; unfold Room; omega)
            rwa [HHO.out] at this
          have F5 := Lib.hid (HFT.out _ B5.out)
          have RS5 := Lib.hid R5.out.rwS
          by_cases hrj : r = j
          · have hP1 : P = 1 := by rw [HP.out]; exact (cntQ_one hrk).2 (.inl hrj)
            have HCM : Hid (∀ W q m d, Ws 34 W q m d 1 → Ws 34 W qn nn dn P → Calls Tryd.prog 11 #[.agg #[.slice qn nn dn], .agg #[.slice q m d]] W fun e w' => e = .returned (.int .i64 0) ∧ Below W.heap.size W w') := fun W q m d a b => Cmp_same b a hP1
            have hrb : ((r : Int) == (j : Int)) = true := by simp; omega
            have hre : (r : Int) = (j : Int) := by omega
            refine wp_region_shapes (fun ix => ([.val (.int .i64 0), .val (.bool false), .val (.bool false), .val (.int .i64 0), .val (.bool false), .val (.bool false), .val (.bool false), .val (.pointer (some ⟨bv, 1, none⟩)), .val (.int .i64 (-1)), .val (.bool false), .val (.bool false), .val (.bool false), .val (.slice qo j co), .val (.slice ql i cl), .val (.bool true), .val (.bool false), .val (.bool false), .val (.bool false), .val (.agg #[.slice qn nn dn]), .val (.int .i64 l), .val (.bool false), .val (.bool false), .val (.bool false), .val (.agg #[.slice qn nn dn]), ShpN 34 (1), .val (.int .i64 0), .val (.bool true), .val (.pointer (some ⟨bv, 0, none⟩)), .val (.int .i64 r), .val (.int .i64 j), .val (.bool true), .val (.bool true), .val (undef), .val (undef), .val (.bool true), .val (.bool false), .val (.bool false)][ix]?).getD (.any)) 162 rfl (by kernel_rfl) (by decide) (by decide) (by decide) ?_ ?_
            · refine ⟨?_, ?_, ?_, ?_, ?_, ?_, ?_, ?_, ?_, ?_, ?_, ?_, ?_, ?_, ?_, ?_, ?_, ?_, ?_, ?_, ?_, ?_, ?_, ?_, ?_, ?_, ?_, ?_, ?_, ?_, ?_, ?_, ?_, ?_, ?_, ?_, ?_, trivial⟩
              · intro a W hb0 hs hp hi; have hb := undrew hb0; clear hb0
                have t22 : sl a 22 = .int .i64 0 := hi 22 (by decide)
                exact ite_y rfl (wp_val (sl a 22) rfl ⟨_, rfl, Below.refl _ _, t22⟩)
              · intro a W hb0 hs hp hi; have hb := undrew hb0; clear hb0
                have t103 : sl a 103 = .int .i64 0 := hp 0 (by decide)
                refine ite_y rfl (wp_val (.bool false) ?_ ?_)
                · simp only [execOp, eval_tmp, eval_const, t103]; simp [go_sem]
                · exact ⟨_, rfl, Below.refl _ _, rfl⟩
              · intro a W hb0 hs hp hi; have hb := undrew hb0; clear hb0
                have t104 : sl a 104 = .bool false := hp 1 (by decide)
                exact ite_y rfl (wp_val (sl a 104) rfl ⟨_, rfl, Below.refl _ _, t104⟩)
              · intro a W hb0 hs hp hi; have hb := undrew hb0; clear hb0
                have tg : sl a 105 = .bool false := hp 2 (by decide)
                have t24 : sl a 24 = .int .i64 0 := hi 24 (by decide)
                exact ite_y (wanted_yes rfl rfl (by have hz : a.tmps.size = 162 := hs; rw [hz]; decide) tg) (wp_val (sl a 24) rfl ⟨_, rfl, Below.refl _ _, t24⟩)
              · intro a W hb0 hs hp hi; have hb := undrew hb0; clear hb0
                have tg : sl a 105 = .bool false := hp 2 (by decide)
                have t106 : sl a 106 = .int .i64 0 := hp 3 (by decide)
                refine ite_y (wanted_yes rfl rfl (by have hz : a.tmps.size = 162 := hs; rw [hz]; decide) tg) (wp_val (.bool false) ?_ ?_)
                · simp only [execOp, eval_tmp, eval_const, t106]; simp [go_sem]
                · exact ⟨_, rfl, Below.refl _ _, rfl⟩
              · intro a W hb0 hs hp hi; have hb := undrew hb0; clear hb0
                have t105 : sl a 105 = .bool false := hp 2 (by decide)
                have t107 : sl a 107 = .bool false := hp 4 (by decide)
                refine ite_y rfl (wp_val (.bool false) ?_ ?_)
                · simp only [execOp, eval_tmp, eval_const, t105, t107]; simp [go_sem]
                · exact ⟨_, rfl, Below.refl _ _, rfl⟩
              · intro a W hb0 hs hp hi; have hb := undrew hb0; clear hb0
                have t108 : sl a 108 = .bool false := hp 5 (by decide)
                exact ite_y rfl (wp_val (sl a 108) rfl ⟨_, rfl, Below.refl _ _, t108⟩)
              · intro a W hb0 hs hp hi; have hb := undrew hb0; clear hb0
                have tg : sl a 109 = .bool false := hp 6 (by decide)
                have t21 : sl a 21 = .pointer (some ⟨bv, 0, none⟩) := hi 21 (by decide)
                refine ite_y (wanted_yes rfl rfl (by have hz : a.tmps.size = 162 := hs; rw [hz]; decide) tg) (wp_val (.pointer (some ⟨bv, 1, none⟩)) ?_ ?_)
                · simp only [execOp, eval_tmp, eval_const, t21]; simp [go_sem]
                · exact ⟨_, rfl, Below.refl _ _, rfl⟩
              · intro a W hb0 hs hp hi; have hb := undrew hb0; clear hb0
                have tg : sl a 109 = .bool false := hp 6 (by decide)
                have tt : sl a 110 = .pointer (some ⟨bv, 1, none⟩) := hp 7 (by decide)
                have dd := (hb.cell (p := ⟨bv, 1, none⟩) (lt_of_cell v1)).trans v1
                refine ite_y (wanted_yes rfl rfl (by have hz : a.tmps.size = 162 := hs; rw [hz]; decide) tg) (wp_val (.int .i64 (-1)) ?_ ?_)
                · simp only [execOp, eval_tmp, tt]; simp [go_sem, dd]
                · exact ⟨_, rfl, Below.refl _ _, rfl⟩
              · intro a W hb0 hs hp hi; have hb := undrew hb0; clear hb0
                have tg : sl a 109 = .bool false := hp 6 (by decide)
                have t111 : sl a 111 = .int .i64 (-1) := hp 8 (by decide)
                refine ite_y (wanted_yes rfl rfl (by have hz : a.tmps.size = 162 := hs; rw [hz]; decide) tg) (wp_val (.bool false) ?_ ?_)
                · simp only [execOp, eval_tmp, eval_const, t111]; simp [go_sem]
                · exact ⟨_, rfl, Below.refl _ _, rfl⟩
              · intro a W hb0 hs hp hi; have hb := undrew hb0; clear hb0
                have t109 : sl a 109 = .bool false := hp 6 (by decide)
                have t112 : sl a 112 = .bool false := hp 9 (by decide)
                refine ite_y rfl (wp_val (.bool false) ?_ ?_)
                · simp only [execOp, eval_tmp, eval_const, t109, t112]; simp [go_sem]
                · exact ⟨_, rfl, Below.refl _ _, rfl⟩
              · intro a W hb0 hs hp hi; have hb := undrew hb0; clear hb0
                have t113 : sl a 113 = .bool false := hp 10 (by decide)
                exact ite_y rfl (wp_val (sl a 113) rfl ⟨_, rfl, Below.refl _ _, t113⟩)
              · intro a W hb0 hs hp hi; have hb := undrew hb0; clear hb0
                have tg : sl a 114 = .bool false := hp 11 (by decide)
                have t11 : sl a 11 = .slice qo j co := hi 11 (by decide)
                exact ite_y (wanted_yes rfl rfl (by have hz : a.tmps.size = 162 := hs; rw [hz]; decide) tg) (wp_val (sl a 11) rfl ⟨_, rfl, Below.refl _ _, t11⟩)
              · intro a W hb0 hs hp hi; have hb := undrew hb0; clear hb0
                have tg : sl a 114 = .bool false := hp 11 (by decide)
                have t15 : sl a 15 = .slice ql i cl := hi 15 (by decide)
                exact ite_y (wanted_yes rfl rfl (by have hz : a.tmps.size = 162 := hs; rw [hz]; decide) tg) (wp_val (sl a 15) rfl ⟨_, rfl, Below.refl _ _, t15⟩)
              · intro a W hb0 hs hp hi; have hb := undrew hb0; clear hb0
                have tg : sl a 114 = .bool false := hp 11 (by decide)
                have t115 : sl a 115 = .slice qo j co := hp 12 (by decide)
                have t116 : sl a 116 = .slice ql i cl := hp 13 (by decide)
                refine ite_y (wanted_yes rfl rfl (by have hz : a.tmps.size = 162 := hs; rw [hz]; decide) tg) (wp_enter 27 #[.slice qo j co, .slice ql i cl] ?_ (HHD.out W (F5.out.keep hb) (RS5.out.keep hb)) ?_)
                · simp only [execOp, resolve, List.map_toArray, List.map, eval_tmp, eval_func, eval_const, t115, t116]; simp [go_sem]
                · rintro e W' ⟨rfl, hw⟩; exact ⟨_, rfl, _, rfl, hw, rfl⟩
              · intro a W hb0 hs hp hi; have hb := undrew hb0; clear hb0
                have tg : sl a 114 = .bool false := hp 11 (by decide)
                have t117 : sl a 117 = .bool true := hp 14 (by decide)
                refine ite_y (wanted_yes rfl rfl (by have hz : a.tmps.size = 162 := hs; rw [hz]; decide) tg) (wp_val (.bool false) ?_ ?_)
                · simp only [execOp, eval_tmp, eval_const, t117]; simp [go_sem]
                · exact ⟨_, rfl, Below.refl _ _, rfl⟩
              · intro a W hb0 hs hp hi; have hb := undrew hb0; clear hb0
                have t114 : sl a 114 = .bool false := hp 11 (by decide)
                have t118 : sl a 118 = .bool false := hp 15 (by decide)
                refine ite_y rfl (wp_val (.bool false) ?_ ?_)
                · simp only [execOp, eval_tmp, eval_const, t114, t118]; simp [go_sem]
                · exact ⟨_, rfl, Below.refl _ _, rfl⟩
              · intro a W hb0 hs hp hi; have hb := undrew hb0; clear hb0
                have t119 : sl a 119 = .bool false := hp 16 (by decide)
                exact ite_y rfl (wp_val (sl a 119) rfl ⟨_, rfl, Below.refl _ _, t119⟩)
              · intro a W hb0 hs hp hi; have hb := undrew hb0; clear hb0
                have tg : sl a 120 = .bool false := hp 17 (by decide)
                have tt : sl a 23 = .pointer (some ⟨bn, 0, none⟩) := hi 23 (by decide)
                have dd0 := (hb.cell (p := ⟨bn, 0, none⟩) (lt_of_cell n0)).trans n0
                refine ite_y (wanted_yes rfl rfl (by have hz : a.tmps.size = 162 := hs; rw [hz]; decide) tg) (wp_val (.agg #[.slice qn nn dn]) ?_ ?_)
                · simp only [execOp, eval_tmp, tt]; simp [go_sem, dd0]
                · exact ⟨_, rfl, Below.refl _ _, rfl⟩
              · intro a W hb0 hs hp hi; have hb := undrew hb0; clear hb0
                have tg : sl a 120 = .bool false := hp 17 (by decide)
                have t121 : sl a 121 = .agg #[.slice qn nn dn] := hp 18 (by decide)
                refine ite_y (wanted_yes rfl rfl (by have hz : a.tmps.size = 162 := hs; rw [hz]; decide) tg) (wp_enter 22 #[.agg #[.slice qn nn dn]] ?_ (HLE.out W (W5.out.keep hb)) ?_)
                · simp only [execOp, resolve, List.map_toArray, List.map, eval_tmp, eval_func, eval_const, t121]; simp [go_sem]
                · rintro e W' ⟨rfl, hw⟩; exact ⟨_, rfl, _, rfl, hw, rfl⟩
              · intro a W hb0 hs hp hi; have hb := undrew hb0; clear hb0
                have tg : sl a 120 = .bool false := hp 17 (by decide)
                have t122 : sl a 122 = .int .i64 l := hp 19 (by decide)
                refine ite_y (wanted_yes rfl rfl (by have hz : a.tmps.size = 162 := hs; rw [hz]; decide) tg) (wp_val (.bool false) ?_ ?_)
                · simp only [execOp, eval_tmp, eval_const, t122]; simp [go_sem, hlb, hl0]
                · exact ⟨_, rfl, Below.refl _ _, rfl⟩
              · intro a W hb0 hs hp hi; have hb := undrew hb0; clear hb0
                have t120 : sl a 120 = .bool false := hp 17 (by decide)
                have t123 : sl a 123 = .bool false := hp 20 (by decide)
                refine ite_y rfl (wp_val (.bool false) ?_ ?_)
                · simp only [execOp, eval_tmp, eval_const, t120, t123]; simp [go_sem]
                · exact ⟨_, rfl, Below.refl _ _, rfl⟩
              · intro a W hb0 hs hp hi; have hb := undrew hb0; clear hb0
                have t124 : sl a 124 = .bool false := hp 21 (by decide)
                exact ite_y rfl (wp_val (sl a 124) rfl ⟨_, rfl, Below.refl _ _, t124⟩)
              · intro a W hb0 hs hp hi; have hb := undrew hb0; clear hb0
                have tg : sl a 125 = .bool false := hp 22 (by decide)
                have tt : sl a 23 = .pointer (some ⟨bn, 0, none⟩) := hi 23 (by decide)
                have dd0 := (hb.cell (p := ⟨bn, 0, none⟩) (lt_of_cell n0)).trans n0
                refine ite_y (wanted_yes rfl rfl (by have hz : a.tmps.size = 162 := hs; rw [hz]; decide) tg) (wp_val (.agg #[.slice qn nn dn]) ?_ ?_)
                · simp only [execOp, eval_tmp, tt]; simp [go_sem, dd0]
                · exact ⟨_, rfl, Below.refl _ _, rfl⟩
              · intro a W hb0 hs hp hi; have hb := undrew hb0; clear hb0
                have tg : sl a 125 = .bool false := hp 22 (by decide)
                refine ite_y (wanted_yes rfl rfl (by have hz : a.tmps.size = 162 := hs; rw [hz]; decide) tg) (wp_enter 10 #[.int .u64 1] ?_ (Of_k 1 (by decide) W) ?_)
                · simp only [execOp, resolve, List.map_toArray, List.map, eval_tmp, eval_func, eval_const, ]; simp [go_sem]
                · rintro e W' ⟨q, n, c, rfl, hw, hb'⟩; exact ⟨_, rfl, _, rfl, hb', q, n, c, rfl, hw⟩
              · intro a W hb0 hs hp hi; have hb := undrew hb0; clear hb0
                have tg : sl a 125 = .bool false := hp 22 (by decide)
                have t126 : sl a 126 = .agg #[.slice qn nn dn] := hp 23 (by decide)
                have t127 : IsN 34 (1) (sl a 127) W := hp 24 (by decide)
                obtain ⟨y127a, y127b, y127c, t127, z127a⟩ := t127
                refine ite_y (wanted_yes rfl rfl (by have hz : a.tmps.size = 162 := hs; rw [hz]; decide) tg) (wp_enter 11 #[.agg #[.slice qn nn dn], .agg #[.slice y127a y127b y127c]] ?_ (HCM.out W _ _ _ z127a (W5.out.keep hb)) ?_)
                · simp only [execOp, resolve, List.map_toArray, List.map, eval_tmp, eval_func, eval_const, t126, t127]; simp [go_sem]
                · rintro e W' ⟨rfl, hw⟩; exact ⟨_, rfl, _, rfl, hw, rfl⟩
              · intro a W hb0 hs hp hi; have hb := undrew hb0; clear hb0
                have tg : sl a 125 = .bool false := hp 22 (by decide)
                have t128 : sl a 128 = .int .i64 0 := hp 25 (by decide)
                refine ite_y (wanted_yes rfl rfl (by have hz : a.tmps.size = 162 := hs; rw [hz]; decide) tg) (wp_val (.bool true) ?_ ?_)
                · simp only [execOp, eval_tmp, eval_const, t128]; simp [go_sem]
                · exact ⟨_, rfl, Below.refl _ _, rfl⟩
              · intro a W hb0 hs hp hi; have hb := undrew hb0; clear hb0
                have tg : sl a 125 = .bool false := hp 22 (by decide)
                have t21 : sl a 21 = .pointer (some ⟨bv, 0, none⟩) := hi 21 (by decide)
                refine ite_y (wanted_yes rfl rfl (by have hz : a.tmps.size = 162 := hs; rw [hz]; decide) tg) (wp_val (.pointer (some ⟨bv, 0, none⟩)) ?_ ?_)
                · simp only [execOp, eval_tmp, eval_const, t21]; simp [go_sem]
                · exact ⟨_, rfl, Below.refl _ _, rfl⟩
              · intro a W hb0 hs hp hi; have hb := undrew hb0; clear hb0
                have tg : sl a 125 = .bool false := hp 22 (by decide)
                have tt : sl a 130 = .pointer (some ⟨bv, 0, none⟩) := hp 27 (by decide)
                have dd := (hb.cell (p := ⟨bv, 0, none⟩) (lt_of_cell v0)).trans v0
                refine ite_y (wanted_yes rfl rfl (by have hz : a.tmps.size = 162 := hs; rw [hz]; decide) tg) (wp_val (.int .i64 r) ?_ ?_)
                · simp only [execOp, eval_tmp, tt]; simp [go_sem, dd]
                · exact ⟨_, rfl, Below.refl _ _, rfl⟩
              · intro a W hb0 hs hp hi; have hb := undrew hb0; clear hb0
                have tg : sl a 125 = .bool false := hp 22 (by decide)
                have t9 : sl a 9 = .int .i64 j := hi 9 (by decide)
                exact ite_y (wanted_yes rfl rfl (by have hz : a.tmps.size = 162 := hs; rw [hz]; decide) tg) (wp_val (sl a 9) rfl ⟨_, rfl, Below.refl _ _, t9⟩)
              · intro a W hb0 hs hp hi; have hb := undrew hb0; clear hb0
                have tg : sl a 125 = .bool false := hp 22 (by decide)
                have t131 : sl a 131 = .int .i64 r := hp 28 (by decide)
                have t132 : sl a 132 = .int .i64 j := hp 29 (by decide)
                refine ite_y (wanted_yes rfl rfl (by have hz : a.tmps.size = 162 := hs; rw [hz]; decide) tg) (wp_val (.bool true) ?_ ?_)
                · simp only [execOp, eval_tmp, eval_const, t131, t132]; simp [go_sem, hrb, hre]
                · exact ⟨_, rfl, Below.refl _ _, rfl⟩
              · intro a W hb0 hs hp hi; have hb := undrew hb0; clear hb0
                have tg : sl a 125 = .bool false := hp 22 (by decide)
                have t133 : sl a 133 = .bool true := hp 30 (by decide)
                exact ite_y (wanted_yes rfl rfl (by have hz : a.tmps.size = 162 := hs; rw [hz]; decide) tg) (wp_val (sl a 133) rfl ⟨_, rfl, Below.refl _ _, t133⟩)
              · intro a W hb0 hs hp hi; have hb := undrew hb0; clear hb0
                have tg : sl a 134 = .bool true := hp 31 (by decide)
                exact ite_n (wanted_no rfl rfl (by have hz : a.tmps.size = 162 := hs; rw [hz]; decide) tg (by decide)) rfl
              · intro a W hb0 hs hp hi; have hb := undrew hb0; clear hb0
                have tg : sl a 134 = .bool true := hp 31 (by decide)
                exact ite_n (wanted_no rfl rfl (by have hz : a.tmps.size = 162 := hs; rw [hz]; decide) tg (by decide)) rfl
              · intro a W hb0 hs hp hi; have hb := undrew hb0; clear hb0
                have tg : sl a 125 = .bool false := hp 22 (by decide)
                have t134 : sl a 134 = .bool true := hp 31 (by decide)
                have t136 : sl a 136 = undef := hp 33 (by decide)
                refine ite_y (wanted_yes rfl rfl (by have hz : a.tmps.size = 162 := hs; rw [hz]; decide) tg) (wp_val (.bool true) ?_ ?_)
                · simp only [execOp, eval_tmp, eval_const, t134, t136]; simp [go_sem]
                · exact ⟨_, rfl, Below.refl _ _, rfl⟩
              · intro a W hb0 hs hp hi; have hb := undrew hb0; clear hb0
                have tg : sl a 125 = .bool false := hp 22 (by decide)
                have t129 : sl a 129 = .bool true := hp 26 (by decide)
                have t137 : sl a 137 = .bool true := hp 34 (by decide)
                refine ite_y (wanted_yes rfl rfl (by have hz : a.tmps.size = 162 := hs; rw [hz]; decide) tg) (wp_val (.bool false) ?_ ?_)
                · simp only [execOp, eval_tmp, eval_const, t129, t137]; simp [go_sem]
                · exact ⟨_, rfl, Below.refl _ _, rfl⟩
              · intro a W hb0 hs hp hi; have hb := undrew hb0; clear hb0
                have t125 : sl a 125 = .bool false := hp 22 (by decide)
                have t138 : sl a 138 = .bool false := hp 35 (by decide)
                refine ite_y rfl (wp_val (.bool false) ?_ ?_)
                · simp only [execOp, eval_tmp, eval_const, t125, t138]; simp [go_sem]
                · exact ⟨_, rfl, Below.refl _ _, rfl⟩
            intro a w6 hb hs hd hI ht
            have ha := act_is [103, 104, 105, 106, 107, 108, 109, 110, 111, 112, 113, 114, 115, 116, 117, 118, 119, 120, 121, 122, 123, 124, 125, 126, 127, 128, 129, 130, 131, 132, 133, 134, 135, 136, 137, 138, 139] hs hd ht (by decide)
            have t139 : sl a 139 = .bool false := hI 36 (by decide)
            simp only [List.foldl, t139] at ha
            generalize sl a 103 = u103 at ha
            generalize sl a 104 = u104 at ha
            generalize sl a 105 = u105 at ha
            generalize sl a 106 = u106 at ha
            generalize sl a 107 = u107 at ha
            generalize sl a 108 = u108 at ha
            generalize sl a 109 = u109 at ha
            generalize sl a 110 = u110 at ha
            generalize sl a 111 = u111 at ha
            generalize sl a 112 = u112 at ha
            generalize sl a 113 = u113 at ha
            generalize sl a 114 = u114 at ha
            generalize sl a 115 = u115 at ha
            generalize sl a 116 = u116 at ha
            generalize sl a 117 = u117 at ha
            generalize sl a 118 = u118 at ha
            generalize sl a 119 = u119 at ha
            generalize sl a 120 = u120 at ha
            generalize sl a 121 = u121 at ha
            generalize sl a 122 = u122 at ha
            generalize sl a 123 = u123 at ha
            generalize sl a 124 = u124 at ha
            generalize sl a 125 = u125 at ha
            generalize sl a 126 = u126 at ha
            generalize sl a 127 = u127 at ha
            generalize sl a 128 = u128 at ha
            generalize sl a 129 = u129 at ha
            generalize sl a 130 = u130 at ha
            generalize sl a 131 = u131 at ha
            generalize sl a 132 = u132 at ha
            generalize sl a 133 = u133 at ha
            generalize sl a 134 = u134 at ha
            generalize sl a 135 = u135 at ha
            generalize sl a 136 = u136 at ha
            generalize sl a 137 = u137 at ha
            generalize sl a 138 = u138 at ha
            simp only [Act.put, List.setIfInBounds_toArray, List.set_cons_zero, List.set_cons_succ] at ha
            rw [ha]
            clear ha hI ht
            have B6 : Hid (Below B wN w6) := bl B5.out hb hs5
            have R6 := Lib.hid (R5.out.keep hb); have W6 := Lib.hid (W5.out.keep hb); have N6 : Hid (BlkIs bn (.cells #[.slice qn nn dn] 29) w6) := N5.out.keep hb
            clear hb v0 v1 n0 V5 N5 B5 R5 W5 F5 RS5 HHD HLE hlb hl0 HCM hrb hre hP1 hrj
            have h6 := HXO.out _ B6.out
            have xa0 : w6.cell? ⟨w.heap.size, 0, none⟩ = some (.slice p3 m3 c3) := cell_of_row _ _ 0 _ _ _ h6
            have xa1 : w6.cell? ⟨w.heap.size, 1, none⟩ = some (.slice p4 m4 c4) := cell_of_row _ _ 1 _ _ _ h6
            have X3 := Lib.hid (H3.out.keep (HN.out _ B6.out)); have X4 := Lib.hid (H4.out.keep (HN.out _ B6.out))
            clear h6
            go_wp2_with fail
            refine Calls.mono (Fit8_any j n p3 p4 m3 c3 m4 c4 mo w6 X3.out X4.out (by omega) (by omega)) ?_
            rintro e w7 ⟨q1, d1, q2, d2, xs, ys, rfl, s1, s2, hb⟩
            have hs6 := HBs.out _ B6.out
            have B7 : Hid (Below B wN w7) := bl B6.out hb hs6
            have R7 := Lib.hid (R6.out.keep hb); have W7 := Lib.hid (W6.out.keep hb); have N7 : Hid (BlkIs bn (.cells #[.slice qn nn dn] 29) w7) := N6.out.keep hb
            have S1 := Lib.hid s1; have S2 := Lib.hid s2
            clear hb s1 s2 xa0 xa1 X3 X4 B6 R6 W6 N6
            go_wp2_with fail
            refine Calls.mono (OMake_any q1 q2 j d1 n d2 xs ys w7 S1.out S2.out (by unfold Room; omega) (by unfold Room; omega)) ?_
            rintro e w8 ⟨r1, mm1, e1, r2, mm3, e2, l1, l2, rfl, o1, o2, hb⟩
            obtain rfl : j = mm1 := by have := l1.out; have h := S1.out.len; simp only at this; omega
            obtain rfl : n = mm3 := by have := l2.out; have h := S2.out.len; simp only at this; omega
            have HFY : Hid (Fit j n (xs, ys)) := ⟨S1.out.len, S2.out.len⟩
            have hs7 := HBs.out _ B7.out
            have B8' : Hid (Below B wN w8) := bl B7.out hb hs7
            have R8 := Lib.hid (R7.out.keep hb); have W8 := Lib.hid (W7.out.keep hb); have N8 : Hid (BlkIs bn (.cells #[.slice qn nn dn] 29) w8) := N7.out.keep hb
            have O1 : Hid (Bw 5 w8 B (.slice r1 j e1) xs) := Bw.mk (owns_mono o1 hs7) l1.out
            have O2 : Hid (Bw 5 w8 B (.slice r2 n e2) ys) := Bw.mk (owns_mono o2 hs7) l2.out
            clear o1 o2 hb R7 W7 N7 l1 l2 B7 S1 S2
            have BAL : Hid (∀ o, Below w8.heap.size w8 (w8.alloc o)) := fun o => al (Below.refl _ _) (Nat.le_refl _)
            obtain ⟨us, la, lb, lo, lr⟩ := R8.out
            have LO : Hid (∀ o, (w8.alloc o).ownsRow B 63 2 (.slice ql i cl) i (fl2 us)) := fun o => owns_keep lo (BAL.out o)
            have LR : Hid (∀ o (j : Nat) (u : Value × Value), us[j]? = some u → ∃ k, XS[j]? = some k ∧ Bw 5 (w8.alloc o) B u.1 k.1 ∧ Bw 5 (w8.alloc o) B u.2 k.2) := fun o jj u hj => by
              obtain ⟨kk, g1, g2, g3⟩ := lr jj u hj
              exact ⟨kk, g1, g2.keep (BAL.out o), g3.keep (BAL.out o)⟩
            have LA := Lib.hid la; have LB := Lib.hid lb
            have hs8 := HBs.out _ B8'.out
            clear lo lr la lb R8
            go_wp2_with (at_builtin; refine wpList_append_lies _ rfl (.tmp 143) (.tmp 149) 43 rfl B 63 s0 (.agg #[.slice none 0 0, .slice none 0 0]) 2 48 Tryd.underlying43 hs0 hsz hs1 hs2 rfl (by omega) (.slice ql i cl) i (fl2 us) rfl (LO.out _) ⟨w8.heap.size, 0, none⟩ 1 1 [.slice r1 j e1, .slice r2 n e2] rfl rfl (two_cells rfl) (two_ones _ _ _ _ _ _) (by omega) (by unfold maxLen; omega) (by omega) (by simp; omega) _ rfl ?_)
            intro gl cl' w9 ho9 hg9 hat9 hlt9
            obtain ⟨o9, ho9e⟩ : ∃ o, o = Obj.cells #[.slice r1 j e1, .slice r2 n e2] 63 := ⟨_, rfl⟩
            have L9 : Hid (RwL 63 5 w9 B (.slice (some ⟨gl, 0, none⟩) (i + 1) cl') (i + 1) (XS ++ [(xs, ys)])) :=
              RwL.push LA.out LB.out (LO.out _) (LR.out _) (by decide) (O1.out.keep (BAL.out _)) (O2.out.keep (BAL.out _)) ho9 hg9
            have B9 : Hid (Below B wN w9) := (al B8'.out hs8).grown hg9 (by simp; omega) (fun kk hk => ((LO.out (.cells #[.slice r1 j e1, .slice r2 n e2] 63)).lt kk hk).1)
            have W9 : Hid (Ws 34 w9 qn nn dn P) := Ws.grow (LO.out (.cells #[.slice r1 j e1, .slice r2 n e2] 63)) hg9 (W8.out.keep (BAL.out _)) (by decide)
            have N9 : Hid (BlkIs bn (.cells #[.slice qn nn dn] 29) w9) := by
              have h := N8.out.keep (BAL.out (.cells #[.slice r1 j e1, .slice r2 n e2] 63))
              exact (hg9.block _ (blk_lt h) (own_other (LO.out _) h (by decide))).trans h
            have HC2 : Hid (∀ W q c, RwS W q (i + 1) c (XS ++ [(xs, ys)]) → Calls Tryd.prog 21 #[.int .i64 j, .int .i64 n, .slice q (i + 1) c] W (RetN 34 W (cntI j n (XS ++ [(xs, ys)]) (i + 1)))) := fun W q c h => by
              have hf : ∀ x, x ∈ XS ++ [(xs, ys)] → Fit j n x := fun x hx => by
                rcases List.mem_append.1 hx with h1 | h1
                · exact (HXA.out x h1).1
                · rw [List.mem_singleton] at h1; subst h1; exact HFY.out
              have hj := fun W2 (hb2 : Below W.heap.size W W2) => Judge_fit j n q (i + 1) c (XS ++ [(xs, ys)]) W2 (h.keep hb2) hk1 (by omega) (by omega) (by omega) hf
              unfold cntI
              by_cases hc : clashI (XS ++ [(xs, ys)]) (i + 1) < 0
              · rw [if_pos hc]
                have e : clashI (XS ++ [(xs, ys)]) (i + 1) = -1 := by have := (clashI_range (XS ++ [(xs, ys)]) (i + 1)).1; omega
                rw [e] at hj
                exact Count_ok j n q (i + 1) c _ W (by omega) (by omega) (kD_wide hf) hj
              · rw [if_neg hc]
                exact Count_clash j n q (i + 1) c _ _ W (by omega) hj
            have HLE2 : Hid (cntI j n (XS ++ [(xs, ys)]) (i + 1) ≤ P) := by
              show _ ≤ _
              rw [HP.out, HRD.out]; exact cntQ_le
            obtain ⟨M, hM⟩ : ∃ M, M = cntI j n (XS ++ [(xs, ys)]) (i + 1) := ⟨_, rfl⟩
            rw [← hM] at HC2 HLE2
            clear ho9 hg9 hat9 hlt9 O1 O2 LO LR LA LB BAL B8' W8 N8 hM ho9e o9
            go_wp2_with fail
            refine Calls.mono (HC2.out _ _ _ L9.out.rwS) ?_
            rintro e wa ⟨qm, nm, dm, rfl, hw, hb⟩
            have hs9 := HBs.out _ B9.out
            have Ba : Hid (Below B wN wa) := bl B9.out hb hs9
            have Wa := Lib.hid (W9.out.keep hb); have Ma := Lib.hid hw
            have Na : Hid (BlkIs bn (.cells #[.slice qn nn dn] 29) wa) := N9.out.keep hb
            have hsa := HBs.out _ Ba.out
            have n0 : ∀ o, (wa.alloc o).cell? ⟨bn, 0, none⟩ = some (.slice qn nn dn) := fun o => cell_of_row _ _ 0 _ _ _ (hal Na.out)
            have HCZ : Hid (∀ W, Ws 34 W qm nm dm M → Ws 34 W qn nn dn P → Calls Tryd.prog 11 #[.agg #[.slice qm nm dm], .agg #[.slice qn nn dn]] W fun e w' => e = .returned (.int .i64 (cmpN M P)) ∧ Below W.heap.size W w') := fun W a b => Cmp_any qm qn nm dm nn dn M P W a b
            have hcz := cmpN_le HLE2.out
            obtain ⟨cz, hczd⟩ : ∃ cz, cz = cmpN M P := ⟨_, rfl⟩
            rw [← hczd] at HCZ hcz
            clear hw hb hczd B9 W9 N9 L9 Na HC2
            go_wp2_with fail
            refine Calls.mono (HCZ.out _ (Ma.out.keep (ba1 _ _)) (Wa.out.keep (ba1 _ _))) ?_
            rintro e wb ⟨rfl, hb⟩
            have Bb : Hid (Below B wN wb) := bl (al Ba.out hsa) hb (by have := hsa; simp; omega)
            clear hb n0
            go_wp2
            go_ret
            exact ⟨by simp [hcz], HN.out _ Bb.out⟩
          · have hrb : ((r : Int) == (j : Int)) = false := by simp; omega
            have hre : ¬ r = j := hrj
            by_cases hn0 : n = 0
            · have hP1 : P = 1 := by rw [HP.out]; exact (cntQ_one hrk).2 (.inr hn0)
              have HCM : Hid (∀ W q m d, Ws 34 W q m d 1 → Ws 34 W qn nn dn P → Calls Tryd.prog 11 #[.agg #[.slice qn nn dn], .agg #[.slice q m d]] W fun e w' => e = .returned (.int .i64 0) ∧ Below W.heap.size W w') := fun W q m d a b => Cmp_same b a hP1
              have hnb : ((n : Int) == 0) = true := by simp; omega
              have hne : n = 0 := hn0
              refine wp_region_shapes (fun ix => ([.val (.int .i64 0), .val (.bool false), .val (.bool false), .val (.int .i64 0), .val (.bool false), .val (.bool false), .val (.bool false), .val (.pointer (some ⟨bv, 1, none⟩)), .val (.int .i64 (-1)), .val (.bool false), .val (.bool false), .val (.bool false), .val (.slice qo j co), .val (.slice ql i cl), .val (.bool true), .val (.bool false), .val (.bool false), .val (.bool false), .val (.agg #[.slice qn nn dn]), .val (.int .i64 l), .val (.bool false), .val (.bool false), .val (.bool false), .val (.agg #[.slice qn nn dn]), ShpN 34 (1), .val (.int .i64 0), .val (.bool true), .val (.pointer (some ⟨bv, 0, none⟩)), .val (.int .i64 r), .val (.int .i64 j), .val (.bool false), .val (.bool false), .val (.int .i64 n), .val (.bool true), .val (.bool true), .val (.bool false), .val (.bool false)][ix]?).getD (.any)) 162 rfl (by kernel_rfl) (by decide) (by decide) (by decide) ?_ ?_
              · refine ⟨?_, ?_, ?_, ?_, ?_, ?_, ?_, ?_, ?_, ?_, ?_, ?_, ?_, ?_, ?_, ?_, ?_, ?_, ?_, ?_, ?_, ?_, ?_, ?_, ?_, ?_, ?_, ?_, ?_, ?_, ?_, ?_, ?_, ?_, ?_, ?_, ?_, trivial⟩
                · intro a W hb0 hs hp hi; have hb := undrew hb0; clear hb0
                  have t22 : sl a 22 = .int .i64 0 := hi 22 (by decide)
                  exact ite_y rfl (wp_val (sl a 22) rfl ⟨_, rfl, Below.refl _ _, t22⟩)
                · intro a W hb0 hs hp hi; have hb := undrew hb0; clear hb0
                  have t103 : sl a 103 = .int .i64 0 := hp 0 (by decide)
                  refine ite_y rfl (wp_val (.bool false) ?_ ?_)
                  · simp only [execOp, eval_tmp, eval_const, t103]; simp [go_sem]
                  · exact ⟨_, rfl, Below.refl _ _, rfl⟩
                · intro a W hb0 hs hp hi; have hb := undrew hb0; clear hb0
                  have t104 : sl a 104 = .bool false := hp 1 (by decide)
                  exact ite_y rfl (wp_val (sl a 104) rfl ⟨_, rfl, Below.refl _ _, t104⟩)
                · intro a W hb0 hs hp hi; have hb := undrew hb0; clear hb0
                  have tg : sl a 105 = .bool false := hp 2 (by decide)
                  have t24 : sl a 24 = .int .i64 0 := hi 24 (by decide)
                  exact ite_y (wanted_yes rfl rfl (by have hz : a.tmps.size = 162 := hs; rw [hz]; decide) tg) (wp_val (sl a 24) rfl ⟨_, rfl, Below.refl _ _, t24⟩)
                · intro a W hb0 hs hp hi; have hb := undrew hb0; clear hb0
                  have tg : sl a 105 = .bool false := hp 2 (by decide)
                  have t106 : sl a 106 = .int .i64 0 := hp 3 (by decide)
                  refine ite_y (wanted_yes rfl rfl (by have hz : a.tmps.size = 162 := hs; rw [hz]; decide) tg) (wp_val (.bool false) ?_ ?_)
                  · simp only [execOp, eval_tmp, eval_const, t106]; simp [go_sem]
                  · exact ⟨_, rfl, Below.refl _ _, rfl⟩
                · intro a W hb0 hs hp hi; have hb := undrew hb0; clear hb0
                  have t105 : sl a 105 = .bool false := hp 2 (by decide)
                  have t107 : sl a 107 = .bool false := hp 4 (by decide)
                  refine ite_y rfl (wp_val (.bool false) ?_ ?_)
                  · simp only [execOp, eval_tmp, eval_const, t105, t107]; simp [go_sem]
                  · exact ⟨_, rfl, Below.refl _ _, rfl⟩
                · intro a W hb0 hs hp hi; have hb := undrew hb0; clear hb0
                  have t108 : sl a 108 = .bool false := hp 5 (by decide)
                  exact ite_y rfl (wp_val (sl a 108) rfl ⟨_, rfl, Below.refl _ _, t108⟩)
                · intro a W hb0 hs hp hi; have hb := undrew hb0; clear hb0
                  have tg : sl a 109 = .bool false := hp 6 (by decide)
                  have t21 : sl a 21 = .pointer (some ⟨bv, 0, none⟩) := hi 21 (by decide)
                  refine ite_y (wanted_yes rfl rfl (by have hz : a.tmps.size = 162 := hs; rw [hz]; decide) tg) (wp_val (.pointer (some ⟨bv, 1, none⟩)) ?_ ?_)
                  · simp only [execOp, eval_tmp, eval_const, t21]; simp [go_sem]
                  · exact ⟨_, rfl, Below.refl _ _, rfl⟩
                · intro a W hb0 hs hp hi; have hb := undrew hb0; clear hb0
                  have tg : sl a 109 = .bool false := hp 6 (by decide)
                  have tt : sl a 110 = .pointer (some ⟨bv, 1, none⟩) := hp 7 (by decide)
                  have dd := (hb.cell (p := ⟨bv, 1, none⟩) (lt_of_cell v1)).trans v1
                  refine ite_y (wanted_yes rfl rfl (by have hz : a.tmps.size = 162 := hs; rw [hz]; decide) tg) (wp_val (.int .i64 (-1)) ?_ ?_)
                  · simp only [execOp, eval_tmp, tt]; simp [go_sem, dd]
                  · exact ⟨_, rfl, Below.refl _ _, rfl⟩
                · intro a W hb0 hs hp hi; have hb := undrew hb0; clear hb0
                  have tg : sl a 109 = .bool false := hp 6 (by decide)
                  have t111 : sl a 111 = .int .i64 (-1) := hp 8 (by decide)
                  refine ite_y (wanted_yes rfl rfl (by have hz : a.tmps.size = 162 := hs; rw [hz]; decide) tg) (wp_val (.bool false) ?_ ?_)
                  · simp only [execOp, eval_tmp, eval_const, t111]; simp [go_sem]
                  · exact ⟨_, rfl, Below.refl _ _, rfl⟩
                · intro a W hb0 hs hp hi; have hb := undrew hb0; clear hb0
                  have t109 : sl a 109 = .bool false := hp 6 (by decide)
                  have t112 : sl a 112 = .bool false := hp 9 (by decide)
                  refine ite_y rfl (wp_val (.bool false) ?_ ?_)
                  · simp only [execOp, eval_tmp, eval_const, t109, t112]; simp [go_sem]
                  · exact ⟨_, rfl, Below.refl _ _, rfl⟩
                · intro a W hb0 hs hp hi; have hb := undrew hb0; clear hb0
                  have t113 : sl a 113 = .bool false := hp 10 (by decide)
                  exact ite_y rfl (wp_val (sl a 113) rfl ⟨_, rfl, Below.refl _ _, t113⟩)
                · intro a W hb0 hs hp hi; have hb := undrew hb0; clear hb0
                  have tg : sl a 114 = .bool false := hp 11 (by decide)
                  have t11 : sl a 11 = .slice qo j co := hi 11 (by decide)
                  exact ite_y (wanted_yes rfl rfl (by have hz : a.tmps.size = 162 := hs; rw [hz]; decide) tg) (wp_val (sl a 11) rfl ⟨_, rfl, Below.refl _ _, t11⟩)
                · intro a W hb0 hs hp hi; have hb := undrew hb0; clear hb0
                  have tg : sl a 114 = .bool false := hp 11 (by decide)
                  have t15 : sl a 15 = .slice ql i cl := hi 15 (by decide)
                  exact ite_y (wanted_yes rfl rfl (by have hz : a.tmps.size = 162 := hs; rw [hz]; decide) tg) (wp_val (sl a 15) rfl ⟨_, rfl, Below.refl _ _, t15⟩)
                · intro a W hb0 hs hp hi; have hb := undrew hb0; clear hb0
                  have tg : sl a 114 = .bool false := hp 11 (by decide)
                  have t115 : sl a 115 = .slice qo j co := hp 12 (by decide)
                  have t116 : sl a 116 = .slice ql i cl := hp 13 (by decide)
                  refine ite_y (wanted_yes rfl rfl (by have hz : a.tmps.size = 162 := hs; rw [hz]; decide) tg) (wp_enter 27 #[.slice qo j co, .slice ql i cl] ?_ (HHD.out W (F5.out.keep hb) (RS5.out.keep hb)) ?_)
                  · simp only [execOp, resolve, List.map_toArray, List.map, eval_tmp, eval_func, eval_const, t115, t116]; simp [go_sem]
                  · rintro e W' ⟨rfl, hw⟩; exact ⟨_, rfl, _, rfl, hw, rfl⟩
                · intro a W hb0 hs hp hi; have hb := undrew hb0; clear hb0
                  have tg : sl a 114 = .bool false := hp 11 (by decide)
                  have t117 : sl a 117 = .bool true := hp 14 (by decide)
                  refine ite_y (wanted_yes rfl rfl (by have hz : a.tmps.size = 162 := hs; rw [hz]; decide) tg) (wp_val (.bool false) ?_ ?_)
                  · simp only [execOp, eval_tmp, eval_const, t117]; simp [go_sem]
                  · exact ⟨_, rfl, Below.refl _ _, rfl⟩
                · intro a W hb0 hs hp hi; have hb := undrew hb0; clear hb0
                  have t114 : sl a 114 = .bool false := hp 11 (by decide)
                  have t118 : sl a 118 = .bool false := hp 15 (by decide)
                  refine ite_y rfl (wp_val (.bool false) ?_ ?_)
                  · simp only [execOp, eval_tmp, eval_const, t114, t118]; simp [go_sem]
                  · exact ⟨_, rfl, Below.refl _ _, rfl⟩
                · intro a W hb0 hs hp hi; have hb := undrew hb0; clear hb0
                  have t119 : sl a 119 = .bool false := hp 16 (by decide)
                  exact ite_y rfl (wp_val (sl a 119) rfl ⟨_, rfl, Below.refl _ _, t119⟩)
                · intro a W hb0 hs hp hi; have hb := undrew hb0; clear hb0
                  have tg : sl a 120 = .bool false := hp 17 (by decide)
                  have tt : sl a 23 = .pointer (some ⟨bn, 0, none⟩) := hi 23 (by decide)
                  have dd0 := (hb.cell (p := ⟨bn, 0, none⟩) (lt_of_cell n0)).trans n0
                  refine ite_y (wanted_yes rfl rfl (by have hz : a.tmps.size = 162 := hs; rw [hz]; decide) tg) (wp_val (.agg #[.slice qn nn dn]) ?_ ?_)
                  · simp only [execOp, eval_tmp, tt]; simp [go_sem, dd0]
                  · exact ⟨_, rfl, Below.refl _ _, rfl⟩
                · intro a W hb0 hs hp hi; have hb := undrew hb0; clear hb0
                  have tg : sl a 120 = .bool false := hp 17 (by decide)
                  have t121 : sl a 121 = .agg #[.slice qn nn dn] := hp 18 (by decide)
                  refine ite_y (wanted_yes rfl rfl (by have hz : a.tmps.size = 162 := hs; rw [hz]; decide) tg) (wp_enter 22 #[.agg #[.slice qn nn dn]] ?_ (HLE.out W (W5.out.keep hb)) ?_)
                  · simp only [execOp, resolve, List.map_toArray, List.map, eval_tmp, eval_func, eval_const, t121]; simp [go_sem]
                  · rintro e W' ⟨rfl, hw⟩; exact ⟨_, rfl, _, rfl, hw, rfl⟩
                · intro a W hb0 hs hp hi; have hb := undrew hb0; clear hb0
                  have tg : sl a 120 = .bool false := hp 17 (by decide)
                  have t122 : sl a 122 = .int .i64 l := hp 19 (by decide)
                  refine ite_y (wanted_yes rfl rfl (by have hz : a.tmps.size = 162 := hs; rw [hz]; decide) tg) (wp_val (.bool false) ?_ ?_)
                  · simp only [execOp, eval_tmp, eval_const, t122]; simp [go_sem, hlb, hl0]
                  · exact ⟨_, rfl, Below.refl _ _, rfl⟩
                · intro a W hb0 hs hp hi; have hb := undrew hb0; clear hb0
                  have t120 : sl a 120 = .bool false := hp 17 (by decide)
                  have t123 : sl a 123 = .bool false := hp 20 (by decide)
                  refine ite_y rfl (wp_val (.bool false) ?_ ?_)
                  · simp only [execOp, eval_tmp, eval_const, t120, t123]; simp [go_sem]
                  · exact ⟨_, rfl, Below.refl _ _, rfl⟩
                · intro a W hb0 hs hp hi; have hb := undrew hb0; clear hb0
                  have t124 : sl a 124 = .bool false := hp 21 (by decide)
                  exact ite_y rfl (wp_val (sl a 124) rfl ⟨_, rfl, Below.refl _ _, t124⟩)
                · intro a W hb0 hs hp hi; have hb := undrew hb0; clear hb0
                  have tg : sl a 125 = .bool false := hp 22 (by decide)
                  have tt : sl a 23 = .pointer (some ⟨bn, 0, none⟩) := hi 23 (by decide)
                  have dd0 := (hb.cell (p := ⟨bn, 0, none⟩) (lt_of_cell n0)).trans n0
                  refine ite_y (wanted_yes rfl rfl (by have hz : a.tmps.size = 162 := hs; rw [hz]; decide) tg) (wp_val (.agg #[.slice qn nn dn]) ?_ ?_)
                  · simp only [execOp, eval_tmp, tt]; simp [go_sem, dd0]
                  · exact ⟨_, rfl, Below.refl _ _, rfl⟩
                · intro a W hb0 hs hp hi; have hb := undrew hb0; clear hb0
                  have tg : sl a 125 = .bool false := hp 22 (by decide)
                  refine ite_y (wanted_yes rfl rfl (by have hz : a.tmps.size = 162 := hs; rw [hz]; decide) tg) (wp_enter 10 #[.int .u64 1] ?_ (Of_k 1 (by decide) W) ?_)
                  · simp only [execOp, resolve, List.map_toArray, List.map, eval_tmp, eval_func, eval_const, ]; simp [go_sem]
                  · rintro e W' ⟨q, n, c, rfl, hw, hb'⟩; exact ⟨_, rfl, _, rfl, hb', q, n, c, rfl, hw⟩
                · intro a W hb0 hs hp hi; have hb := undrew hb0; clear hb0
                  have tg : sl a 125 = .bool false := hp 22 (by decide)
                  have t126 : sl a 126 = .agg #[.slice qn nn dn] := hp 23 (by decide)
                  have t127 : IsN 34 (1) (sl a 127) W := hp 24 (by decide)
                  obtain ⟨y127a, y127b, y127c, t127, z127a⟩ := t127
                  refine ite_y (wanted_yes rfl rfl (by have hz : a.tmps.size = 162 := hs; rw [hz]; decide) tg) (wp_enter 11 #[.agg #[.slice qn nn dn], .agg #[.slice y127a y127b y127c]] ?_ (HCM.out W _ _ _ z127a (W5.out.keep hb)) ?_)
                  · simp only [execOp, resolve, List.map_toArray, List.map, eval_tmp, eval_func, eval_const, t126, t127]; simp [go_sem]
                  · rintro e W' ⟨rfl, hw⟩; exact ⟨_, rfl, _, rfl, hw, rfl⟩
                · intro a W hb0 hs hp hi; have hb := undrew hb0; clear hb0
                  have tg : sl a 125 = .bool false := hp 22 (by decide)
                  have t128 : sl a 128 = .int .i64 0 := hp 25 (by decide)
                  refine ite_y (wanted_yes rfl rfl (by have hz : a.tmps.size = 162 := hs; rw [hz]; decide) tg) (wp_val (.bool true) ?_ ?_)
                  · simp only [execOp, eval_tmp, eval_const, t128]; simp [go_sem]
                  · exact ⟨_, rfl, Below.refl _ _, rfl⟩
                · intro a W hb0 hs hp hi; have hb := undrew hb0; clear hb0
                  have tg : sl a 125 = .bool false := hp 22 (by decide)
                  have t21 : sl a 21 = .pointer (some ⟨bv, 0, none⟩) := hi 21 (by decide)
                  refine ite_y (wanted_yes rfl rfl (by have hz : a.tmps.size = 162 := hs; rw [hz]; decide) tg) (wp_val (.pointer (some ⟨bv, 0, none⟩)) ?_ ?_)
                  · simp only [execOp, eval_tmp, eval_const, t21]; simp [go_sem]
                  · exact ⟨_, rfl, Below.refl _ _, rfl⟩
                · intro a W hb0 hs hp hi; have hb := undrew hb0; clear hb0
                  have tg : sl a 125 = .bool false := hp 22 (by decide)
                  have tt : sl a 130 = .pointer (some ⟨bv, 0, none⟩) := hp 27 (by decide)
                  have dd := (hb.cell (p := ⟨bv, 0, none⟩) (lt_of_cell v0)).trans v0
                  refine ite_y (wanted_yes rfl rfl (by have hz : a.tmps.size = 162 := hs; rw [hz]; decide) tg) (wp_val (.int .i64 r) ?_ ?_)
                  · simp only [execOp, eval_tmp, tt]; simp [go_sem, dd]
                  · exact ⟨_, rfl, Below.refl _ _, rfl⟩
                · intro a W hb0 hs hp hi; have hb := undrew hb0; clear hb0
                  have tg : sl a 125 = .bool false := hp 22 (by decide)
                  have t9 : sl a 9 = .int .i64 j := hi 9 (by decide)
                  exact ite_y (wanted_yes rfl rfl (by have hz : a.tmps.size = 162 := hs; rw [hz]; decide) tg) (wp_val (sl a 9) rfl ⟨_, rfl, Below.refl _ _, t9⟩)
                · intro a W hb0 hs hp hi; have hb := undrew hb0; clear hb0
                  have tg : sl a 125 = .bool false := hp 22 (by decide)
                  have t131 : sl a 131 = .int .i64 r := hp 28 (by decide)
                  have t132 : sl a 132 = .int .i64 j := hp 29 (by decide)
                  refine ite_y (wanted_yes rfl rfl (by have hz : a.tmps.size = 162 := hs; rw [hz]; decide) tg) (wp_val (.bool false) ?_ ?_)
                  · simp only [execOp, eval_tmp, eval_const, t131, t132]; simp [go_sem, hrb, hre]
                  · exact ⟨_, rfl, Below.refl _ _, rfl⟩
                · intro a W hb0 hs hp hi; have hb := undrew hb0; clear hb0
                  have tg : sl a 125 = .bool false := hp 22 (by decide)
                  have t133 : sl a 133 = .bool false := hp 30 (by decide)
                  exact ite_y (wanted_yes rfl rfl (by have hz : a.tmps.size = 162 := hs; rw [hz]; decide) tg) (wp_val (sl a 133) rfl ⟨_, rfl, Below.refl _ _, t133⟩)
                · intro a W hb0 hs hp hi; have hb := undrew hb0; clear hb0
                  have tg : sl a 134 = .bool false := hp 31 (by decide)
                  have t10 : sl a 10 = .int .i64 n := hi 10 (by decide)
                  exact ite_y (wanted_yes rfl rfl (by have hz : a.tmps.size = 162 := hs; rw [hz]; decide) tg) (wp_val (sl a 10) rfl ⟨_, rfl, Below.refl _ _, t10⟩)
                · intro a W hb0 hs hp hi; have hb := undrew hb0; clear hb0
                  have tg : sl a 134 = .bool false := hp 31 (by decide)
                  have t135 : sl a 135 = .int .i64 n := hp 32 (by decide)
                  refine ite_y (wanted_yes rfl rfl (by have hz : a.tmps.size = 162 := hs; rw [hz]; decide) tg) (wp_val (.bool true) ?_ ?_)
                  · simp only [execOp, eval_tmp, eval_const, t135]; simp [go_sem, hnb, hne]
                  · exact ⟨_, rfl, Below.refl _ _, rfl⟩
                · intro a W hb0 hs hp hi; have hb := undrew hb0; clear hb0
                  have tg : sl a 125 = .bool false := hp 22 (by decide)
                  have t134 : sl a 134 = .bool false := hp 31 (by decide)
                  have t136 : sl a 136 = .bool true := hp 33 (by decide)
                  refine ite_y (wanted_yes rfl rfl (by have hz : a.tmps.size = 162 := hs; rw [hz]; decide) tg) (wp_val (.bool true) ?_ ?_)
                  · simp only [execOp, eval_tmp, eval_const, t134, t136]; simp [go_sem]
                  · exact ⟨_, rfl, Below.refl _ _, rfl⟩
                · intro a W hb0 hs hp hi; have hb := undrew hb0; clear hb0
                  have tg : sl a 125 = .bool false := hp 22 (by decide)
                  have t129 : sl a 129 = .bool true := hp 26 (by decide)
                  have t137 : sl a 137 = .bool true := hp 34 (by decide)
                  refine ite_y (wanted_yes rfl rfl (by have hz : a.tmps.size = 162 := hs; rw [hz]; decide) tg) (wp_val (.bool false) ?_ ?_)
                  · simp only [execOp, eval_tmp, eval_const, t129, t137]; simp [go_sem]
                  · exact ⟨_, rfl, Below.refl _ _, rfl⟩
                · intro a W hb0 hs hp hi; have hb := undrew hb0; clear hb0
                  have t125 : sl a 125 = .bool false := hp 22 (by decide)
                  have t138 : sl a 138 = .bool false := hp 35 (by decide)
                  refine ite_y rfl (wp_val (.bool false) ?_ ?_)
                  · simp only [execOp, eval_tmp, eval_const, t125, t138]; simp [go_sem]
                  · exact ⟨_, rfl, Below.refl _ _, rfl⟩
              intro a w6 hb hs hd hI ht
              have ha := act_is [103, 104, 105, 106, 107, 108, 109, 110, 111, 112, 113, 114, 115, 116, 117, 118, 119, 120, 121, 122, 123, 124, 125, 126, 127, 128, 129, 130, 131, 132, 133, 134, 135, 136, 137, 138, 139] hs hd ht (by decide)
              have t139 : sl a 139 = .bool false := hI 36 (by decide)
              simp only [List.foldl, t139] at ha
              generalize sl a 103 = u103 at ha
              generalize sl a 104 = u104 at ha
              generalize sl a 105 = u105 at ha
              generalize sl a 106 = u106 at ha
              generalize sl a 107 = u107 at ha
              generalize sl a 108 = u108 at ha
              generalize sl a 109 = u109 at ha
              generalize sl a 110 = u110 at ha
              generalize sl a 111 = u111 at ha
              generalize sl a 112 = u112 at ha
              generalize sl a 113 = u113 at ha
              generalize sl a 114 = u114 at ha
              generalize sl a 115 = u115 at ha
              generalize sl a 116 = u116 at ha
              generalize sl a 117 = u117 at ha
              generalize sl a 118 = u118 at ha
              generalize sl a 119 = u119 at ha
              generalize sl a 120 = u120 at ha
              generalize sl a 121 = u121 at ha
              generalize sl a 122 = u122 at ha
              generalize sl a 123 = u123 at ha
              generalize sl a 124 = u124 at ha
              generalize sl a 125 = u125 at ha
              generalize sl a 126 = u126 at ha
              generalize sl a 127 = u127 at ha
              generalize sl a 128 = u128 at ha
              generalize sl a 129 = u129 at ha
              generalize sl a 130 = u130 at ha
              generalize sl a 131 = u131 at ha
              generalize sl a 132 = u132 at ha
              generalize sl a 133 = u133 at ha
              generalize sl a 134 = u134 at ha
              generalize sl a 135 = u135 at ha
              generalize sl a 136 = u136 at ha
              generalize sl a 137 = u137 at ha
              generalize sl a 138 = u138 at ha
              simp only [Act.put, List.setIfInBounds_toArray, List.set_cons_zero, List.set_cons_succ] at ha
              rw [ha]
              clear ha hI ht
              have B6 : Hid (Below B wN w6) := bl B5.out hb hs5
              have R6 := Lib.hid (R5.out.keep hb); have W6 := Lib.hid (W5.out.keep hb); have N6 : Hid (BlkIs bn (.cells #[.slice qn nn dn] 29) w6) := N5.out.keep hb
              clear hb v0 v1 n0 V5 N5 B5 R5 W5 F5 RS5 HHD HLE hlb hl0 HCM hrb hre hP1 hrj hn0 hnb hne
              have h6 := HXO.out _ B6.out
              have xa0 : w6.cell? ⟨w.heap.size, 0, none⟩ = some (.slice p3 m3 c3) := cell_of_row _ _ 0 _ _ _ h6
              have xa1 : w6.cell? ⟨w.heap.size, 1, none⟩ = some (.slice p4 m4 c4) := cell_of_row _ _ 1 _ _ _ h6
              have X3 := Lib.hid (H3.out.keep (HN.out _ B6.out)); have X4 := Lib.hid (H4.out.keep (HN.out _ B6.out))
              clear h6
              go_wp2_with fail
              refine Calls.mono (Fit8_any j n p3 p4 m3 c3 m4 c4 mo w6 X3.out X4.out (by omega) (by omega)) ?_
              rintro e w7 ⟨q1, d1, q2, d2, xs, ys, rfl, s1, s2, hb⟩
              have hs6 := HBs.out _ B6.out
              have B7 : Hid (Below B wN w7) := bl B6.out hb hs6
              have R7 := Lib.hid (R6.out.keep hb); have W7 := Lib.hid (W6.out.keep hb); have N7 : Hid (BlkIs bn (.cells #[.slice qn nn dn] 29) w7) := N6.out.keep hb
              have S1 := Lib.hid s1; have S2 := Lib.hid s2
              clear hb s1 s2 xa0 xa1 X3 X4 B6 R6 W6 N6
              go_wp2_with fail
              refine Calls.mono (OMake_any q1 q2 j d1 n d2 xs ys w7 S1.out S2.out (by unfold Room; omega) (by unfold Room; omega)) ?_
              rintro e w8 ⟨r1, mm1, e1, r2, mm3, e2, l1, l2, rfl, o1, o2, hb⟩
              obtain rfl : j = mm1 := by have := l1.out; have h := S1.out.len; simp only at this; omega
              obtain rfl : n = mm3 := by have := l2.out; have h := S2.out.len; simp only at this; omega
              have HFY : Hid (Fit j n (xs, ys)) := ⟨S1.out.len, S2.out.len⟩
              have hs7 := HBs.out _ B7.out
              have B8' : Hid (Below B wN w8) := bl B7.out hb hs7
              have R8 := Lib.hid (R7.out.keep hb); have W8 := Lib.hid (W7.out.keep hb); have N8 : Hid (BlkIs bn (.cells #[.slice qn nn dn] 29) w8) := N7.out.keep hb
              have O1 : Hid (Bw 5 w8 B (.slice r1 j e1) xs) := Bw.mk (owns_mono o1 hs7) l1.out
              have O2 : Hid (Bw 5 w8 B (.slice r2 n e2) ys) := Bw.mk (owns_mono o2 hs7) l2.out
              clear o1 o2 hb R7 W7 N7 l1 l2 B7 S1 S2
              have BAL : Hid (∀ o, Below w8.heap.size w8 (w8.alloc o)) := fun o => al (Below.refl _ _) (Nat.le_refl _)
              obtain ⟨us, la, lb, lo, lr⟩ := R8.out
              have LO : Hid (∀ o, (w8.alloc o).ownsRow B 63 2 (.slice ql i cl) i (fl2 us)) := fun o => owns_keep lo (BAL.out o)
              have LR : Hid (∀ o (j : Nat) (u : Value × Value), us[j]? = some u → ∃ k, XS[j]? = some k ∧ Bw 5 (w8.alloc o) B u.1 k.1 ∧ Bw 5 (w8.alloc o) B u.2 k.2) := fun o jj u hj => by
                obtain ⟨kk, g1, g2, g3⟩ := lr jj u hj
                exact ⟨kk, g1, g2.keep (BAL.out o), g3.keep (BAL.out o)⟩
              have LA := Lib.hid la; have LB := Lib.hid lb
              have hs8 := HBs.out _ B8'.out
              clear lo lr la lb R8
              go_wp2_with (at_builtin; refine wpList_append_lies _ rfl (.tmp 143) (.tmp 149) 43 rfl B 63 s0 (.agg #[.slice none 0 0, .slice none 0 0]) 2 48 Tryd.underlying43 hs0 hsz hs1 hs2 rfl (by omega) (.slice ql i cl) i (fl2 us) rfl (LO.out _) ⟨w8.heap.size, 0, none⟩ 1 1 [.slice r1 j e1, .slice r2 n e2] rfl rfl (two_cells rfl) (two_ones _ _ _ _ _ _) (by omega) (by unfold maxLen; omega) (by omega) (by simp; omega) _ rfl ?_)
              intro gl cl' w9 ho9 hg9 hat9 hlt9
              obtain ⟨o9, ho9e⟩ : ∃ o, o = Obj.cells #[.slice r1 j e1, .slice r2 n e2] 63 := ⟨_, rfl⟩
              have L9 : Hid (RwL 63 5 w9 B (.slice (some ⟨gl, 0, none⟩) (i + 1) cl') (i + 1) (XS ++ [(xs, ys)])) :=
                RwL.push LA.out LB.out (LO.out _) (LR.out _) (by decide) (O1.out.keep (BAL.out _)) (O2.out.keep (BAL.out _)) ho9 hg9
              have B9 : Hid (Below B wN w9) := (al B8'.out hs8).grown hg9 (by simp; omega) (fun kk hk => ((LO.out (.cells #[.slice r1 j e1, .slice r2 n e2] 63)).lt kk hk).1)
              have W9 : Hid (Ws 34 w9 qn nn dn P) := Ws.grow (LO.out (.cells #[.slice r1 j e1, .slice r2 n e2] 63)) hg9 (W8.out.keep (BAL.out _)) (by decide)
              have N9 : Hid (BlkIs bn (.cells #[.slice qn nn dn] 29) w9) := by
                have h := N8.out.keep (BAL.out (.cells #[.slice r1 j e1, .slice r2 n e2] 63))
                exact (hg9.block _ (blk_lt h) (own_other (LO.out _) h (by decide))).trans h
              have HC2 : Hid (∀ W q c, RwS W q (i + 1) c (XS ++ [(xs, ys)]) → Calls Tryd.prog 21 #[.int .i64 j, .int .i64 n, .slice q (i + 1) c] W (RetN 34 W (cntI j n (XS ++ [(xs, ys)]) (i + 1)))) := fun W q c h => by
                have hf : ∀ x, x ∈ XS ++ [(xs, ys)] → Fit j n x := fun x hx => by
                  rcases List.mem_append.1 hx with h1 | h1
                  · exact (HXA.out x h1).1
                  · rw [List.mem_singleton] at h1; subst h1; exact HFY.out
                have hj := fun W2 (hb2 : Below W.heap.size W W2) => Judge_fit j n q (i + 1) c (XS ++ [(xs, ys)]) W2 (h.keep hb2) hk1 (by omega) (by omega) (by omega) hf
                unfold cntI
                by_cases hc : clashI (XS ++ [(xs, ys)]) (i + 1) < 0
                · rw [if_pos hc]
                  have e : clashI (XS ++ [(xs, ys)]) (i + 1) = -1 := by have := (clashI_range (XS ++ [(xs, ys)]) (i + 1)).1; omega
                  rw [e] at hj
                  exact Count_ok j n q (i + 1) c _ W (by omega) (by omega) (kD_wide hf) hj
                · rw [if_neg hc]
                  exact Count_clash j n q (i + 1) c _ _ W (by omega) hj
              have HLE2 : Hid (cntI j n (XS ++ [(xs, ys)]) (i + 1) ≤ P) := by
                show _ ≤ _
                rw [HP.out, HRD.out]; exact cntQ_le
              obtain ⟨M, hM⟩ : ∃ M, M = cntI j n (XS ++ [(xs, ys)]) (i + 1) := ⟨_, rfl⟩
              rw [← hM] at HC2 HLE2
              clear ho9 hg9 hat9 hlt9 O1 O2 LO LR LA LB BAL B8' W8 N8 hM ho9e o9
              go_wp2_with fail
              refine Calls.mono (HC2.out _ _ _ L9.out.rwS) ?_
              rintro e wa ⟨qm, nm, dm, rfl, hw, hb⟩
              have hs9 := HBs.out _ B9.out
              have Ba : Hid (Below B wN wa) := bl B9.out hb hs9
              have Wa := Lib.hid (W9.out.keep hb); have Ma := Lib.hid hw
              have Na : Hid (BlkIs bn (.cells #[.slice qn nn dn] 29) wa) := N9.out.keep hb
              have hsa := HBs.out _ Ba.out
              have n0 : ∀ o, (wa.alloc o).cell? ⟨bn, 0, none⟩ = some (.slice qn nn dn) := fun o => cell_of_row _ _ 0 _ _ _ (hal Na.out)
              have HCZ : Hid (∀ W, Ws 34 W qm nm dm M → Ws 34 W qn nn dn P → Calls Tryd.prog 11 #[.agg #[.slice qm nm dm], .agg #[.slice qn nn dn]] W fun e w' => e = .returned (.int .i64 (cmpN M P)) ∧ Below W.heap.size W w') := fun W a b => Cmp_any qm qn nm dm nn dn M P W a b
              have hcz := cmpN_le HLE2.out
              obtain ⟨cz, hczd⟩ : ∃ cz, cz = cmpN M P := ⟨_, rfl⟩
              rw [← hczd] at HCZ hcz
              clear hw hb hczd B9 W9 N9 L9 Na HC2
              go_wp2_with fail
              refine Calls.mono (HCZ.out _ (Ma.out.keep (ba1 _ _)) (Wa.out.keep (ba1 _ _))) ?_
              rintro e wb ⟨rfl, hb⟩
              have Bb : Hid (Below B wN wb) := bl (al Ba.out hsa) hb (by have := hsa; simp; omega)
              clear hb n0
              go_wp2
              go_ret
              exact ⟨by simp [hcz], HN.out _ Bb.out⟩
            · have hP1 : 1 < P := by
                have h1 : ¬ P = 1 := fun e => by
                  rw [HP.out] at e
                  rcases (cntQ_one hrk).1 e with h | h
                  · exact hrj h
                  · exact hn0 h
                have h2 : 0 < P := by rw [HP.out]; exact Nat.pow_pos (by decide)
                omega
              have HCM : Hid (∀ W q m d, Ws 34 W q m d 1 → Ws 34 W qn nn dn P → Calls Tryd.prog 11 #[.agg #[.slice qn nn dn], .agg #[.slice q m d]] W fun e w' => e = .returned (.int .i64 1) ∧ Below W.heap.size W w') := fun W q m d a b => by
                have := Cmp_any qn q nn dn m d P 1 W b a
                rwa [cmpN_gt hP1] at this
              have hnb : ((n : Int) == 0) = false := by simp; omega
              have hne : ¬ n = 0 := hn0
              refine wp_region_shapes (fun ix => ([.val (.int .i64 0), .val (.bool false), .val (.bool false), .val (.int .i64 0), .val (.bool false), .val (.bool false), .val (.bool false), .val (.pointer (some ⟨bv, 1, none⟩)), .val (.int .i64 (-1)), .val (.bool false), .val (.bool false), .val (.bool false), .val (.slice qo j co), .val (.slice ql i cl), .val (.bool true), .val (.bool false), .val (.bool false), .val (.bool false), .val (.agg #[.slice qn nn dn]), .val (.int .i64 l), .val (.bool false), .val (.bool false), .val (.bool false), .val (.agg #[.slice qn nn dn]), ShpN 34 (1), .val (.int .i64 1), .val (.bool false), .val (.pointer (some ⟨bv, 0, none⟩)), .val (.int .i64 r), .val (.int .i64 j), .val (.bool false), .val (.bool false), .val (.int .i64 n), .val (.bool false), .val (.bool false), .val (.bool false), .val (.bool false)][ix]?).getD (.any)) 162 rfl (by kernel_rfl) (by decide) (by decide) (by decide) ?_ ?_
              · refine ⟨?_, ?_, ?_, ?_, ?_, ?_, ?_, ?_, ?_, ?_, ?_, ?_, ?_, ?_, ?_, ?_, ?_, ?_, ?_, ?_, ?_, ?_, ?_, ?_, ?_, ?_, ?_, ?_, ?_, ?_, ?_, ?_, ?_, ?_, ?_, ?_, ?_, trivial⟩
                · intro a W hb0 hs hp hi; have hb := undrew hb0; clear hb0
                  have t22 : sl a 22 = .int .i64 0 := hi 22 (by decide)
                  exact ite_y rfl (wp_val (sl a 22) rfl ⟨_, rfl, Below.refl _ _, t22⟩)
                · intro a W hb0 hs hp hi; have hb := undrew hb0; clear hb0
                  have t103 : sl a 103 = .int .i64 0 := hp 0 (by decide)
                  refine ite_y rfl (wp_val (.bool false) ?_ ?_)
                  · simp only [execOp, eval_tmp, eval_const, t103]; simp [go_sem]
                  · exact ⟨_, rfl, Below.refl _ _, rfl⟩
                · intro a W hb0 hs hp hi; have hb := undrew hb0; clear hb0
                  have t104 : sl a 104 = .bool false := hp 1 (by decide)
                  exact ite_y rfl (wp_val (sl a 104) rfl ⟨_, rfl, Below.refl _ _, t104⟩)
                · intro a W hb0 hs hp hi; have hb := undrew hb0; clear hb0
                  have tg : sl a 105 = .bool false := hp 2 (by decide)
                  have t24 : sl a 24 = .int .i64 0 := hi 24 (by decide)
                  exact ite_y (wanted_yes rfl rfl (by have hz : a.tmps.size = 162 := hs; rw [hz]; decide) tg) (wp_val (sl a 24) rfl ⟨_, rfl, Below.refl _ _, t24⟩)
                · intro a W hb0 hs hp hi; have hb := undrew hb0; clear hb0
                  have tg : sl a 105 = .bool false := hp 2 (by decide)
                  have t106 : sl a 106 = .int .i64 0 := hp 3 (by decide)
                  refine ite_y (wanted_yes rfl rfl (by have hz : a.tmps.size = 162 := hs; rw [hz]; decide) tg) (wp_val (.bool false) ?_ ?_)
                  · simp only [execOp, eval_tmp, eval_const, t106]; simp [go_sem]
                  · exact ⟨_, rfl, Below.refl _ _, rfl⟩
                · intro a W hb0 hs hp hi; have hb := undrew hb0; clear hb0
                  have t105 : sl a 105 = .bool false := hp 2 (by decide)
                  have t107 : sl a 107 = .bool false := hp 4 (by decide)
                  refine ite_y rfl (wp_val (.bool false) ?_ ?_)
                  · simp only [execOp, eval_tmp, eval_const, t105, t107]; simp [go_sem]
                  · exact ⟨_, rfl, Below.refl _ _, rfl⟩
                · intro a W hb0 hs hp hi; have hb := undrew hb0; clear hb0
                  have t108 : sl a 108 = .bool false := hp 5 (by decide)
                  exact ite_y rfl (wp_val (sl a 108) rfl ⟨_, rfl, Below.refl _ _, t108⟩)
                · intro a W hb0 hs hp hi; have hb := undrew hb0; clear hb0
                  have tg : sl a 109 = .bool false := hp 6 (by decide)
                  have t21 : sl a 21 = .pointer (some ⟨bv, 0, none⟩) := hi 21 (by decide)
                  refine ite_y (wanted_yes rfl rfl (by have hz : a.tmps.size = 162 := hs; rw [hz]; decide) tg) (wp_val (.pointer (some ⟨bv, 1, none⟩)) ?_ ?_)
                  · simp only [execOp, eval_tmp, eval_const, t21]; simp [go_sem]
                  · exact ⟨_, rfl, Below.refl _ _, rfl⟩
                · intro a W hb0 hs hp hi; have hb := undrew hb0; clear hb0
                  have tg : sl a 109 = .bool false := hp 6 (by decide)
                  have tt : sl a 110 = .pointer (some ⟨bv, 1, none⟩) := hp 7 (by decide)
                  have dd := (hb.cell (p := ⟨bv, 1, none⟩) (lt_of_cell v1)).trans v1
                  refine ite_y (wanted_yes rfl rfl (by have hz : a.tmps.size = 162 := hs; rw [hz]; decide) tg) (wp_val (.int .i64 (-1)) ?_ ?_)
                  · simp only [execOp, eval_tmp, tt]; simp [go_sem, dd]
                  · exact ⟨_, rfl, Below.refl _ _, rfl⟩
                · intro a W hb0 hs hp hi; have hb := undrew hb0; clear hb0
                  have tg : sl a 109 = .bool false := hp 6 (by decide)
                  have t111 : sl a 111 = .int .i64 (-1) := hp 8 (by decide)
                  refine ite_y (wanted_yes rfl rfl (by have hz : a.tmps.size = 162 := hs; rw [hz]; decide) tg) (wp_val (.bool false) ?_ ?_)
                  · simp only [execOp, eval_tmp, eval_const, t111]; simp [go_sem]
                  · exact ⟨_, rfl, Below.refl _ _, rfl⟩
                · intro a W hb0 hs hp hi; have hb := undrew hb0; clear hb0
                  have t109 : sl a 109 = .bool false := hp 6 (by decide)
                  have t112 : sl a 112 = .bool false := hp 9 (by decide)
                  refine ite_y rfl (wp_val (.bool false) ?_ ?_)
                  · simp only [execOp, eval_tmp, eval_const, t109, t112]; simp [go_sem]
                  · exact ⟨_, rfl, Below.refl _ _, rfl⟩
                · intro a W hb0 hs hp hi; have hb := undrew hb0; clear hb0
                  have t113 : sl a 113 = .bool false := hp 10 (by decide)
                  exact ite_y rfl (wp_val (sl a 113) rfl ⟨_, rfl, Below.refl _ _, t113⟩)
                · intro a W hb0 hs hp hi; have hb := undrew hb0; clear hb0
                  have tg : sl a 114 = .bool false := hp 11 (by decide)
                  have t11 : sl a 11 = .slice qo j co := hi 11 (by decide)
                  exact ite_y (wanted_yes rfl rfl (by have hz : a.tmps.size = 162 := hs; rw [hz]; decide) tg) (wp_val (sl a 11) rfl ⟨_, rfl, Below.refl _ _, t11⟩)
                · intro a W hb0 hs hp hi; have hb := undrew hb0; clear hb0
                  have tg : sl a 114 = .bool false := hp 11 (by decide)
                  have t15 : sl a 15 = .slice ql i cl := hi 15 (by decide)
                  exact ite_y (wanted_yes rfl rfl (by have hz : a.tmps.size = 162 := hs; rw [hz]; decide) tg) (wp_val (sl a 15) rfl ⟨_, rfl, Below.refl _ _, t15⟩)
                · intro a W hb0 hs hp hi; have hb := undrew hb0; clear hb0
                  have tg : sl a 114 = .bool false := hp 11 (by decide)
                  have t115 : sl a 115 = .slice qo j co := hp 12 (by decide)
                  have t116 : sl a 116 = .slice ql i cl := hp 13 (by decide)
                  refine ite_y (wanted_yes rfl rfl (by have hz : a.tmps.size = 162 := hs; rw [hz]; decide) tg) (wp_enter 27 #[.slice qo j co, .slice ql i cl] ?_ (HHD.out W (F5.out.keep hb) (RS5.out.keep hb)) ?_)
                  · simp only [execOp, resolve, List.map_toArray, List.map, eval_tmp, eval_func, eval_const, t115, t116]; simp [go_sem]
                  · rintro e W' ⟨rfl, hw⟩; exact ⟨_, rfl, _, rfl, hw, rfl⟩
                · intro a W hb0 hs hp hi; have hb := undrew hb0; clear hb0
                  have tg : sl a 114 = .bool false := hp 11 (by decide)
                  have t117 : sl a 117 = .bool true := hp 14 (by decide)
                  refine ite_y (wanted_yes rfl rfl (by have hz : a.tmps.size = 162 := hs; rw [hz]; decide) tg) (wp_val (.bool false) ?_ ?_)
                  · simp only [execOp, eval_tmp, eval_const, t117]; simp [go_sem]
                  · exact ⟨_, rfl, Below.refl _ _, rfl⟩
                · intro a W hb0 hs hp hi; have hb := undrew hb0; clear hb0
                  have t114 : sl a 114 = .bool false := hp 11 (by decide)
                  have t118 : sl a 118 = .bool false := hp 15 (by decide)
                  refine ite_y rfl (wp_val (.bool false) ?_ ?_)
                  · simp only [execOp, eval_tmp, eval_const, t114, t118]; simp [go_sem]
                  · exact ⟨_, rfl, Below.refl _ _, rfl⟩
                · intro a W hb0 hs hp hi; have hb := undrew hb0; clear hb0
                  have t119 : sl a 119 = .bool false := hp 16 (by decide)
                  exact ite_y rfl (wp_val (sl a 119) rfl ⟨_, rfl, Below.refl _ _, t119⟩)
                · intro a W hb0 hs hp hi; have hb := undrew hb0; clear hb0
                  have tg : sl a 120 = .bool false := hp 17 (by decide)
                  have tt : sl a 23 = .pointer (some ⟨bn, 0, none⟩) := hi 23 (by decide)
                  have dd0 := (hb.cell (p := ⟨bn, 0, none⟩) (lt_of_cell n0)).trans n0
                  refine ite_y (wanted_yes rfl rfl (by have hz : a.tmps.size = 162 := hs; rw [hz]; decide) tg) (wp_val (.agg #[.slice qn nn dn]) ?_ ?_)
                  · simp only [execOp, eval_tmp, tt]; simp [go_sem, dd0]
                  · exact ⟨_, rfl, Below.refl _ _, rfl⟩
                · intro a W hb0 hs hp hi; have hb := undrew hb0; clear hb0
                  have tg : sl a 120 = .bool false := hp 17 (by decide)
                  have t121 : sl a 121 = .agg #[.slice qn nn dn] := hp 18 (by decide)
                  refine ite_y (wanted_yes rfl rfl (by have hz : a.tmps.size = 162 := hs; rw [hz]; decide) tg) (wp_enter 22 #[.agg #[.slice qn nn dn]] ?_ (HLE.out W (W5.out.keep hb)) ?_)
                  · simp only [execOp, resolve, List.map_toArray, List.map, eval_tmp, eval_func, eval_const, t121]; simp [go_sem]
                  · rintro e W' ⟨rfl, hw⟩; exact ⟨_, rfl, _, rfl, hw, rfl⟩
                · intro a W hb0 hs hp hi; have hb := undrew hb0; clear hb0
                  have tg : sl a 120 = .bool false := hp 17 (by decide)
                  have t122 : sl a 122 = .int .i64 l := hp 19 (by decide)
                  refine ite_y (wanted_yes rfl rfl (by have hz : a.tmps.size = 162 := hs; rw [hz]; decide) tg) (wp_val (.bool false) ?_ ?_)
                  · simp only [execOp, eval_tmp, eval_const, t122]; simp [go_sem, hlb, hl0]
                  · exact ⟨_, rfl, Below.refl _ _, rfl⟩
                · intro a W hb0 hs hp hi; have hb := undrew hb0; clear hb0
                  have t120 : sl a 120 = .bool false := hp 17 (by decide)
                  have t123 : sl a 123 = .bool false := hp 20 (by decide)
                  refine ite_y rfl (wp_val (.bool false) ?_ ?_)
                  · simp only [execOp, eval_tmp, eval_const, t120, t123]; simp [go_sem]
                  · exact ⟨_, rfl, Below.refl _ _, rfl⟩
                · intro a W hb0 hs hp hi; have hb := undrew hb0; clear hb0
                  have t124 : sl a 124 = .bool false := hp 21 (by decide)
                  exact ite_y rfl (wp_val (sl a 124) rfl ⟨_, rfl, Below.refl _ _, t124⟩)
                · intro a W hb0 hs hp hi; have hb := undrew hb0; clear hb0
                  have tg : sl a 125 = .bool false := hp 22 (by decide)
                  have tt : sl a 23 = .pointer (some ⟨bn, 0, none⟩) := hi 23 (by decide)
                  have dd0 := (hb.cell (p := ⟨bn, 0, none⟩) (lt_of_cell n0)).trans n0
                  refine ite_y (wanted_yes rfl rfl (by have hz : a.tmps.size = 162 := hs; rw [hz]; decide) tg) (wp_val (.agg #[.slice qn nn dn]) ?_ ?_)
                  · simp only [execOp, eval_tmp, tt]; simp [go_sem, dd0]
                  · exact ⟨_, rfl, Below.refl _ _, rfl⟩
                · intro a W hb0 hs hp hi; have hb := undrew hb0; clear hb0
                  have tg : sl a 125 = .bool false := hp 22 (by decide)
                  refine ite_y (wanted_yes rfl rfl (by have hz : a.tmps.size = 162 := hs; rw [hz]; decide) tg) (wp_enter 10 #[.int .u64 1] ?_ (Of_k 1 (by decide) W) ?_)
                  · simp only [execOp, resolve, List.map_toArray, List.map, eval_tmp, eval_func, eval_const, ]; simp [go_sem]
                  · rintro e W' ⟨q, n, c, rfl, hw, hb'⟩; exact ⟨_, rfl, _, rfl, hb', q, n, c, rfl, hw⟩
                · intro a W hb0 hs hp hi; have hb := undrew hb0; clear hb0
                  have tg : sl a 125 = .bool false := hp 22 (by decide)
                  have t126 : sl a 126 = .agg #[.slice qn nn dn] := hp 23 (by decide)
                  have t127 : IsN 34 (1) (sl a 127) W := hp 24 (by decide)
                  obtain ⟨y127a, y127b, y127c, t127, z127a⟩ := t127
                  refine ite_y (wanted_yes rfl rfl (by have hz : a.tmps.size = 162 := hs; rw [hz]; decide) tg) (wp_enter 11 #[.agg #[.slice qn nn dn], .agg #[.slice y127a y127b y127c]] ?_ (HCM.out W _ _ _ z127a (W5.out.keep hb)) ?_)
                  · simp only [execOp, resolve, List.map_toArray, List.map, eval_tmp, eval_func, eval_const, t126, t127]; simp [go_sem]
                  · rintro e W' ⟨rfl, hw⟩; exact ⟨_, rfl, _, rfl, hw, rfl⟩
                · intro a W hb0 hs hp hi; have hb := undrew hb0; clear hb0
                  have tg : sl a 125 = .bool false := hp 22 (by decide)
                  have t128 : sl a 128 = .int .i64 1 := hp 25 (by decide)
                  refine ite_y (wanted_yes rfl rfl (by have hz : a.tmps.size = 162 := hs; rw [hz]; decide) tg) (wp_val (.bool false) ?_ ?_)
                  · simp only [execOp, eval_tmp, eval_const, t128]; simp [go_sem]
                  · exact ⟨_, rfl, Below.refl _ _, rfl⟩
                · intro a W hb0 hs hp hi; have hb := undrew hb0; clear hb0
                  have tg : sl a 125 = .bool false := hp 22 (by decide)
                  have t21 : sl a 21 = .pointer (some ⟨bv, 0, none⟩) := hi 21 (by decide)
                  refine ite_y (wanted_yes rfl rfl (by have hz : a.tmps.size = 162 := hs; rw [hz]; decide) tg) (wp_val (.pointer (some ⟨bv, 0, none⟩)) ?_ ?_)
                  · simp only [execOp, eval_tmp, eval_const, t21]; simp [go_sem]
                  · exact ⟨_, rfl, Below.refl _ _, rfl⟩
                · intro a W hb0 hs hp hi; have hb := undrew hb0; clear hb0
                  have tg : sl a 125 = .bool false := hp 22 (by decide)
                  have tt : sl a 130 = .pointer (some ⟨bv, 0, none⟩) := hp 27 (by decide)
                  have dd := (hb.cell (p := ⟨bv, 0, none⟩) (lt_of_cell v0)).trans v0
                  refine ite_y (wanted_yes rfl rfl (by have hz : a.tmps.size = 162 := hs; rw [hz]; decide) tg) (wp_val (.int .i64 r) ?_ ?_)
                  · simp only [execOp, eval_tmp, tt]; simp [go_sem, dd]
                  · exact ⟨_, rfl, Below.refl _ _, rfl⟩
                · intro a W hb0 hs hp hi; have hb := undrew hb0; clear hb0
                  have tg : sl a 125 = .bool false := hp 22 (by decide)
                  have t9 : sl a 9 = .int .i64 j := hi 9 (by decide)
                  exact ite_y (wanted_yes rfl rfl (by have hz : a.tmps.size = 162 := hs; rw [hz]; decide) tg) (wp_val (sl a 9) rfl ⟨_, rfl, Below.refl _ _, t9⟩)
                · intro a W hb0 hs hp hi; have hb := undrew hb0; clear hb0
                  have tg : sl a 125 = .bool false := hp 22 (by decide)
                  have t131 : sl a 131 = .int .i64 r := hp 28 (by decide)
                  have t132 : sl a 132 = .int .i64 j := hp 29 (by decide)
                  refine ite_y (wanted_yes rfl rfl (by have hz : a.tmps.size = 162 := hs; rw [hz]; decide) tg) (wp_val (.bool false) ?_ ?_)
                  · simp only [execOp, eval_tmp, eval_const, t131, t132]; simp [go_sem, hrb, hre]
                  · exact ⟨_, rfl, Below.refl _ _, rfl⟩
                · intro a W hb0 hs hp hi; have hb := undrew hb0; clear hb0
                  have tg : sl a 125 = .bool false := hp 22 (by decide)
                  have t133 : sl a 133 = .bool false := hp 30 (by decide)
                  exact ite_y (wanted_yes rfl rfl (by have hz : a.tmps.size = 162 := hs; rw [hz]; decide) tg) (wp_val (sl a 133) rfl ⟨_, rfl, Below.refl _ _, t133⟩)
                · intro a W hb0 hs hp hi; have hb := undrew hb0; clear hb0
                  have tg : sl a 134 = .bool false := hp 31 (by decide)
                  have t10 : sl a 10 = .int .i64 n := hi 10 (by decide)
                  exact ite_y (wanted_yes rfl rfl (by have hz : a.tmps.size = 162 := hs; rw [hz]; decide) tg) (wp_val (sl a 10) rfl ⟨_, rfl, Below.refl _ _, t10⟩)
                · intro a W hb0 hs hp hi; have hb := undrew hb0; clear hb0
                  have tg : sl a 134 = .bool false := hp 31 (by decide)
                  have t135 : sl a 135 = .int .i64 n := hp 32 (by decide)
                  refine ite_y (wanted_yes rfl rfl (by have hz : a.tmps.size = 162 := hs; rw [hz]; decide) tg) (wp_val (.bool false) ?_ ?_)
                  · simp only [execOp, eval_tmp, eval_const, t135]; simp [go_sem, hnb, hne]
                  · exact ⟨_, rfl, Below.refl _ _, rfl⟩
                · intro a W hb0 hs hp hi; have hb := undrew hb0; clear hb0
                  have tg : sl a 125 = .bool false := hp 22 (by decide)
                  have t134 : sl a 134 = .bool false := hp 31 (by decide)
                  have t136 : sl a 136 = .bool false := hp 33 (by decide)
                  refine ite_y (wanted_yes rfl rfl (by have hz : a.tmps.size = 162 := hs; rw [hz]; decide) tg) (wp_val (.bool false) ?_ ?_)
                  · simp only [execOp, eval_tmp, eval_const, t134, t136]; simp [go_sem]
                  · exact ⟨_, rfl, Below.refl _ _, rfl⟩
                · intro a W hb0 hs hp hi; have hb := undrew hb0; clear hb0
                  have tg : sl a 125 = .bool false := hp 22 (by decide)
                  have t129 : sl a 129 = .bool false := hp 26 (by decide)
                  have t137 : sl a 137 = .bool false := hp 34 (by decide)
                  refine ite_y (wanted_yes rfl rfl (by have hz : a.tmps.size = 162 := hs; rw [hz]; decide) tg) (wp_val (.bool false) ?_ ?_)
                  · simp only [execOp, eval_tmp, eval_const, t129, t137]; simp [go_sem]
                  · exact ⟨_, rfl, Below.refl _ _, rfl⟩
                · intro a W hb0 hs hp hi; have hb := undrew hb0; clear hb0
                  have t125 : sl a 125 = .bool false := hp 22 (by decide)
                  have t138 : sl a 138 = .bool false := hp 35 (by decide)
                  refine ite_y rfl (wp_val (.bool false) ?_ ?_)
                  · simp only [execOp, eval_tmp, eval_const, t125, t138]; simp [go_sem]
                  · exact ⟨_, rfl, Below.refl _ _, rfl⟩
              intro a w6 hb hs hd hI ht
              have ha := act_is [103, 104, 105, 106, 107, 108, 109, 110, 111, 112, 113, 114, 115, 116, 117, 118, 119, 120, 121, 122, 123, 124, 125, 126, 127, 128, 129, 130, 131, 132, 133, 134, 135, 136, 137, 138, 139] hs hd ht (by decide)
              have t139 : sl a 139 = .bool false := hI 36 (by decide)
              simp only [List.foldl, t139] at ha
              generalize sl a 103 = u103 at ha
              generalize sl a 104 = u104 at ha
              generalize sl a 105 = u105 at ha
              generalize sl a 106 = u106 at ha
              generalize sl a 107 = u107 at ha
              generalize sl a 108 = u108 at ha
              generalize sl a 109 = u109 at ha
              generalize sl a 110 = u110 at ha
              generalize sl a 111 = u111 at ha
              generalize sl a 112 = u112 at ha
              generalize sl a 113 = u113 at ha
              generalize sl a 114 = u114 at ha
              generalize sl a 115 = u115 at ha
              generalize sl a 116 = u116 at ha
              generalize sl a 117 = u117 at ha
              generalize sl a 118 = u118 at ha
              generalize sl a 119 = u119 at ha
              generalize sl a 120 = u120 at ha
              generalize sl a 121 = u121 at ha
              generalize sl a 122 = u122 at ha
              generalize sl a 123 = u123 at ha
              generalize sl a 124 = u124 at ha
              generalize sl a 125 = u125 at ha
              generalize sl a 126 = u126 at ha
              generalize sl a 127 = u127 at ha
              generalize sl a 128 = u128 at ha
              generalize sl a 129 = u129 at ha
              generalize sl a 130 = u130 at ha
              generalize sl a 131 = u131 at ha
              generalize sl a 132 = u132 at ha
              generalize sl a 133 = u133 at ha
              generalize sl a 134 = u134 at ha
              generalize sl a 135 = u135 at ha
              generalize sl a 136 = u136 at ha
              generalize sl a 137 = u137 at ha
              generalize sl a 138 = u138 at ha
              simp only [Act.put, List.setIfInBounds_toArray, List.set_cons_zero, List.set_cons_succ] at ha
              rw [ha]
              clear ha hI ht
              have B6 : Hid (Below B wN w6) := bl B5.out hb hs5
              have R6 := Lib.hid (R5.out.keep hb); have W6 := Lib.hid (W5.out.keep hb); have N6 : Hid (BlkIs bn (.cells #[.slice qn nn dn] 29) w6) := N5.out.keep hb
              clear hb v0 v1 n0 V5 N5 B5 R5 W5 F5 RS5 HHD HLE hlb hl0 HCM hrb hre hP1 hrj hn0 hnb hne
              have h6 := HXO.out _ B6.out
              have xa0 : w6.cell? ⟨w.heap.size, 0, none⟩ = some (.slice p3 m3 c3) := cell_of_row _ _ 0 _ _ _ h6
              have xa1 : w6.cell? ⟨w.heap.size, 1, none⟩ = some (.slice p4 m4 c4) := cell_of_row _ _ 1 _ _ _ h6
              have X3 := Lib.hid (H3.out.keep (HN.out _ B6.out)); have X4 := Lib.hid (H4.out.keep (HN.out _ B6.out))
              clear h6
              go_wp2_with fail
              refine Calls.mono (Fit8_any j n p3 p4 m3 c3 m4 c4 mo w6 X3.out X4.out (by omega) (by omega)) ?_
              rintro e w7 ⟨q1, d1, q2, d2, xs, ys, rfl, s1, s2, hb⟩
              have hs6 := HBs.out _ B6.out
              have B7 : Hid (Below B wN w7) := bl B6.out hb hs6
              have R7 := Lib.hid (R6.out.keep hb); have W7 := Lib.hid (W6.out.keep hb); have N7 : Hid (BlkIs bn (.cells #[.slice qn nn dn] 29) w7) := N6.out.keep hb
              have S1 := Lib.hid s1; have S2 := Lib.hid s2
              clear hb s1 s2 xa0 xa1 X3 X4 B6 R6 W6 N6
              go_wp2_with fail
              refine Calls.mono (OMake_any q1 q2 j d1 n d2 xs ys w7 S1.out S2.out (by unfold Room; omega) (by unfold Room; omega)) ?_
              rintro e w8 ⟨r1, mm1, e1, r2, mm3, e2, l1, l2, rfl, o1, o2, hb⟩
              obtain rfl : j = mm1 := by have := l1.out; have h := S1.out.len; simp only at this; omega
              obtain rfl : n = mm3 := by have := l2.out; have h := S2.out.len; simp only at this; omega
              have HFY : Hid (Fit j n (xs, ys)) := ⟨S1.out.len, S2.out.len⟩
              have hs7 := HBs.out _ B7.out
              have B8' : Hid (Below B wN w8) := bl B7.out hb hs7
              have R8 := Lib.hid (R7.out.keep hb); have W8 := Lib.hid (W7.out.keep hb); have N8 : Hid (BlkIs bn (.cells #[.slice qn nn dn] 29) w8) := N7.out.keep hb
              have O1 : Hid (Bw 5 w8 B (.slice r1 j e1) xs) := Bw.mk (owns_mono o1 hs7) l1.out
              have O2 : Hid (Bw 5 w8 B (.slice r2 n e2) ys) := Bw.mk (owns_mono o2 hs7) l2.out
              clear o1 o2 hb R7 W7 N7 l1 l2 B7 S1 S2
              have BAL : Hid (∀ o, Below w8.heap.size w8 (w8.alloc o)) := fun o => al (Below.refl _ _) (Nat.le_refl _)
              obtain ⟨us, la, lb, lo, lr⟩ := R8.out
              have LO : Hid (∀ o, (w8.alloc o).ownsRow B 63 2 (.slice ql i cl) i (fl2 us)) := fun o => owns_keep lo (BAL.out o)
              have LR : Hid (∀ o (j : Nat) (u : Value × Value), us[j]? = some u → ∃ k, XS[j]? = some k ∧ Bw 5 (w8.alloc o) B u.1 k.1 ∧ Bw 5 (w8.alloc o) B u.2 k.2) := fun o jj u hj => by
                obtain ⟨kk, g1, g2, g3⟩ := lr jj u hj
                exact ⟨kk, g1, g2.keep (BAL.out o), g3.keep (BAL.out o)⟩
              have LA := Lib.hid la; have LB := Lib.hid lb
              have hs8 := HBs.out _ B8'.out
              clear lo lr la lb R8
              go_wp2_with (at_builtin; refine wpList_append_lies _ rfl (.tmp 143) (.tmp 149) 43 rfl B 63 s0 (.agg #[.slice none 0 0, .slice none 0 0]) 2 48 Tryd.underlying43 hs0 hsz hs1 hs2 rfl (by omega) (.slice ql i cl) i (fl2 us) rfl (LO.out _) ⟨w8.heap.size, 0, none⟩ 1 1 [.slice r1 j e1, .slice r2 n e2] rfl rfl (two_cells rfl) (two_ones _ _ _ _ _ _) (by omega) (by unfold maxLen; omega) (by omega) (by simp; omega) _ rfl ?_)
              intro gl cl' w9 ho9 hg9 hat9 hlt9
              obtain ⟨o9, ho9e⟩ : ∃ o, o = Obj.cells #[.slice r1 j e1, .slice r2 n e2] 63 := ⟨_, rfl⟩
              have L9 : Hid (RwL 63 5 w9 B (.slice (some ⟨gl, 0, none⟩) (i + 1) cl') (i + 1) (XS ++ [(xs, ys)])) :=
                RwL.push LA.out LB.out (LO.out _) (LR.out _) (by decide) (O1.out.keep (BAL.out _)) (O2.out.keep (BAL.out _)) ho9 hg9
              have B9 : Hid (Below B wN w9) := (al B8'.out hs8).grown hg9 (by simp; omega) (fun kk hk => ((LO.out (.cells #[.slice r1 j e1, .slice r2 n e2] 63)).lt kk hk).1)
              have W9 : Hid (Ws 34 w9 qn nn dn P) := Ws.grow (LO.out (.cells #[.slice r1 j e1, .slice r2 n e2] 63)) hg9 (W8.out.keep (BAL.out _)) (by decide)
              have N9 : Hid (BlkIs bn (.cells #[.slice qn nn dn] 29) w9) := by
                have h := N8.out.keep (BAL.out (.cells #[.slice r1 j e1, .slice r2 n e2] 63))
                exact (hg9.block _ (blk_lt h) (own_other (LO.out _) h (by decide))).trans h
              have HC2 : Hid (∀ W q c, RwS W q (i + 1) c (XS ++ [(xs, ys)]) → Calls Tryd.prog 21 #[.int .i64 j, .int .i64 n, .slice q (i + 1) c] W (RetN 34 W (cntI j n (XS ++ [(xs, ys)]) (i + 1)))) := fun W q c h => by
                have hf : ∀ x, x ∈ XS ++ [(xs, ys)] → Fit j n x := fun x hx => by
                  rcases List.mem_append.1 hx with h1 | h1
                  · exact (HXA.out x h1).1
                  · rw [List.mem_singleton] at h1; subst h1; exact HFY.out
                have hj := fun W2 (hb2 : Below W.heap.size W W2) => Judge_fit j n q (i + 1) c (XS ++ [(xs, ys)]) W2 (h.keep hb2) hk1 (by omega) (by omega) (by omega) hf
                unfold cntI
                by_cases hc : clashI (XS ++ [(xs, ys)]) (i + 1) < 0
                · rw [if_pos hc]
                  have e : clashI (XS ++ [(xs, ys)]) (i + 1) = -1 := by have := (clashI_range (XS ++ [(xs, ys)]) (i + 1)).1; omega
                  rw [e] at hj
                  exact Count_ok j n q (i + 1) c _ W (by omega) (by omega) (kD_wide hf) hj
                · rw [if_neg hc]
                  exact Count_clash j n q (i + 1) c _ _ W (by omega) hj
              have HLE2 : Hid (cntI j n (XS ++ [(xs, ys)]) (i + 1) ≤ P) := by
                show _ ≤ _
                rw [HP.out, HRD.out]; exact cntQ_le
              obtain ⟨M, hM⟩ : ∃ M, M = cntI j n (XS ++ [(xs, ys)]) (i + 1) := ⟨_, rfl⟩
              rw [← hM] at HC2 HLE2
              clear ho9 hg9 hat9 hlt9 O1 O2 LO LR LA LB BAL B8' W8 N8 hM ho9e o9
              go_wp2_with fail
              refine Calls.mono (HC2.out _ _ _ L9.out.rwS) ?_
              rintro e wa ⟨qm, nm, dm, rfl, hw, hb⟩
              have hs9 := HBs.out _ B9.out
              have Ba : Hid (Below B wN wa) := bl B9.out hb hs9
              have Wa := Lib.hid (W9.out.keep hb); have Ma := Lib.hid hw
              have Na : Hid (BlkIs bn (.cells #[.slice qn nn dn] 29) wa) := N9.out.keep hb
              have hsa := HBs.out _ Ba.out
              have n0 : ∀ o, (wa.alloc o).cell? ⟨bn, 0, none⟩ = some (.slice qn nn dn) := fun o => cell_of_row _ _ 0 _ _ _ (hal Na.out)
              have HCZ : Hid (∀ W, Ws 34 W qm nm dm M → Ws 34 W qn nn dn P → Calls Tryd.prog 11 #[.agg #[.slice qm nm dm], .agg #[.slice qn nn dn]] W fun e w' => e = .returned (.int .i64 (cmpN M P)) ∧ Below W.heap.size W w') := fun W a b => Cmp_any qm qn nm dm nn dn M P W a b
              have hcz := cmpN_le HLE2.out
              obtain ⟨cz, hczd⟩ : ∃ cz, cz = cmpN M P := ⟨_, rfl⟩
              rw [← hczd] at HCZ hcz
              clear hw hb hczd B9 W9 N9 L9 Na HC2
              go_wp2_with fail
              refine Calls.mono (HCZ.out _ (Ma.out.keep (ba1 _ _)) (Wa.out.keep (ba1 _ _))) ?_
              rintro e wb ⟨rfl, hb⟩
              have Bb : Hid (Below B wN wb) := bl (al Ba.out hsa) hb (by have := hsa; simp; omega)
              clear hb n0
              go_wp2
              go_ret
              exact ⟨by simp [hcz], HN.out _ Bb.out⟩
end Go.Proofs.YtbfmdfbnhakolaaDoor
namespace Go.Proofs.YtbfmdfbnhakolaaDoor
open Go.RowKit Go.By
set_option maxRecDepth 100000 in
set_option maxHeartbeats 2000000 in
theorem SC_skip (tt : UInt8) (k m2 : Nat) (p1 p2 : Option Addr) (v : Value) (a b : Value) (c1 c2 : Nat) (w : World) (hT : Tab w) (hv : v = .agg #[a, b]) (hb1 : k ≤ 9223372036854775807) (hb2 : m2 ≤ 9223372036854775807) (hs : k < 1 ∨ 20 < k ∨ 20 < m2) :
    Calls Tryd.prog 6 #[.slice p1 k c1, .slice p2 m2 c2, B8 tt, v] w fun e w' => e = .returned (.bool true) ∧ Below w.heap.size w w' := by
  subst hv
  have HT := Lib.hid hT
  clear hT
  go_enter Tryd.func6, Tryd.ntmps6
  go_wp2_with fail
  refine Calls.mono (awake09 _ (HT.out.keep (ba1 _ _))) ?_
  rintro e w1 ⟨rfl, hb⟩
  have B1 : Hid (Below w.heap.size w w1) := bl (ba1 w _) hb (ba1 w _).size
  clear hb
  by_cases h1 : k < 1
  · have h1' : (k : Int) < 1 := by omega
    clear hs
    go_wp2
    go_ret
    exact ⟨rfl, B1.out⟩
  · have h1' : (1 : Int) ≤ (k : Int) := by omega
    by_cases h2 : 20 < k
    · have h2' : (20 : Int) < (k : Int) := by omega
      clear hs h1
      go_wp2
      go_ret
      exact ⟨rfl, B1.out⟩
    · have h2' : (k : Int) ≤ 20 := by omega
      have h3 : (20 : Int) < (m2 : Int) := by omega
      clear hs h1 h2
      go_wp2
      go_ret
      exact ⟨rfl, B1.out⟩
theorem SolveCounts_any (p1 : Option Addr) (k c1 : Nat) (SY : List (List UInt8)) (p2 : Option Addr) (m2 c2 : Nat) (VE : List (List UInt8)) (tt : UInt8) (p3 : Option Addr) (m3 c3 : Nat) (V : List UInt8) (p4 : Option Addr) (m4 c4 : Nat) (D : List UInt8) (w : World) (h1 : Sl2 w p1 k c1 SY) (h2 : Sl2 w p2 m2 c2 VE) (h3 : Sl B8 w p3 m3 c3 V) (h4 : Sl B8 w p4 m4 c4 D) (hT : Tab w) :
    Calls Tryd.prog 6 #[.slice p1 k c1, .slice p2 m2 c2, B8 tt, .agg #[.slice p3 m3 c3, .slice p4 m4 c4]] w fun e w' => e = .returned (.bool true) ∧ Below w.heap.size w w' := by
  by_cases h : k < 1 ∨ 20 < k ∨ 20 < m2
  · exact SC_skip tt k m2 p1 p2 _ _ _ c1 c2 w hT rfl h1.bound h2.bound h
  · exact SC_main tt k m2 p1 p2 p3 p4 c1 c2 m3 c3 m4 c4 SY VE (V, D) w h1 h2 h3 h4 hT (by omega) (by omega) (by omega)
end Go.Proofs.YtbfmdfbnhakolaaDoor
namespace Go.By
open Go.RowKit
theorem byte_of_wf {a : Int} (h : (Lit.int .u8 a).wf = true) : ∃ x : UInt8, Value.int .u8 a = B8 x ∧ a = (x.toNat : Int) := by
  have hb := bounds_u8 h
  have e : a = ((UInt8.ofNat a.toNat).toNat : Int) := by simp; omega
  exact ⟨UInt8.ofNat a.toNat, B8_congr e, e⟩
theorem sl_of_row {w : World} {a : Option Addr} {len cap : Nat} {zs : List Int}
    (h : (a = none ∧ len = 0 ∧ cap = 0 ∧ zs = []) ∨ ∃ x, a = some x ∧ len ≤ cap ∧ cap ≤ maxLen ∧ zs.length = cap ∧ (∀ i, i < zs.length → w.cell? (x.add i) = some (.int .u8 (zs.getD i 0))) ∧ ∀ n ∈ zs, (Lit.int .u8 n).wf = true) :
    ∃ xs, Sl B8 w a len cap xs := by
  rcases h with ⟨rfl, rfl, rfl, _⟩ | ⟨x, rfl, hl, hm, hz, hc, hw⟩
  · exact ⟨[], Sl.nil0 _ _⟩
  · refine ⟨(zs.take len).map fun z => UInt8.ofNat z.toNat, ⟨by simp; omega, hl, hm, fun h => by simp at h, ?_⟩⟩
    intro i hi
    have hi' : i < zs.length := by simp at hi; omega
    obtain ⟨b, o, hx, hc'⟩ := ints_at hc (by omega)
    refine ⟨b, o, by rw [hx], ?_⟩
    have hh := hc i hi'
    rw [hx, Addr.add_lit] at hh
    rw [hh]
    have e : zs.getD i 0 = zs[i] := by simp [hi']
    rw [e]
    have hb := bounds_u8 (hw _ (List.getElem_mem hi'))
    simp
    omega
end Go.By
namespace Go.By
open Go.RowKit
theorem spot_none {w : World} {x : Addr} {v : Value} (h : w.cell? (x.add 0) = some v) : ∃ b o, x = ⟨b, o, none⟩ := by
  obtain ⟨b, off, spot⟩ := x
  have hspot : spot = none := by simpa [Addr.add] using World.cell?_spot h
  subst hspot
  exact ⟨b, off, rfl⟩
theorem sl2_of_rows {w : World} {a : Option Addr} {len cap : Nat} (hl : len ≤ cap) (hm : cap ≤ maxLen) (hn : a = none → len = 0 ∧ cap = 0) (A : Nat → Option Addr) (L C : Nat → Nat) (Z : Nat → List Int)
    (h : ∀ x, a = some x → ∀ r, r < cap → w.cell? (x.add r) = some (.slice (A r) (L r) (C r)) ∧ L r ≤ C r ∧ C r ≤ maxLen ∧ (Z r).length = C r ∧ (∀ n ∈ Z r, (Lit.int .u8 n).wf = true) ∧ (A r = none → C r = 0) ∧
        ∀ a', A r = some a' → ∀ c, c < C r → w.cell? (a'.add c) = some (.int .u8 ((Z r).getD c 0))) : ∃ xss, Sl2 w a len cap xss := by
  have each : ∀ r, ∃ xs, r < len → Sl B8 w (A r) (L r) (C r) xs := by
    intro r
    by_cases hr : r < len
    · cases ha : a with
      | none => have := hn ha; omega
      | some x =>
        obtain ⟨_, h1, h2, h3, h4, h5, h6⟩ := h x ha r (by omega)
        cases hA : A r with
        | none =>
          have := h5 hA
          have hL : L r = 0 := by omega
          exact ⟨[], fun _ => by rw [hL, this]; exact Sl.nil0 _ _⟩
        | some a' =>
          obtain ⟨xs, hx⟩ := sl_of_row (w := w) (a := some a') (len := L r) (cap := C r) (zs := Z r) (.inr ⟨a', rfl, h1, h2, h3, fun i hi => h6 a' hA i (by omega), h4⟩)
          exact ⟨xs, fun _ => hx⟩
    · exact ⟨[], fun h => absurd h hr⟩
  refine ⟨(List.range len).map fun r => Classical.choose (each r), ⟨by simp, hl, hm, hn, ?_⟩⟩
  intro i xs hi
  obtain ⟨hi', e⟩ := List.getElem?_eq_some_iff.1 hi
  simp at hi' e
  have hs := Classical.choose_spec (each i) hi'
  rw [e] at hs
  cases ha : a with
  | none => have := hn ha; omega
  | some x =>
    obtain ⟨hc, _⟩ := h x ha i (by omega)
    obtain ⟨b, o, rfl⟩ := spot_none (h x ha 0 (by omega)).1
    rw [Addr.add_lit] at hc
    exact ⟨b, o, A i, C i, rfl, by rw [hs.len]; exact hc, by rw [hs.len]; exact hs⟩
end Go.By
namespace Go.Proofs.YtbfmdfbnhakolaaDoor
open Go.RowKit Go.By
theorem tab_of {d32 : DataW Unit} {rest : List (String × DataW Unit)} {W : World} (h : laidMet Tryd.prog (("math/bits.deBruijn32tab", d32) :: ("math/bits.deBruijn64tab", Rows.laid_math_bits_deBruijn64tab) :: rest) W) : Tab W := by
  obtain ⟨zs, hz⟩ : ∃ zs : List Int, (Rows.laid_math_bits_deBruijn64tab : DataW Unit) = Lib.tabData .u8 zs ∧ zs.length = 64 ∧ zs.getD 15 0 = 4 := ⟨[0, 1, 56, 2, 57, 49, 28, 3, 61, 58, 42, 50, 38, 29, 17, 4, 62, 47, 59, 36, 45, 43, 51, 22, 53, 39, 33, 30, 24, 18, 12, 5, 63, 55, 48, 27, 60, 41, 37, 16, 46, 35, 44, 21, 52, 32, 23, 11, 54, 26, 40, 15, 34, 20, 31, 10, 25, 14, 19, 9, 13, 8, 7, 6], rfl, rfl, rfl⟩
  have h2 := laidMet.tail h
  rw [hz.1] at h2
  have h3 := Lib.tabIs_of_head (g := 3) (t := 168) (e := 5) (n := 64) (by kernel_rfl) (by kernel_rfl) (by kernel_rfl) (by kernel_rfl) (by kernel_rfl) (by kernel_rfl) h2
  have := h3.cell (g := 3) (by kernel_rfl) 15 (by omega)
  rw [hz.2.2] at this
  exact this
end Go.Proofs.YtbfmdfbnhakolaaDoor
