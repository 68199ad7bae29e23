/- The walk of the law WayApplies. -/
import Derived.Test.YtlfcijpkdhdmeaaAp
import Derived.Test.YtlfcijpkdhdmeaaAi
import Derived.Deep.AppendLies
namespace Go.Proofs.Ytlfcijpkdhdmeaa
open Go.RowKit Go.By
theorem range_snoc (k : Nat) : (List.range (k + 1)).map (fun i : Nat => I64 (i : Int)) = (List.range k).map (fun i : Nat => I64 (i : Int)) ++ [I64 (k : Int)] := by rw [List.range_succ, List.map_append]; rfl
theorem initS_snd (xss : List (List UInt8)) : (initS xss).map (·.2) = (List.range xss.length).map (fun i : Nat => (i : Int)) := by simp only [initS, List.map_map]; rfl
theorem Own2.grown {T2 T1 base n : Nat} {w w' : World} {v : Value} {xss : List (List UInt8)} {row : Option Nat} (h : Own2 T2 T1 w base v n xss) (hg : w.grownBy w' row) (h1 : ∀ kk, v.ownBlock = some kk → some kk ≠ row) (h2 : ∀ (u : Value) (m : Nat) (L : List Value), w.ownsRow base T1 1 u m L → ∀ kk, u.ownBlock = some kk → some kk ≠ row) : Own2 T2 T1 w' base v n xss := by
  obtain ⟨vs, o, l, r⟩ := h
  exact ⟨vs, owns_kept o hg h1, l, fun j val hj => by
    obtain ⟨xs, q, c', a, b, d⟩ := r j val hj
    exact ⟨xs, q, c', a, b, owns_kept d hg (h2 _ _ _ d)⟩⟩
set_option maxRecDepth 100000 in
set_option maxHeartbeats 4000000 in
theorem WayApplies_main (p1 p2 : Option Addr) (n1 c1 n2 c2 : Nat) (xss : List (List UInt8)) (acs : List ActD) (w : World) (h1 : Sl2 w p1 n1 c1 xss) (h2 : SlA w p2 n2 c2 acs) (hf : few20 xss acs = true) :
    Calls Try.prog 6 #[.slice p1 n1 c1, .slice p2 n2 c2] w fun e w' => e = .returned (.bool true) ∧ Below w.heap.size w w' := by
  obtain ⟨f1, f2, f3, f4⟩ := few20_parts hf
  have hr : ∀ xs, xs ∈ xss → Room xs.length := fun xs hx => room300 (f1 xs hx)
  have hra : ∀ a, a ∈ acs → Room a.bs.length := fun a ha => room300 (f2 a ha)
  have hlen : n1 + n2 < 4096 := by rw [h1.len] at f3; rw [h2.len] at f4; omega
  have hn1 : n1 ≤ 40 := by rw [← h1.len]; exact f3
  have hn2 : n2 ≤ 40 := by rw [← h2.len]; exact f4
  have HF := Lib.hid (fun w h1 h2 => Few20_any p1 p2 n1 c1 n2 c2 xss acs w h1 h2)
  rw [hf] at HF
  have HA := Lib.hid (fun w h1 h2 => Apply_any p1 p2 n1 c1 n2 c2 xss acs w h1 h2 hr hra hlen)
  have HWh := Lib.hid (fun w h1 h2 => Whole_any p1 p2 n1 c1 n2 c2 xss acs w h1 h2 hr hra hlen)
  have H1 := Lib.hid h1; have H2 := Lib.hid h2; have HR := Lib.hid hr; have HRA := Lib.hid hra
  have HF1 := Lib.hid f1
  obtain ⟨Z, hZ1, hZ2, hZ3⟩ := valZ_of h1
  have HZ1 := Lib.hid hZ1; have HZ2 := Lib.hid hZ2; have HZ3 := Lib.hid hZ3
  have hZl : Hid (Z.length = n1) := by have := hZ2.len; rw [List.length_map] at this; exact this
  obtain ⟨i0, hi0, hz0, hz1, hz2⟩ := info_parts info_u8
  obtain ⟨r0, hr0, hrz, hr1, hr2⟩ := info_parts info_rows
  obtain ⟨t0, ht0, htz, ht1, ht2⟩ := info_parts info_int
  clear h1 h2 hf f1 f2 f3 f4 hr hra hZ1 hZ2 hZ3
  go_enter Try.func6, Try.ntmps6
  go_wp2_with fail
  refine (awake20 _).mono ?_; rintro e w1 ⟨rfl, k1⟩
  go_wp2_with fail
  refine Calls.mono (HF.out w1 (H1.out.keep k1) (H2.out.keep k1)) ?_; rintro e w2 ⟨rfl, hw2⟩
  have k2 := bl k1 hw2 k1.size
  have K2 := Lib.hid k2
  clear k1 k2 hw2
  go_wp2
  go_loopw [5, 6, 7, 20] (fun a b c i wr => ∃ (k : Nat) (qa qb qc : Option Addr) (da db dc : Nat), k ≤ n1 ∧ i = .int .i64 k ∧ a = .slice qa k da ∧ b = .slice qb k db ∧ c = .slice qc k dc ∧ Hid (Own2 28 5 wr w2.heap.size (.slice qa k da) k (xss.take k)) ∧
    Hid (wr.ownsRow w2.heap.size 28 1 (.slice qb k db) k ((Z.take k).map (·.1))) ∧ Hid (wr.ownsRow w2.heap.size 3 1 (.slice qc k dc) k ((List.range k).map (fun i : Nat => I64 (i : Int)))) ∧ Hid (∀ x, (Value.slice qa k da).ownBlock = some x → (Value.slice qb k db).ownBlock ≠ some x) ∧ Hid (Below w2.heap.size w2 wr)) (fun _ _ _ i _ => n1 - (intOf i).toNat)
  case atStart => exact ⟨0, none, none, none, 0, 0, 0, Nat.zero_le _, rfl, rfl, rfl, rfl, Own2.nil _ _ _ _, World.ownsRow_nil _ _ _ _, World.ownsRow_nil _ _ _ _, fun x h => by simp [Value.ownBlock] at h, Below.refl _ _⟩
  case round =>
    obtain ⟨k, qa, qb, qc, da, db, dc, hk, rfl, rfl, rfl, rfl, hA, hBv, hC, hD, hB⟩ := hrel
    by_cases hlt : k < n1
    · obtain ⟨z, hz⟩ : ∃ z, Z[k]? = some z := ⟨_, List.getElem?_eq_getElem (by rw [hZl.out]; exact hlt)⟩
      obtain ⟨qz, cz, ez, hsz⟩ := HZ3.out z (List.mem_of_getElem? hz)
      have hxz : xss[k]? = some z.2 := by rw [← HZ1.out, List.getElem?_map, hz]; rfl
      obtain ⟨b1, o1, v1, rfl, hc1, hx1⟩ := HZ2.out.at k hlt
      have hv1 : v1 = .slice qz z.2.length cz := by have := hx1.out; rw [List.getElem?_map, hz] at this; rw [← ez]; simpa using this.symm
      subst hv1
      have hl3 : z.2.length ≤ 300 := HF1.out _ (List.mem_of_getElem? hxz)
      obtain ⟨lz, hlz⟩ : ∃ lz, lz = z.2.length := ⟨_, rfl⟩
      rw [← hlz] at hc1 hsz ez hl3
      have HLZ := Lib.hid hlz
      have kw : Below w.heap.size w wr := bl K2.out hB.out K2.out.size
      have hcw := (kw.cell (p := ⟨b1, o1 + k, none⟩) (lt_of_cell hc1)).trans hc1
      simp only [id] at hcw
      have HSZ := Lib.hid (hsz.keep kw)
      have i1 : (k : Int) < (n1 : Int) := by omega
      have hsb := hB.out.size
      have HZI := Lib.hid hz; have HXZ := Lib.hid hxz; have HEZ := Lib.hid ez
      have bz := hsz.le; have bz2 := hsz.max
      clear hc1 hsz ez hxz hz hlz kw
      go_wp2_with (at_builtin; refine wpList_append_rs _ rfl _ _ 28 rfl w2.heap.size 5 i0 (.int .u8 0) 1 Try.underlying28 hi0 hz0 hz1 hz2 rfl _ 0 [] rfl (World.ownsRow_lit wr #[] 0 hsb (by simp [maxLen]) rfl) B8 _ _ _ z.2 (fun _ _ => rfl) rfl (HSZ.out.keep (al (Below.refl _ _) (Nat.le_refl _))) ?c1 ?c2 ?c3 ?_)
      case c1 => omega
      case c2 => omega
      case c3 => simp; omega
      intro v3 w3 ho3 hg3
      obtain ⟨q3, d3, rfl⟩ := owns_shape ho3
      have kb3 : Below wr.heap.size wr w3 := ((Below.refl _ _).alloc (Nat.le_refl _) _).grown hg3 (by simp) (by simp [Value.ownBlock])
      have bal : ∀ (W : World) (o : Obj), Below W.heap.size W (W.alloc o) := fun W o => al (Below.refl _ _) (Nat.le_refl _)
      have hs3 := kb3.size
      have kb3a : Below wr.heap.size wr (w3.alloc (.cells #[.slice q3 lz d3] 28)) := kb3.trans ((bal _ _).mono hs3)
      have A3 := hA.out.keep kb3a
      have B3 : Hid ((w3.alloc (.cells #[.slice q3 lz d3] 28)).ownsRow w2.heap.size 28 1 (.slice qb k db) k ((Z.take k).map (·.1))) := owns_keep hBv.out kb3a
      have C3 : Hid ((w3.alloc (.cells #[.slice q3 lz d3] 28)).ownsRow w2.heap.size 3 1 (.slice qc k dc) k ((List.range k).map (fun i : Nat => I64 (i : Int)))) := owns_keep hC.out kb3a
      have R3 : Hid ((w3.alloc (.cells #[.slice q3 lz d3] 28)).ownsRow w2.heap.size 5 1 (.slice q3 lz d3) lz (z.2.map B8)) := owns_keep ho3 (bal _ _)
      have K3 : Hid (Below w2.heap.size w2 (w3.alloc (.cells #[.slice q3 lz d3] 28))) := hB.out.trans (kb3a.mono hsb)
      have BLT : Hid (∀ x, (Value.slice qb k db).ownBlock = some x → x < wr.heap.size) := fun x hx => (hBv.out.lt x hx).2
      obtain ⟨vs, oA, lA, rA⟩ := A3
      have OA := Lib.hid oA; have LA := Lib.hid lA; have RA := Lib.hid rA
      have HS3 : Hid (wr.heap.size ≤ w3.heap.size) := hs3
      have hs3' : Hid (w2.heap.size ≤ (w3.alloc (.cells #[.slice q3 lz d3] 28)).heap.size) := K3.out.size
      clear oA lA rA ho3 hg3 kb3 kb3a
      go_wp2_with (at_builtin; refine wpList_append_lies _ rfl _ _ 25 rfl w2.heap.size 28 r0 (.slice none 0 0) 1 24 Try.underlying25 hr0 hrz hr1 hr2 rfl (by omega) _ k vs rfl OA.out ⟨w3.heap.size, 0, none⟩ 1 1 [.slice q3 lz d3] rfl rfl (one_cell rfl) ?c2 (by omega) ?c3 ?c4 ?c5 _ rfl ?_)
      case c2 => intro x hx; simp at hx; subst hx; rfl
      case c3 => unfold maxLen; omega
      case c4 => omega
      case c5 => exact hs3'.out
      intro gA capA w4 ho4 hg4 hat4 hlt4
      have A4 : Hid (Own2 28 5 w4 w2.heap.size (.slice (some ⟨gA, 0, none⟩) (k + 1) capA) (k + 1) (xss.take k ++ [z.2])) := Own2.push (by decide) LA.out RA.out OA.out R3.out ho4 hg4
      have nb : ∀ kk, (Value.slice qb k db).ownBlock = some kk → some kk ≠ (Value.slice qa k da).ownBlock := fun kk hk e => hD.out kk e.symm hk
      have B4 : Hid (w4.ownsRow w2.heap.size 28 1 (.slice qb k db) k ((Z.take k).map (·.1))) := owns_kept B3.out hg4 nb
      have C4 : Hid (w4.ownsRow w2.heap.size 3 1 (.slice qc k dc) k ((List.range k).map (fun i : Nat => I64 (i : Int)))) := owns_kept C3.out hg4 (owns_ne C3.out OA.out (by decide))
      have K4 : Hid (Below w2.heap.size w2 w4) := K3.out.grown hg4 hs3'.out (fun r hr => (OA.out.lt r hr).1)
      have D4 : Hid (∀ x, (Value.slice qb k db).ownBlock = some x → x ≠ gA) := fun x hx e => by
        subst e
        rcases hat4 with h | h
        · exact hD.out x h hx
        · have h5 := BLT.out x hx; have h6 := HS3.out; first | (simp at h; omega) | omega
      have hlt4' := Lib.hid hlt4
      have hs4 := K4.out.size
      clear ho4 hg4 hat4 hlt4 nb
      have B4a : Hid (∀ o, (w4.alloc o).ownsRow w2.heap.size 28 1 (.slice qb k db) k ((Z.take k).map (·.1))) := fun o => owns_keep B4.out (bal _ _)
      have hs4' : Hid (∀ o, w2.heap.size ≤ (w4.alloc o).heap.size) := fun o => by simp; omega
      go_wp2_with (at_builtin; refine wpList_append_lies _ rfl _ _ 25 rfl w2.heap.size 28 r0 (.slice none 0 0) 1 24 Try.underlying25 hr0 hrz hr1 hr2 rfl (by omega) _ k _ rfl (B4a.out _) ⟨w4.heap.size, 0, none⟩ 1 1 [.slice qz lz cz] rfl rfl (one_cell rfl) ?c2 (by omega) ?c3 ?c4 ?c5 _ rfl ?_)
      case c2 => intro x hx; simp at hx; subst hx; rfl
      case c3 => unfold maxLen; omega
      case c4 => omega
      case c5 => exact hs4'.out _
      intro gB capB w5 ho5 hg5 hat5 hlt5
      have B5 : Hid (w5.ownsRow w2.heap.size 28 1 (.slice (some ⟨gB, 0, none⟩) (k + 1) capB) (k + 1) ((Z.take (k + 1)).map (·.1))) := by
        have : (Z.take (k + 1)).map (·.1) = (Z.take k).map (·.1) ++ [.slice qz lz cz] := by
          rw [take_map_snoc (fun y : Value × List UInt8 => y.1) HZI.out]
          show (Z.take k).map (·.1) ++ [z.1] = _
          rw [HEZ.out]
        show World.ownsRow _ _ _ _ _ _ _
        rw [this]; simpa only [List.map_take] using ho5
      have A5 : Hid (Own2 28 5 w5 w2.heap.size (.slice (some ⟨gA, 0, none⟩) (k + 1) capA) (k + 1) (xss.take k ++ [z.2])) :=
        Own2.grown (A4.out.keep (bal _ _)) hg5 (fun kk hk e => by
          have hk' : gA = kk := by simpa [Value.ownBlock] using hk
          subst hk'
          exact D4.out gA e.symm rfl) (fun u m L hu => owns_ne hu (B4a.out _) (by decide))
      have C5 : Hid (w5.ownsRow w2.heap.size 3 1 (.slice qc k dc) k ((List.range k).map (fun i : Nat => I64 (i : Int)))) := owns_kept (owns_keep C4.out (bal w4 (.cells #[.slice qz lz cz] 28))) hg5 (owns_ne (owns_keep C4.out (bal w4 (.cells #[.slice qz lz cz] 28))) (B4a.out (.cells #[.slice qz lz cz] 28)) (by decide))
      have K5 : Hid (Below w2.heap.size w2 w5) := (al K4.out hs4).grown hg5 (by simp; omega) (fun r hr => (B4.out.lt r hr).1)
      have D5 : Hid (gA ≠ gB) := fun e => by
        subst e
        rcases hat5 with h | h
        · exact D4.out gA h rfl
        · have h5 := hlt4'.out; first | (simp at h; omega) | omega
      have hs5 := K5.out.size
      clear ho5 hg5 hat5 hlt5
      have C5a : Hid (∀ o, (w5.alloc o).ownsRow w2.heap.size 3 1 (.slice qc k dc) k ((List.range k).map (fun i : Nat => I64 (i : Int)))) := fun o => owns_keep C5.out (bal _ _)
      go_wp2_with (at_builtin; refine wpList_append_own _ rfl _ _ 45 rfl w2.heap.size 3 t0 (.int .i64 0) 1 8 Try.underlying45 ht0 htz ht1 ht2 rfl (by omega) _ k _ rfl (C5a.out _) ⟨w5.heap.size, 0, none⟩ 1 1 [I64 (k : Int)] rfl rfl (one_cell rfl) ?c2 ?c3 ?c4 ?c5 ?_)
      case c2 => intro x hx; simp at hx; subst hx; rfl
      case c3 => unfold maxLen; omega
      case c4 => omega
      case c5 => simp; omega
      intro v6 w6 ho6 hg6 _
      obtain ⟨qc', dc', rfl⟩ := owns_shape ho6
      have C6 : Hid (w6.ownsRow w2.heap.size 3 1 (.slice qc' (k + 1) dc') (k + 1) ((List.range (k + 1)).map (fun i : Nat => I64 (i : Int)))) := by show World.ownsRow _ _ _ _ _ _ _; rw [range_snoc]; exact ho6
      have A6 : Hid (Own2 28 5 w6 w2.heap.size (.slice (some ⟨gA, 0, none⟩) (k + 1) capA) (k + 1) (xss.take (k + 1))) := by
        have e : xss.take (k + 1) = xss.take k ++ [z.2] := by
          obtain ⟨hk, he⟩ := List.getElem?_eq_some_iff.1 HXZ.out
          rw [List.take_succ_eq_append_getElem hk, he]
        show Own2 _ _ _ _ _ _ _
        rw [e]
        have ha := A5.out.keep (bal w5 (.cells #[I64 (k : Int)] 3))
        exact Own2.grown ha hg6 (fun kk hk => by obtain ⟨vs', o', _⟩ := ha; exact owns_ne o' (C5a.out _) (by decide) kk hk) (fun u m L hu => owns_ne hu (C5a.out _) (by decide))
      have B6 : Hid (w6.ownsRow w2.heap.size 28 1 (.slice (some ⟨gB, 0, none⟩) (k + 1) capB) (k + 1) ((Z.take (k + 1)).map (·.1))) := owns_kept (owns_keep B5.out (bal w5 (.cells #[I64 (k : Int)] 3))) hg6 (owns_ne (owns_keep B5.out (bal w5 (.cells #[I64 (k : Int)] 3))) (C5a.out (.cells #[I64 (k : Int)] 3)) (by decide))
      have K6 : Hid (Below w2.heap.size w2 w6) := (al K5.out hs5).grown hg6 (by simp; omega) (fun r hr => (C5.out.lt r hr).1)
      clear ho6 hg6
      go_wp2
      go_roundw
      case rel => exact ⟨k + 1, some ⟨gA, 0, none⟩, some ⟨gB, 0, none⟩, qc', capA, capB, dc', by omega, by go_num, rfl, rfl, rfl, A6.out, B6.out, C6.out, fun x hx e => by simp [Value.ownBlock] at hx e; exact D5.out (by omega), K6.out⟩
      case measure => simp [intOf]; omega
    · have hkn : k = n1 := by omega
      subst hkn
      have eX : xss.take k = xss := List.take_of_length_le (by rw [H1.out.len]; omega)
      have eZ : Z.take k = Z := List.take_of_length_le (by rw [hZl.out]; omega)
      rw [eX] at hA; rw [eZ] at hBv
      have SA := Lib.hid hA.out.sl2
      have kw := bl K2.out hB.out K2.out.size
      have KW := Lib.hid kw
      have SB : Hid (Sl2 wr qb k db xss) := by
        have := sl2_of hBv.out (HZ3.out.keep kw)
        rw [HZ1.out] at this; exact this
      have SC : Hid (Sl I64 wr qc k dc ((initS xss).map (·.2))) := by
        have : (List.range k).map (fun i : Nat => I64 (i : Int)) = ((initS xss).map (·.2)).map I64 := by rw [initS_snd, List.map_map, H1.out.len]; rfl
        exact Sl.of_owns (this ▸ hC.out)
      obtain ⟨wS, hwS⟩ : ∃ wS, wS = wr := ⟨_, rfl⟩
      rw [← hwS] at SA SB SC KW ⊢
      clear eX eZ hA hBv hC hD hB kw hwS
      go_wp2
      go_loopw [6, 7, 42] (fun a c i wr => ∃ (j L : Nat) (qa qc' : Option Addr) (da dc' : Nat), j ≤ n2 ∧ i = .int .i64 j ∧ a = .slice qa L da ∧ c = .slice qc' L dc' ∧ Hid (L = (playS (initS xss) (acs.take j)).length) ∧ Hid (Sl2 wr qa L da ((playS (initS xss) (acs.take j)).map (·.1))) ∧
        Hid (Sl I64 wr qc' L dc' ((playS (initS xss) (acs.take j)).map (·.2))) ∧ Hid (Below wS.heap.size wS wr)) (fun _ _ i _ => n2 - (intOf i).toNat)
      case atStart => exact ⟨0, k, qb, qc, db, dc, Nat.zero_le _, rfl, rfl, rfl, by show _ = (initS xss).length; rw [initS_len, H1.out.len], by show Sl2 _ _ _ _ ((initS xss).map _); rw [init_bytes]; exact SB.out, SC.out, Below.refl _ _⟩
      case round =>
        obtain ⟨j, L, qa', qc', da', dc', hj, rfl, rfl, rfl, hL, hS1, hS2, hB⟩ := hrel
        have kw := bl KW.out hB.out KW.out.size
        have hsz := hB.out.size
        by_cases hjn : j < n2
        · obtain ⟨a, ha⟩ : ∃ a, acs[j]? = some a := ⟨_, List.getElem?_eq_getElem (by rw [H2.out.len]; exact hjn)⟩
          obtain ⟨b, o, q', m, c', rfl, y0, y1, y2, y3, y4, hs, bi, bj, bb⟩ := (H2.out.keep kw).rs j a ha
          have hNx := Lib.hid (playS_snoc (ps := initS xss) ha)
          have hLn : L < 4096 := by
            have := playS_len (initS xss) (acs.take j)
            rw [initS_len, H1.out.len, List.length_take, ← hL.out] at this; omega
          have hRm := Lib.hid (playS_room (initS_room HR.out) (fun a ha => HRA.out a (List.mem_of_mem_take ha)) : ∀ p, p ∈ playS (initS xss) (acs.take j) → Room p.1.length)
          obtain ⟨PS, hPS⟩ : ∃ PS, PS = playS (initS xss) (acs.take j) := ⟨_, rfl⟩
          rw [← hPS] at hL hS1 hS2 hNx hRm
          have i1 : (j : Int) < (n2 : Int) := by omega
          have HStep : Hid (∀ W, Below wr.heap.size wr W → Calls Try.prog 21 #[.slice qa' L da', .slice qc' L dc', .agg #[.int .i64 a.d, .int .i64 a.i, .int .i64 a.j, .int .u32 a.b, .slice q' m c']] W (RetSt W (playS (initS xss) (acs.take (j + 1))))) := fun W hb => by
            rw [hNx.out]
            have e := hL.out
            subst e
            exact Step_any qa' qc' q' da' dc' m c' a PS W (hS1.out.keep hb) (hS2.out.keep hb) (hs.keep hb) hLn hRm.out bi bj bb
          have hBa : Hid (∀ o, Below wr.heap.size wr (wr.alloc o)) := fun o => al (Below.refl _ _) (Nat.le_refl _)
          obtain ⟨d, i, jj, bt, bs⟩ := a
          simp only at y0 y1 y2 y3 y4 HStep
          clear hs ha hPS bi bj bb kw
          go_wp2_with fail
          refine Calls.mono (HStep.out _ (hBa.out _)) ?_; rintro e w8 ⟨L', q1', d1', q2', d2', hL', rfl, s1', s2', hw8⟩
          have S1' := Lib.hid s1'; have S2' := Lib.hid s2'
          have K8 : Hid (Below wS.heap.size wS w8) := hB.out.trans (((hBa.out _).trans (hw8.mono (by simp))).mono hsz)
          clear s1' s2' hw8
          go_wp2
          go_roundw
          case rel => exact ⟨j + 1, L', q1', q2', d1', d2', by omega, by go_num, rfl, rfl, hL', S1'.out, S2'.out, K8.out⟩
          case measure => simp [intOf]; omega
        · have hjk : j = n2 := by omega
          subst hjk
          have eA : acs.take j = acs := List.take_of_length_le (by rw [H2.out.len]; omega)
          rw [eA] at hL hS1 hS2
          obtain ⟨PS, hPS⟩ : ∃ PS, PS = playS (initS xss) acs := ⟨_, rfl⟩
          rw [← hPS] at hL hS1 hS2 HA HWh
          have KWr := Lib.hid kw
          have el1 : Hid ((PS.map (·.1)).length = L) := by show _ = _; rw [List.length_map, hL.out]
          have el2 : Hid ((PS.map (·.2)).length = L) := by show _ = _; rw [List.length_map, hL.out]
          have SAw := Lib.hid (SA.out.keep hB.out)
          clear eA hPS kw
          go_wp2_with fail
          refine Calls.mono (HA.out wr (H1.out.keep KWr.out) (H2.out.keep KWr.out)) ?_; rintro e w9 ⟨q9, c9, rfl, ho9, hw9⟩
          rw [el1.out] at ho9 ⊢
          have O9 := Lib.hid ho9.sl2; have B9 := Lib.hid hw9
          have K9 := Lib.hid (bl KWr.out hw9 KWr.out.size)
          clear ho9 hw9
          go_wp2_with fail
          refine Calls.mono (Same7_any _ _ L L _ _ (PS.map (·.1)) (PS.map (·.1)) w9 O9.out (hS1.out.keep B9.out)) ?_; rintro e w10 ⟨rfl, hw10⟩
          rw [decide_eq_true rfl]
          have B10 := Lib.hid (bl B9.out hw10 B9.out.size); have K10 := Lib.hid (bl K9.out hw10 K9.out.size)
          clear hw10
          go_wp2_with fail
          refine Calls.mono (HWh.out w10 (H1.out.keep K10.out) (H2.out.keep K10.out)) ?_; rintro e w11 ⟨q11, c11, rfl, ho11, hw11⟩
          rw [el2.out] at ho11 ⊢
          have O11 : Hid (Sl I64 w11 q11 L c11 (PS.map (·.2))) := Sl.of_owns ho11
          have B11 := Lib.hid (bl B10.out hw11 B10.out.size); have K11 := Lib.hid (bl K10.out hw11 K10.out.size)
          clear ho11 hw11
          go_wp2_with fail
          refine Calls.mono (EqualI_any _ _ L _ _ (PS.map (·.2)) w11 O11.out (hS2.out.keep B11.out)) ?_; rintro e w12 ⟨rfl, hw12⟩
          have B12 := Lib.hid (bl B11.out hw12 B11.out.size); have K12 := Lib.hid (bl K11.out hw12 K11.out.size)
          clear hw12
          go_wp2_with fail
          refine Calls.mono (Same7_any _ _ k k _ _ xss xss w12 (H1.out.keep K12.out) (SAw.out.keep B12.out)) ?_; rintro e w13 ⟨rfl, hw13⟩
          rw [decide_eq_true rfl]
          have K13 := Lib.hid (bl K12.out hw13 K12.out.size)
          clear hw13
          go_wp2
          go_ret
          exact ⟨rfl, K13.out⟩
theorem WayApplies_any (p1 : Option Addr) (n1 c1 : Nat) (xss : List (List UInt8)) (p2 : Option Addr) (n2 c2 : Nat) (acs : List ActD) (w : World) (h1 : Sl2 w p1 n1 c1 xss) (h2 : SlA w p2 n2 c2 acs) :
    Calls Try.prog 6 #[.slice p1 n1 c1, .slice p2 n2 c2] w fun e w' => e = .returned (.bool true) ∧ Below w.heap.size w w' := by
  cases hf : few20 xss acs with
  | true => exact WayApplies_main p1 p2 n1 c1 n2 c2 xss acs w h1 h2 hf
  | false =>
    have HF := Lib.hid (fun w h1 h2 => Few20_any p1 p2 n1 c1 n2 c2 xss acs w h1 h2)
    rw [hf] at HF
    have H1 := Lib.hid h1; have H2 := Lib.hid h2
    clear h1 h2 hf
    go_enter Try.func6, Try.ntmps6
    go_wp2_with fail
    refine (awake20 _).mono ?_; rintro e w1 ⟨rfl, k1⟩
    go_wp2_with fail
    refine Calls.mono (HF.out w1 (H1.out.keep k1) (H2.out.keep k1)) ?_; rintro e w2 ⟨rfl, hw2⟩
    go_wp2
    go_ret
    exact ⟨rfl, bl k1 hw2 k1.size⟩
end Go.Proofs.Ytlfcijpkdhdmeaa
