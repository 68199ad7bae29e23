/- The walk of the law WayWhole. -/
import Derived.Test.YtlfcijpkdhdmeaaAh
import Derived.Test.YtlfcijpkdhdmeaaAg
import Derived.Test.YtlfcijpkdhdmeaaM3
import Derived.BigQuiet
namespace Go.Proofs.Ytlfcijpkdhdmeaa
open Go.RowKit Go.By
theorem few20_parts {xss : List (List UInt8)} {acs : List ActD} (h : few20 xss acs = true) : (∀ xs, xs ∈ xss → xs.length ≤ 300) ∧ (∀ a, a ∈ acs → a.bs.length ≤ 300) ∧ xss.length ≤ 40 ∧ acs.length ≤ 40 := by
  simp only [few20, Bool.and_eq_true, List.all_eq_true, decide_eq_true_eq] at h
  exact ⟨h.1.1, h.1.2, h.2.1, h.2.2⟩
theorem room300 {n : Nat} (h : n ≤ 300) : Room n := by unfold Room; omega
theorem oneS_len (xss : List (List UInt8)) (acs : List ActD) : (oneS xss acs).length ≤ xss.length + acs.length := by
  unfold oneS; rw [List.length_map]; have := playS_len (initS xss) acs; rw [initS_len] at this; exact this
theorem oneS_room {xss : List (List UInt8)} {acs : List ActD} (h : ∀ xs, xs ∈ xss → Room xs.length) (ha : ∀ a, a ∈ acs → Room a.bs.length) : ∀ xs, xs ∈ oneS xss acs → Room xs.length := by
  intro xs hx
  unfold oneS at hx
  obtain ⟨p, hp, rfl⟩ := List.mem_map.1 hx
  exact playS_room (initS_room h) ha p hp
theorem any_snoc {acs : List ActD} {k : Nat} {a : ActD} (h : acs[k]? = some a) : (acs.take (k + 1)).any (fun a => harmsS a.d) = ((acs.take k).any (fun a => harmsS a.d) || harmsS a.d) := by
  obtain ⟨hk, e⟩ := List.getElem?_eq_some_iff.1 h
  rw [List.take_succ_eq_append_getElem hk, e, List.any_append]; simp
set_option maxRecDepth 100000 in
set_option maxHeartbeats 4000000 in
theorem WayWhole_main (p1 p2 : Option Addr) (n1 c1 n2 c2 : Nat) (xss : List (List UInt8)) (acs : List ActD) (w : World) (h1 : Sl2 w p1 n1 c1 xss) (h2 : SlA w p2 n2 c2 acs) (hf : few20 xss acs = true) :
    Calls Try.prog 5 #[.slice p1 n1 c1, .slice p2 n2 c2] w fun e w' => e = .returned (.bool true) ∧ Below w.heap.size w w' := by
  obtain ⟨f1, f2, f3, f4⟩ := few20_parts hf
  have hr : ∀ xs, xs ∈ xss → Room xs.length := fun xs hx => room300 (f1 xs hx)
  have hra : ∀ a, a ∈ acs → Room a.bs.length := fun a ha => room300 (f2 a ha)
  have hlen : n1 + n2 < 4096 := by rw [h1.len] at f3; rw [h2.len] at f4; omega
  have hn1 : n1 ≤ 40 := by rw [← h1.len]; exact f3
  have hn2 : n2 ≤ 40 := by rw [← h2.len]; exact f4
  have HF := Lib.hid (fun w h1 h2 => Few20_any p1 p2 n1 c1 n2 c2 xss acs w h1 h2)
  rw [hf] at HF
  have HA := Lib.hid (fun w h1 h2 => Apply_any p1 p2 n1 c1 n2 c2 xss acs w h1 h2 hr hra hlen)
  have HWh := Lib.hid (fun w h1 h2 => Whole_any p1 p2 n1 c1 n2 c2 xss acs w h1 h2 hr hra hlen)
  have H1 := Lib.hid h1; have H2 := Lib.hid h2; have HR := Lib.hid hr; have HRA := Lib.hid hra
  have HG : Hid (Good xss (acs.any (fun a => harmsS a.d)) (playS (initS xss) acs)) := by
    have := Good.play (acs := acs) (Good.init xss)
    rw [Bool.false_or] at this
    exact this
  have HLN : Hid ((playS (initS xss) acs).length ≤ 80) := by
    have := playS_len (initS xss) acs; rw [initS_len] at this; show _ ≤ _; omega
  obtain ⟨PS, hPS⟩ : ∃ PS, PS = playS (initS xss) acs := ⟨_, rfl⟩
  rw [← hPS] at HA HWh HG HLN
  have HPS := Lib.hid hPS
  clear h1 h2 hf f1 f2 f3 f4 hr hra hPS
  obtain ⟨n, hn⟩ : ∃ n, n = PS.length := ⟨_, rfl⟩
  have el1 : Hid ((PS.map (·.1)).length = n) := by show _ = _; rw [List.length_map, hn]
  have el2 : Hid ((PS.map (·.2)).length = n) := by show _ = _; rw [List.length_map, hn]
  have hn80 : n ≤ 80 := by have := HLN.out; omega
  have HN := Lib.hid hn
  clear hn
  go_enter Try.func5, Try.ntmps5
  go_wp2_with fail
  refine (awake20 _).mono ?_; rintro e w1 ⟨rfl, k1⟩
  go_wp2_with fail
  refine Calls.mono (HF.out w1 (H1.out.keep k1) (H2.out.keep k1)) ?_; rintro e w2 ⟨rfl, hw2⟩
  have k2 := bl k1 hw2 k1.size
  go_wp2_with fail
  refine Calls.mono (HA.out w2 (H1.out.keep k2) (H2.out.keep k2)) ?_; rintro e w3 ⟨q3, c3, rfl, ho3, hw3⟩
  have k3 := bl k2 hw3 k2.size
  rw [el1.out] at ho3 ⊢
  have O3 := Lib.hid ho3; clear ho3
  go_wp2_with fail
  refine Calls.mono (HWh.out w3 (H1.out.keep k3) (H2.out.keep k3)) ?_; rintro e w4 ⟨q4, c4, rfl, ho4, hw4⟩
  have k4 := bl k3 hw4 k3.size
  have O3 := Lib.hid (O3.out.keep hw4).sl2
  rw [el2.out] at ho4 ⊢
  have O4 := Lib.hid (Sl.of_owns ho4); clear ho4
  go_wp2
  go_loopw [7, 8, 33] (fun hb v i wr => ∃ (k : Nat) (q : Option Addr) (c : Nat), k ≤ n2 ∧ i = .int .i64 k ∧ hb = .bool ((acs.take k).any (fun a => harmsS a.d)) ∧ v = .slice q (oneS xss (acs.take k)).length c ∧ Hid (Sl2 wr q (oneS xss (acs.take k)).length c (oneS xss (acs.take k))) ∧ Hid (Below w4.heap.size w4 wr)) (fun _ _ i _ => n2 - (intOf i).toNat)
  case atStart =>
    have e : oneS xss (acs.take 0) = xss := by unfold oneS playS; exact init_bytes xss
    exact ⟨0, p1, c1, Nat.zero_le _, rfl, rfl, by rw [e, H1.out.len], by rw [e, H1.out.len]; exact H1.out.keep k4, Below.refl _ _⟩
  case round =>
    obtain ⟨k, q, c, hk, rfl, rfl, rfl, hO, hB⟩ := hrel
    have kw : Below w.heap.size w wr := bl k4 hB.out k4.size
    by_cases hlt : k < n2
    · obtain ⟨a, ha⟩ : ∃ a, acs[k]? = some a := ⟨_, List.getElem?_eq_getElem (by rw [H2.out.len]; exact hlt)⟩
      obtain ⟨b, o, q', m, c', rfl, y0, y1, y2, y3, y4, hs, bi, bj, bb⟩ := (H2.out.keep kw).rs k a ha
      have hS1 := Lib.hid (oneS_snoc (xss := xss) ha)
      have hS2 := Lib.hid (any_snoc ha)
      have hL := oneS_len xss (acs.take k)
      rw [H1.out.len, List.length_take] at hL
      have hRm := Lib.hid (oneS_room HR.out (fun a ha => HRA.out a (List.mem_of_mem_take ha)) : ∀ xs, xs ∈ oneS xss (acs.take k) → Room xs.length)
      have hRa := Lib.hid (HRA.out a (List.mem_of_getElem? ha))
      obtain ⟨ONE, hONE⟩ : ∃ ONE, ONE = oneS xss (acs.take k) := ⟨_, rfl⟩
      rw [← hONE] at hO hS1 hL hRm ⊢
      obtain ⟨hb, hhb⟩ : ∃ hb, hb = (acs.take k).any (fun a => harmsS a.d) := ⟨_, rfl⟩
      rw [← hhb] at hS2 ⊢
      have hL80 : ONE.length ≤ 80 := by omega
      obtain ⟨d, i, jj, bt, bs⟩ := a
      simp only at y0 y1 y2 y3 y4 hs bi bj bb
      have HS := Lib.hid hs
      have i1 : (k : Int) < (n2 : Int) := by omega
      have hsz := hB.out.size
      obtain ⟨ln, hln⟩ : ∃ ln, ln = ONE.length := ⟨_, rfl⟩
      rw [← hln] at hO hL80 ⊢
      have HLE := Lib.hid hln
      clear hs ha hONE hhb hL hln
      have HAp : Hid (∀ (W : World) (g : Nat) (fr : Nat × Nat) (T : Nat), W.heap[g]? = some (.cells #[.int .i64 d, .int .i64 i, .int .i64 jj, .int .u32 bt, .slice q' m c'] T fr) → Below wr.heap.size wr W → Calls Try.prog 16 #[.slice q ln c, .slice (some ⟨g, 0, none⟩) 1 1] W (RetRows W (oneS xss (acs.take (k + 1))))) := fun W g fr T hW hb => by
        rw [hS1.out]
        exact Apply_any q (some ⟨g, 0, none⟩) ln c 1 1 ONE [⟨d, i, jj, bt, bs⟩] W (hO.out.keep hb) (sla_one ⟨d, i, jj, bt, bs⟩ hW (HS.out.keep hb) bi bj bb) hRm.out (by intro a ha; simp at ha; subst ha; exact hRa.out) (by omega)
      have HHm : Hid (∀ W, Calls Try.prog 17 #[actV d i jj bt (.slice q' m c')] W fun e w' => e = .returned (.bool (harmsS d)) ∧ Below W.heap.size W w') := fun W => Harms_any d i jj bt (.slice q' m c') W
      have hS3 : Hid ((acs.take (k + 1)).any (fun a => harmsS a.d) = (hb || harmsS d)) := hS2.out
      have X1 : Hid ((wr.alloc (.cells #[.int .i64 d, .int .i64 i, .int .i64 jj, .int .u32 bt, .slice q' m c'] 39)).heap[wr.heap.size]? = some (.cells #[.int .i64 d, .int .i64 i, .int .i64 jj, .int .u32 bt, .slice q' m c'] 39 (0, 0))) := hnew rfl
      have hBa : Hid (∀ o, Below wr.heap.size wr (wr.alloc o)) := fun o => al (Below.refl _ _) (Nat.le_refl _)
      cases hb with
      | true =>
        rw [Bool.true_or] at hS3
        go_wp2_with fail
        refine Calls.mono (HAp.out _ _ (0, 0) 39 (hnew (by simp)) (al (hBa.out _) (by simp))) ?_; rintro e w6 ⟨q6, c6, rfl, ho6, hw6⟩
        have O6 := Lib.hid ho6.sl2; clear ho6
        have K6 : Hid (Below w4.heap.size w4 w6) := hB.out.trans ((al (hBa.out _) (by simp)).mono hsz |>.trans (hw6.mono (by simp; omega)))
        clear hw6
        go_wp2
        go_roundw
        case rel => exact ⟨k + 1, q6, c6, by omega, by go_num, by rw [hS3.out], rfl, O6.out, K6.out⟩
        case measure => simp [intOf]; omega
      | false =>
        rw [Bool.false_or] at hS3
        go_wp2_with fail
        refine Calls.mono (HHm.out _) ?_; rintro e w5 ⟨rfl, hw5⟩
        have k5 : Below wr.heap.size wr w5 := (hBa.out _).trans (hw5.mono (by simp))
        have x5 : w5.heap[wr.heap.size]? = some (.cells #[.int .i64 d, .int .i64 i, .int .i64 jj, .int .u32 bt, .slice q' m c'] 39 (0, 0)) := (hw5.block _ (by simp)).trans X1.out
        have z0 : w5.cell? ⟨wr.heap.size, 0, none⟩ = some (.int .i64 d) := cell_of_row _ _ 0 _ _ _ x5
        have z1 : w5.cell? ⟨wr.heap.size, 1, none⟩ = some (.int .i64 i) := cell_of_row _ _ 1 _ _ _ x5
        have z2 : w5.cell? ⟨wr.heap.size, 2, none⟩ = some (.int .i64 jj) := cell_of_row _ _ 2 _ _ _ x5
        have z3 : w5.cell? ⟨wr.heap.size, 3, none⟩ = some (.int .u32 bt) := cell_of_row _ _ 3 _ _ _ x5
        have z4 : w5.cell? ⟨wr.heap.size, 4, none⟩ = some (.slice q' m c') := cell_of_row _ _ 4 _ _ _ x5
        have K5 := Lib.hid k5
        have s5 := k5.size
        clear x5 k5 hw5
        go_wp2_with fail
        refine Calls.mono (HAp.out _ _ (0, 0) 39 (hnew rfl) (al K5.out s5)) ?_; rintro e w6 ⟨q6, c6, rfl, ho6, hw6⟩
        have O6 := Lib.hid ho6.sl2; clear ho6
        have K6 : Hid (Below w4.heap.size w4 w6) := hB.out.trans (((al K5.out s5).mono hsz).trans (hw6.mono (by simp; omega)))
        clear hw6
        go_wp2
        go_roundw
        case rel => exact ⟨k + 1, q6, c6, by omega, by go_num, by rw [hS3.out], rfl, O6.out, K6.out⟩
        case measure => simp [intOf]; omega
    · have hkn : k = n2 := by omega
      subst hkn
      have e : acs.take k = acs := List.take_of_length_le (by rw [H2.out.len]; omega)
      rw [e] at hO ⊢
      obtain ⟨HARM, hHARM⟩ : ∃ HARM, HARM = acs.any (fun a => harmsS a.d) := ⟨_, rfl⟩
      rw [← hHARM] at HG ⊢
      have eO : oneS xss acs = PS.map (·.1) := by unfold oneS; rw [← HPS.out]
      rw [eO, el1.out] at hO ⊢
      have HO3 := Lib.hid (O3.out.keep hB.out); have HO4 := Lib.hid (O4.out.keep hB.out); have HL1 := Lib.hid (H1.out.keep kw)
      have KW := Lib.hid kw
      clear e eO hHARM kw
      obtain ⟨wL, hwL⟩ : ∃ wL, wL = wr := ⟨_, rfl⟩
      rw [← hwL] at hO HO3 HO4 HL1 KW ⊢
      clear hB hwL
      go_wp2
      go_loopw [49] (fun i wr => ∃ r qd : Nat, r ≤ n ∧ i = .int .i64 r ∧ wr = wL.drewN qd) (fun i _ => n - (intOf i).toNat)
      case atStart => exact ⟨0, 0, Nat.zero_le _, rfl, rfl⟩
      case round =>
        obtain ⟨r, qd, hrn, rfl, rfl⟩ := hrel
        by_cases hlt2 : r < n
        · obtain ⟨p, hp⟩ : ∃ p, PS[r]? = some p := ⟨_, List.getElem?_eq_getElem (by rw [← HN.out]; exact hlt2)⟩
          obtain ⟨b4, o4, v4, rfl, hc4, hx4⟩ := HO4.out.at r hlt2
          have hv4 : v4 = p.2 := by have := hx4.out; rw [List.getElem?_map, hp] at this; simpa using this.symm
          subst hv4
          obtain ⟨b3, o3, q5, m5, c5, x, rfl, hc3, hs3, hx3⟩ := HO3.out.at r hlt2
          have hxv : x = p.1 := by have := hx3.out; rw [List.getElem?_map, hp] at this; simpa using this.symm
          subst hxv
          have hg := HG.out p (List.mem_of_getElem? hp)
          have HS3 := Lib.hid hs3
          have i1 : (r : Int) < (n : Int) := by omega
          clear hs3 hp
          rcases hg with ⟨g1, g2⟩ | ⟨k0, g1, g2⟩
          · rw [g1] at hc4
            rw [g2]
            go_wp2_with fail
            have hd1 : decide ((n1 : Int) ≤ -1) = false := by rw [decide_eq_false_iff_not]; omega
            go_quiet (fail)
            clear hd1
            go_wp2
            go_roundw
            case rel => exact ⟨r + 1, _, by omega, by go_num, rfl⟩
            case measure => simp [intOf]; omega
          · have hk0 : k0 < n1 := by have := (List.getElem?_eq_some_iff.1 g2).1; rw [H1.out.len] at this; exact this
            obtain ⟨b1, o1, q7, m7, c7, x7, rfl, hc7, hs7, hx7⟩ := HL1.out.at k0 hk0
            have hx7' : x7 = p.1 := Option.some.inj (hx7.out.symm.trans g2)
            subst hx7'
            rw [g1] at hc4
            have i2 : (k0 : Int) < (n1 : Int) := by omega
            have HS7 := Lib.hid hs7
            have CS : Hid (∀ q', Calls Try.prog 13 #[.slice q5 m5 c5, .slice q7 m7 c7] (wL.drewN (qd + q')) fun e w'' => e = .returned (.bool true) ∧ ∃ m, w'' = wL.drewN (qd + m)) := fun q' => by
              have := Same_q _ _ _ _ _ _ p.1 p.1 (wL.drewN qd) q' (dr HS3.out qd) (dr HS7.out qd)
              rw [decide_eq_true rfl] at this
              simpa only [World.drewN_drewN] using this
            clear hs7 g1 g2
            go_wp2_with fail
            have hd1 : decide ((n1 : Int) ≤ (k0 : Int)) = false := by rw [decide_eq_false_iff_not]; omega
            have hd2 : decide ((k0 : Int) < -1) = false := by rw [decide_eq_false_iff_not]; omega
            have hd3 : decide ((0 : Int) ≤ (k0 : Int)) = true := by rw [decide_eq_true_iff]; omega
            have hd4 : decide ((k0 : Int) < 0) = false := by rw [decide_eq_false_iff_not]; omega
            go_quiet ((go_at_call 13; exact CS.out _))
            go_wp2
            go_roundw
            case rel => exact ⟨r + 1, _, by omega, by go_num, rfl⟩
            case measure => simp [intOf]; omega
        · go_wp2_with fail
          refine Calls.mono (Same7_any _ _ n n _ _ (PS.map (·.1)) (PS.map (·.1)) _ (hO.out.keep (below_drewN _ _)) (HO3.out.keep (below_drewN _ _))) ?_; rintro e w9 ⟨rfl, hw9⟩
          rw [decide_eq_true rfl]
          go_wp2
          go_ret
          exact ⟨rfl, bl (bdn KW.out) hw9 (bdn KW.out).size⟩
theorem WayWhole_any (p1 : Option Addr) (n1 c1 : Nat) (xss : List (List UInt8)) (p2 : Option Addr) (n2 c2 : Nat) (acs : List ActD) (w : World) (h1 : Sl2 w p1 n1 c1 xss) (h2 : SlA w p2 n2 c2 acs) :
    Calls Try.prog 5 #[.slice p1 n1 c1, .slice p2 n2 c2] w fun e w' => e = .returned (.bool true) ∧ Below w.heap.size w w' := by
  cases hf : few20 xss acs with
  | true => exact WayWhole_main p1 p2 n1 c1 n2 c2 xss acs w h1 h2 hf
  | false =>
    have HF := Lib.hid (fun w h1 h2 => Few20_any p1 p2 n1 c1 n2 c2 xss acs w h1 h2)
    rw [hf] at HF
    have H1 := Lib.hid h1; have H2 := Lib.hid h2
    clear h1 h2 hf
    go_enter Try.func5, Try.ntmps5
    go_wp2_with fail
    refine (awake20 _).mono ?_; rintro e w1 ⟨rfl, k1⟩
    go_wp2_with fail
    refine Calls.mono (HF.out w1 (H1.out.keep k1) (H2.out.keep k1)) ?_; rintro e w2 ⟨rfl, hw2⟩
    go_wp2
    go_ret
    exact ⟨rfl, bl k1 hw2 k1.size⟩
end Go.Proofs.Ytlfcijpkdhdmeaa
