/- OddsSums: the walk. -/
import Derived.Test.YtbfmdfbnhakolaaDoorD4
namespace Go.By
open Go.RowKit
theorem hex256 : hexText 256 = [49, 48, 48] := by
  rw [hexText_big (by decide), show 256 / 16 = 16 from rfl, hexText_big (by decide), show 16 / 16 = 1 from rfl, hexText_small (by decide)]; rfl
theorem hex1 : hexText 1 = [49] := by rw [hexText_small (by decide)]; rfl
theorem NBox.oneOf {T U : TypeId} {w : World} {b N : Nat} (h : NBox T U w b N) : ∃ q n c, One w b (.slice q n c) T ∧ Hid (Ws U w q n c N) := by
  obtain ⟨q, n, c, k, hw⟩ := h
  exact ⟨q, n, c, One.of k, hw⟩
theorem NBox.blk {T U : TypeId} {w : World} {b N : Nat} (h : NBox T U w b N) : ∃ u, w.heap[b]? = some (.cells #[u] T (0, 0)) := by
  obtain ⟨q, n, c, k, hw⟩ := h
  exact ⟨_, k⟩
theorem NBox.lt {T U : TypeId} {w : World} {b N : Nat} (h : NBox T U w b N) : b < w.heap.size := by
  obtain ⟨u, k⟩ := h.blk; exact blk_lt k
end Go.By
namespace Go.Proofs.YtbfmdfbnhakolaaDoor
open Go.RowKit Go.By
set_option maxRecDepth 100000 in
set_option maxHeartbeats 1000000 in
theorem awake23 (w : World) (hT : Tab w) : Calls Tryd.prog 7 #[] w fun e w' => e = .returned (.bool true) ∧ Below w.heap.size w w' := by
  have HA : Hid (∀ W, Calls Tryd.prog 15 #[.int .i64 1, .int .i64 1] W (RetN 34 W 256)) := fun W => All_any 1 1 (by decide) (by decide) (by decide) W
  have HF : Hid (∀ W, Calls Tryd.prog 16 #[.int .i64 1, .int .i64 1] W (RetN 34 W 1)) := fun W => Fails_any 1 1 (by decide) (by decide) (by decide) W
  have HG : Hid (∀ W, Calls Tryd.prog 16 #[.int .i64 2, .int .i64 1] W (RetN 34 W 1)) := fun W => Fails_any 2 1 (by decide) (by decide) (by decide) W
  have HT := Lib.hid hT
  clear hT
  go_enter Tryd.func7, Tryd.ntmps7
  go_wp2_with fail
  refine Calls.mono (HA.out _) ?_
  rintro e w1 ⟨q1, m1, d1, rfl, hw, hb⟩
  have S1 : Hid (NS 29 34 w [] w1) := ⟨hb, fun b N hm => by cases hm⟩
  have L1 := Lib.hid hw
  clear hw hb
  go_wp2_with fail
  refine Calls.mono (HF.out _) ?_
  rintro e w2 ⟨q2, m2, d2, rfl, hw, hb⟩
  have S2 := Lib.hid (S1.out.on1 L1.out hb)
  have L2 := Lib.hid hw
  clear hw hb S1 L1
  generalize w1.heap.size = b1 at *
  go_wp2_with fail
  refine Calls.mono (HG.out _) ?_
  rintro e w3 ⟨q3, m3, d3, rfl, hw, hb⟩
  have S3 := Lib.hid (S2.out.on1 L2.out hb)
  have L3 := Lib.hid hw
  clear hw hb S2 L2
  generalize w2.heap.size = b2 at *
  obtain ⟨qx, nx, cx, kx, xx⟩ := S3.out.box b1 256 (by simp)
  obtain ⟨_, e1, e2, e3, e4⟩ := One.of kx
  have Xx := Lib.hid xx
  clear kx xx
  go_wp2_with fail
  refine Calls.mono (Text_nat qx nx cx 256 _ Xx.out.on1 (HT.out.keep (S3.out.new L3.out).bel)) ?_
  rintro e w4 ⟨rfl, hb⟩
  rw [hex256]
  have S4 := Lib.hid (S3.out.on1 L3.out hb)
  clear hb S3 L3 Xx e1 e2 e3 e4
  generalize w3.heap.size = b3 at *
  have hs1 : ((strB [49, 48, 48]).toList == [49, 48, 48]) = true := by rw [strB_toList]; rfl
  have hs2 : ((strB [49]).toList == [49]) = true := by rw [strB_toList]; rfl
  obtain ⟨qx, nx, cx, kx, xx⟩ := S4.out.box b2 1 (by simp)
  obtain ⟨_, e1, e2, e3, e4⟩ := One.of kx
  have Xx := Lib.hid xx
  clear kx xx
  go_wp2_with fail
  refine Calls.mono (Text_nat qx nx cx 1 _ Xx.out (HT.out.keep S4.out.bel)) ?_
  rintro e w5 ⟨rfl, hb⟩
  rw [hex1]
  have S5 := Lib.hid (S4.out.keep hb)
  clear hb S4 Xx e1 e2 e3 e4
  obtain ⟨qx, nx, cx, kx, xx⟩ := S5.out.box b3 1 (by simp)
  obtain ⟨_, e1, e2, e3, e4⟩ := One.of kx
  have Xx := Lib.hid xx
  clear kx xx
  go_wp2_with fail
  refine Calls.mono (Text_nat qx nx cx 1 _ Xx.out (HT.out.keep S5.out.bel)) ?_
  rintro e w6 ⟨rfl, hb⟩
  rw [hex1]
  have S6 := Lib.hid (S5.out.keep hb)
  clear hb S5 Xx e1 e2 e3 e4
  go_wp2
  go_ret
  exact ⟨rfl, S6.out.bel⟩
set_option maxRecDepth 100000 in
set_option maxHeartbeats 4000000 in
theorem OddsSums_any (x y : UInt8) (w : World) (hT : Tab w) : Calls Tryd.prog 4 #[B8 x, B8 y] w fun e w' => e = .returned (.bool true) ∧ Below w.heap.size w w' := by
  obtain ⟨n, hn⟩ : ∃ n : Nat, n = x.toNat % 11 := ⟨_, rfl⟩
  obtain ⟨k0, hk0⟩ : ∃ k : Nat, k = y.toNat % 10 := ⟨_, rfl⟩
  have hn' : ((x.toNat : Int) % 11) = (n : Int) := by omega
  have hk' : ((y.toNat : Int) % 10) = (k0 : Int) := by omega
  have hn10 : n ≤ 10 := by omega
  have hk9 : k0 ≤ 9 := by omega
  have HN := Lib.hid hn'; have HK := Lib.hid hk'; have HT := Lib.hid hT
  clear hn hk0 hn' hk' hT
  go_enter Tryd.func4, Tryd.ntmps4
  go_wp2_with fail
  refine Calls.mono (awake23 _ HT.out) ?_
  rintro e w1 ⟨rfl, hb⟩
  have B1 := Lib.hid hb
  clear hb HT
  have e1 := HN.out; have e2 := HK.out
  go_wp2
  clear e1 e2
  obtain ⟨k, hk⟩ : ∃ k, k = k0 + 1 := ⟨_, rfl⟩
  rw [show (k0 : Int) + 1 = (k : Int) by omega]
  have hk1 : 1 ≤ k := by omega
  have hk10 : k ≤ 10 := by omega
  have ba : Below w1.heap.size w1 ((w1.alloc (.cells #[.slice none 0 0] 29)).alloc (.cells #[.slice none 0 0] 29)) := ba2 _ _ _
  have XS0 : Hid (NBox 29 34 ((w1.alloc (.cells #[.slice none 0 0] 29)).alloc (.cells #[.slice none 0 0] 29)) w1.heap.size 0) := NBox.keep (NBox.new (Ws.zero _ _)) (ba1 _ _)
  have XF0 : Hid (NBox 29 34 ((w1.alloc (.cells #[.slice none 0 0] 29)).alloc (.cells #[.slice none 0 0] 29)) (w1.heap.size + 1) 0) := by
    have := NBox.new (T := 29) (w := w1.alloc (.cells #[.slice none 0 0] 29)) (Ws.zero 34 _)
    simpa [Hid] using this
  have BB0 : Hid (Bel w ((w1.alloc (.cells #[.slice none 0 0] 29)).alloc (.cells #[.slice none 0 0] 29))) := ⟨bl B1.out ba B1.out.size⟩
  have hbs : w.heap.size ≤ w1.heap.size := B1.out.size
  clear ba B1 hk HK HN hk9
  generalize (w1.alloc (.cells #[.slice none 0 0] 29)).alloc (.cells #[.slice none 0 0] 29) = w2 at *
  obtain ⟨bf, hbf⟩ : ∃ bf, bf = w1.heap.size + 1 := ⟨_, rfl⟩
  rw [← hbf] at XF0 ⊢
  generalize w1.heap.size = bs at *
  have hne1 : bs < bf := by omega
  clear hbf
  have HCN : Hid (∀ a b r, a ≤ 10 → b ≤ 10 → r ≤ b + 1 → sumF (cntR b a) r < capN) := fun a b r h1 h2 h3 => by
    refine Nat.lt_of_le_of_lt (sumF_mono (j := b + 1) h3) ?_
    rw [cnt_sum]
    have : a * b ≤ 10 * 10 := Nat.mul_le_mul h1 h2
    exact pow256 (by omega)
  go_loopw [33] (fun iv wr => ∃ r : Nat, r ≤ k + 1 ∧ iv = .int .i64 r ∧ Hid (Bel w wr) ∧ Hid (NBox 29 34 wr bs (sumF (cntR k n) r)) ∧ Hid (NBox 29 34 wr bf (sumF (cntR k n) (min r k)))) (fun iv _ => k + 1 - (intOf iv).toNat)
  case atStart => exact ⟨0, Nat.zero_le _, rfl, BB0.out, XS0.out, by rw [Nat.zero_min]; exact XF0.out⟩
  case round =>
    clear XS0 XF0 BB0
    obtain ⟨r, hr, rfl, hB, hS, hF⟩ := hrel
    by_cases hlt : r ≤ k
    · have hlt' : (r : Int) < (k : Int) + 1 := by omega
      have HL := Lib.hid hlt
      have SC : Hid (sumF (cntR k n) r + cntR k n r = sumF (cntR k n) (r + 1) ∧ sumF (cntR k n) (r + 1) < capN) := ⟨rfl, HCN.out n k (r + 1) hn10 hk10 (by omega)⟩
      clear hlt
      go_wp2_with fail
      refine Calls.mono (OfRank_any n k r (by omega) hk1 (by omega) HL.out _) ?_
      rintro e w4 ⟨q4, m4, d4, rfl, hw, hb⟩
      have B4 := Lib.hid (hB.out.keep hb); have S4 := Lib.hid (hS.out.keep hb); have F4 := Lib.hid (hF.out.keep hb); have L4 := Lib.hid hw
      clear hw hb hB hS hF
      obtain ⟨qs, ns, cs, os, Xs⟩ := S4.out.oneOf
      obtain ⟨_, e1, e2, e3, e4⟩ := os
      go_wp2_with fail
      refine Calls.mono (Add2_ok (Nsl.two (hnew (by simp)) Xs.out.on L4.out.on) (by have := SC.out; omega)) ?_
      rintro e w5 ⟨q5, m5, d5, rfl, hw, hb⟩
      have hbb : Below w4.heap.size w4 w5 := bl (ba2 w4 _ _) hb (ba2 w4 _ _).size
      have C5 : NBox 29 34 w5 w4.heap.size (cntR k n r) := ((NBox.new L4.out).keep (ba1 _ _)).keep hb
      have S5 := S4.out.keep hbb
      have F5 := F4.out.keep hbb
      obtain ⟨us, ks⟩ := S5.blk
      have hc4 : bf < w4.heap.size := F4.out.lt
      have G6 : Hid (Bel w (w5.setCell ⟨bs, 0, none⟩ (.slice q5 m5 d5)) ∧ NBox 29 34 (w5.setCell ⟨bs, 0, none⟩ (.slice q5 m5 d5)) bs (sumF (cntR k n) (r + 1)) ∧ NBox 29 34 (w5.setCell ⟨bs, 0, none⟩ (.slice q5 m5 d5)) bf (sumF (cntR k n) (min r k)) ∧ NBox 29 34 (w5.setCell ⟨bs, 0, none⟩ (.slice q5 m5 d5)) w4.heap.size (cntR k n r)) :=
        ⟨⟨(B4.out.keep hbb).out.setCell (by show w.heap.size ≤ bs; omega) _⟩, by rw [← SC.out.1]; exact S5.set hw (by decide), F5.other ks (by omega) (by decide), C5.other ks (by omega) (by decide)⟩
      obtain ⟨_, s1, s2, s3, s4⟩ := One.of ks
      clear hw hb hbb C5 S5 F5 ks e1 e2 e3 e4 Xs B4 S4 F4 L4
      obtain ⟨bc, hbc⟩ : ∃ bc, bc = w4.heap.size := ⟨_, rfl⟩
      rw [← hbc] at G6 hc4
      rw [← hbc]
      clear hbc
      by_cases hless : r < k
      · have hge : (r : Int) < (k : Int) := by omega
        have SD : Hid (sumF (cntR k n) (min r k) + cntR k n r = sumF (cntR k n) (min (r + 1) k)) := by
          show _ = _
          rw [show min r k = r by omega, show min (r + 1) k = r + 1 by omega]; rfl
        have SD2 : Hid (sumF (cntR k n) (min (r + 1) k) < capN) := HCN.out n k _ hn10 hk10 (by omega)
        obtain ⟨qs, ns, cs, os, Xs⟩ := G6.out.2.2.1.oneOf
        obtain ⟨_, e1, e2, e3, e4⟩ := os
        obtain ⟨qc, nc, cc, oc, Xc⟩ := G6.out.2.2.2.oneOf
        obtain ⟨_, f1, f2, f3, f4⟩ := oc
        go_wp2_with fail
        refine Calls.mono (Add2_ok (Nsl.two (hnew (by simp)) Xs.out.on1 Xc.out.on1) (by have := SD.out; have := SD2.out; omega)) ?_
        rintro e w7 ⟨q7, m7, d7, rfl, hw, hb⟩
        have hbb := bl (ba1 (w5.setCell ⟨bs, 0, none⟩ (.slice q5 m5 d5)) _) hb (ba1 (w5.setCell ⟨bs, 0, none⟩ (.slice q5 m5 d5)) _).size
        have S7 := G6.out.2.1.keep hbb; have F7 := G6.out.2.2.1.keep hbb; have C7 := G6.out.2.2.2.keep hbb
        obtain ⟨us2, kf⟩ := F7.blk
        have G7 : Hid (Bel w (w7.setCell ⟨bf, 0, none⟩ (.slice q7 m7 d7)) ∧ NBox 29 34 (w7.setCell ⟨bf, 0, none⟩ (.slice q7 m7 d7)) bs (sumF (cntR k n) (r + 1)) ∧ NBox 29 34 (w7.setCell ⟨bf, 0, none⟩ (.slice q7 m7 d7)) bf (sumF (cntR k n) (min (r + 1) k)) ∧ NBox 29 34 (w7.setCell ⟨bf, 0, none⟩ (.slice q7 m7 d7)) bc (cntR k n r)) :=
          ⟨⟨(G6.out.1.keep hbb).out.setCell (by show w.heap.size ≤ bf; omega) _⟩, S7.other kf (by omega) (by decide), by rw [← SD.out]; exact F7.set hw (by decide), C7.other kf (by omega) (by decide)⟩
        obtain ⟨_, t1, t2, t3, t4⟩ := One.of kf
        clear hw hb hbb S7 F7 C7 kf G6 Xs Xc e1 e2 e3 e4 f1 f2 f3 f4 s1 s2 s3 s4 SD SD2
        clear hless
        by_cases hn0 : n = 0
        · have hnz : ((n : Int) == 0) = true := by simp; omega
          clear hn0
          go_wp2
          go_roundw
          case rel =>
            have REL : ∃ r' : Nat, r' ≤ k + 1 ∧ (Value.int .i64 ((r : Int) + 1)) = .int .i64 r' ∧ Hid (Bel w (w7.setCell ⟨bf, 0, none⟩ (.slice q7 m7 d7))) ∧ Hid (NBox 29 34 (w7.setCell ⟨bf, 0, none⟩ (.slice q7 m7 d7)) bs (sumF (cntR k n) r')) ∧ Hid (NBox 29 34 (w7.setCell ⟨bf, 0, none⟩ (.slice q7 m7 d7)) bf (sumF (cntR k n) (min r' k))) := ⟨r + 1, by have := HL.out; omega, by go_num, G7.out.1, G7.out.2.1, G7.out.2.2.1⟩
            first
              | exact REL
              | (repeat apply Exists.intro); exact ⟨REL, rfl⟩
          case measure => simp [intOf]; have := HL.out; omega
        · obtain ⟨p, hp⟩ : ∃ p, n = p + 1 := ⟨n - 1, by omega⟩
          have hnz : ((n : Int) == 0) = false := by simp; omega
          have hnz2 : ¬ (n : Int) = 0 := by omega
          have hp10 : p ≤ 9 := by omega
          have HP := Lib.hid hp
          clear hp hn0
          go_wp2_with fail
          rw [show (n : Int) - 1 = (p : Int) by have := HP.out; omega]
          refine Calls.mono (OfRank_any p k r (by omega) hk1 (by omega) HL.out _) ?_
          rintro e w8 ⟨q8, m8, d8, rfl, hw, hb⟩
          have G8 : Hid (Bel w w8 ∧ NBox 29 34 w8 bs (sumF (cntR k n) (r + 1)) ∧ NBox 29 34 w8 bf (sumF (cntR k n) (min (r + 1) k)) ∧ NBox 29 34 w8 bc (cntR k n r)) := ⟨G7.out.1.keep hb, G7.out.2.1.keep hb, G7.out.2.2.1.keep hb, G7.out.2.2.2.keep hb⟩
          have L8 := Lib.hid hw
          clear hw hb G7 hnz hnz2
          go_wp2_with fail
          refine Calls.mono (Spare_any r (by have := HL.out; omega) _) ?_
          rintro e w9 ⟨q9, m9, d9, rfl, hw, hb⟩
          have hbb : Below w8.heap.size w8 w9 := bl (ba1 w8 _) hb (ba1 w8 _).size
          have G9 : Hid (Bel w w9 ∧ NBox 29 34 w9 bs (sumF (cntR k n) (r + 1)) ∧ NBox 29 34 w9 bf (sumF (cntR k n) (min (r + 1) k)) ∧ NBox 29 34 w9 bc (cntR k n r)) := ⟨G8.out.1.keep hbb, G8.out.2.1.keep hbb, G8.out.2.2.1.keep hbb, G8.out.2.2.2.keep hbb⟩
          have W9 : Hid (NBox 29 34 w9 w8.heap.size (cntR k p r)) := (NBox.new L8.out).keep hb
          have L9 := Lib.hid hw
          clear hw hb hbb G8 L8
          generalize w8.heap.size = bw at *
          have HM : Hid (cntR k p r < capN ∧ cntR k p r * 256 ^ r < capN ∧ cntR k p r * 256 ^ r ≤ cntR k n r) := by
            have h1 := cnt_stay k p r
            have hl := HL.out
            rw [← HP.out] at h1
            exact ⟨cnt_cap (by omega) (by omega) hl, Nat.lt_of_le_of_lt h1 (cnt_cap (by omega) (by omega) hl), h1⟩
          obtain ⟨qs, ns, cs, os, Xs⟩ := W9.out.oneOf
          obtain ⟨_, e1, e2, e3, e4⟩ := os
          go_wp2_with fail
          refine Calls.mono (Mul2_ok (Nsl.two (hnew (by simp)) Xs.out.on L9.out.on) HM.out.1 HM.out.2.1) ?_
          rintro e wa ⟨qa, ma, da, rfl, hw, hb⟩
          have hbb : Below w9.heap.size w9 wa := bl (ba2 w9 _ _) hb (ba2 w9 _ _).size
          have Ga : Hid (Bel w wa ∧ NBox 29 34 wa bs (sumF (cntR k n) (r + 1)) ∧ NBox 29 34 wa bf (sumF (cntR k n) (min (r + 1) k)) ∧ NBox 29 34 wa bc (cntR k n r)) := ⟨G9.out.1.keep hbb, G9.out.2.1.keep hbb, G9.out.2.2.1.keep hbb, G9.out.2.2.2.keep hbb⟩
          have La := Lib.hid hw
          clear hw hb hbb G9 W9 L9 Xs e1 e2 e3 e4
          obtain ⟨qc, nc, cc, oc, Xc⟩ := Ga.out.2.2.2.oneOf
          obtain ⟨_, f1, f2, f3, f4⟩ := oc
          go_wp2_with fail
          refine Calls.mono (Cmp_any _ _ _ _ _ _ (cntR k p r * 256 ^ r) (cntR k n r) _ La.out.on1 Xc.out.on1) ?_
          rintro e wb ⟨rfl, hb⟩
          have hbb : Below wa.heap.size wa wb := bl (ba1 wa _) hb (ba1 wa _).size
          have Gb : Hid (Bel w wb ∧ NBox 29 34 wb bs (sumF (cntR k n) (r + 1)) ∧ NBox 29 34 wb bf (sumF (cntR k n) (min (r + 1) k))) := ⟨Ga.out.1.keep hbb, Ga.out.2.1.keep hbb, Ga.out.2.2.1.keep hbb⟩
          have hcm : cmpN (cntR k p r * 256 ^ r) (cntR k n r) ≤ 0 := by
            rcases Nat.lt_or_ge (cntR k p r * 256 ^ r) (cntR k n r) with h | h
            · rw [cmpN_lt h]; decide
            · rw [cmpN_eq (Nat.le_antisymm HM.out.2.2 h)]; decide
          generalize cmpN (cntR k p r * 256 ^ r) (cntR k n r) = cm at *
          clear hb hbb Ga La Xc f1 f2 f3 f4 HM
          go_wp2
          go_roundw
          case rel => exact ⟨r + 1, by have := HL.out; omega, by go_num, Gb.out.1, Gb.out.2.1, Gb.out.2.2⟩
          case measure => simp [intOf]; have := HL.out; omega
      · have hrk : r = k := by have := HL.out; omega
        have hge : ¬ (r : Int) < (k : Int) := by omega
        have hge2 : (k : Int) ≤ (r : Int) := by omega
        have HRK := Lib.hid hrk
        clear hrk
        have G7 : Hid (Bel w (w5.setCell ⟨bs, 0, none⟩ (.slice q5 m5 d5)) ∧ NBox 29 34 (w5.setCell ⟨bs, 0, none⟩ (.slice q5 m5 d5)) bs (sumF (cntR k n) (r + 1)) ∧ NBox 29 34 (w5.setCell ⟨bs, 0, none⟩ (.slice q5 m5 d5)) bf (sumF (cntR k n) (min (r + 1) k)) ∧ NBox 29 34 (w5.setCell ⟨bs, 0, none⟩ (.slice q5 m5 d5)) bc (cntR k n r)) := by
          have := G6.out
          rwa [show min r k = min (r + 1) k by have := HRK.out; omega] at this
        clear G6
        clear hless
        by_cases hn0 : n = 0
        · have hnz : ((n : Int) == 0) = true := by simp; omega
          clear hn0
          go_wp2
          go_roundw
          case rel =>
            have REL : ∃ r' : Nat, r' ≤ k + 1 ∧ (Value.int .i64 ((r : Int) + 1)) = .int .i64 r' ∧ Hid (Bel w (w5.setCell ⟨bs, 0, none⟩ (.slice q5 m5 d5))) ∧ Hid (NBox 29 34 (w5.setCell ⟨bs, 0, none⟩ (.slice q5 m5 d5)) bs (sumF (cntR k n) r')) ∧ Hid (NBox 29 34 (w5.setCell ⟨bs, 0, none⟩ (.slice q5 m5 d5)) bf (sumF (cntR k n) (min r' k))) := ⟨r + 1, by have := HL.out; omega, by go_num, G7.out.1, G7.out.2.1, G7.out.2.2.1⟩
            first
              | exact REL
              | (repeat apply Exists.intro); exact ⟨REL, rfl⟩
          case measure => simp [intOf]; have := HL.out; omega
        · obtain ⟨p, hp⟩ : ∃ p, n = p + 1 := ⟨n - 1, by omega⟩
          have hnz : ((n : Int) == 0) = false := by simp; omega
          have hnz2 : ¬ (n : Int) = 0 := by omega
          have hp10 : p ≤ 9 := by omega
          have HP := Lib.hid hp
          clear hp hn0
          go_wp2_with fail
          rw [show (n : Int) - 1 = (p : Int) by have := HP.out; omega]
          refine Calls.mono (OfRank_any p k r (by omega) hk1 (by omega) HL.out _) ?_
          rintro e w8 ⟨q8, m8, d8, rfl, hw, hb⟩
          have G8 : Hid (Bel w w8 ∧ NBox 29 34 w8 bs (sumF (cntR k n) (r + 1)) ∧ NBox 29 34 w8 bf (sumF (cntR k n) (min (r + 1) k)) ∧ NBox 29 34 w8 bc (cntR k n r)) := ⟨G7.out.1.keep hb, G7.out.2.1.keep hb, G7.out.2.2.1.keep hb, G7.out.2.2.2.keep hb⟩
          have L8 := Lib.hid hw
          clear hw hb G7 hnz hnz2
          go_wp2_with fail
          refine Calls.mono (Spare_any r (by have := HL.out; omega) _) ?_
          rintro e w9 ⟨q9, m9, d9, rfl, hw, hb⟩
          have hbb : Below w8.heap.size w8 w9 := bl (ba1 w8 _) hb (ba1 w8 _).size
          have G9 : Hid (Bel w w9 ∧ NBox 29 34 w9 bs (sumF (cntR k n) (r + 1)) ∧ NBox 29 34 w9 bf (sumF (cntR k n) (min (r + 1) k)) ∧ NBox 29 34 w9 bc (cntR k n r)) := ⟨G8.out.1.keep hbb, G8.out.2.1.keep hbb, G8.out.2.2.1.keep hbb, G8.out.2.2.2.keep hbb⟩
          have W9 : Hid (NBox 29 34 w9 w8.heap.size (cntR k p r)) := (NBox.new L8.out).keep hb
          have L9 := Lib.hid hw
          clear hw hb hbb G8 L8
          generalize w8.heap.size = bw at *
          have HM : Hid (cntR k p r < capN ∧ cntR k p r * 256 ^ r < capN ∧ cntR k p r * 256 ^ r ≤ cntR k n r) := by
            have h1 := cnt_stay k p r
            have hl := HL.out
            rw [← HP.out] at h1
            exact ⟨cnt_cap (by omega) (by omega) hl, Nat.lt_of_le_of_lt h1 (cnt_cap (by omega) (by omega) hl), h1⟩
          obtain ⟨qs, ns, cs, os, Xs⟩ := W9.out.oneOf
          obtain ⟨_, e1, e2, e3, e4⟩ := os
          go_wp2_with fail
          refine Calls.mono (Mul2_ok (Nsl.two (hnew (by simp)) Xs.out.on L9.out.on) HM.out.1 HM.out.2.1) ?_
          rintro e wa ⟨qa, ma, da, rfl, hw, hb⟩
          have hbb : Below w9.heap.size w9 wa := bl (ba2 w9 _ _) hb (ba2 w9 _ _).size
          have Ga : Hid (Bel w wa ∧ NBox 29 34 wa bs (sumF (cntR k n) (r + 1)) ∧ NBox 29 34 wa bf (sumF (cntR k n) (min (r + 1) k)) ∧ NBox 29 34 wa bc (cntR k n r)) := ⟨G9.out.1.keep hbb, G9.out.2.1.keep hbb, G9.out.2.2.1.keep hbb, G9.out.2.2.2.keep hbb⟩
          have La := Lib.hid hw
          clear hw hb hbb G9 W9 L9 Xs e1 e2 e3 e4
          obtain ⟨qc, nc, cc, oc, Xc⟩ := Ga.out.2.2.2.oneOf
          obtain ⟨_, f1, f2, f3, f4⟩ := oc
          go_wp2_with fail
          refine Calls.mono (Cmp_any _ _ _ _ _ _ (cntR k p r * 256 ^ r) (cntR k n r) _ La.out.on1 Xc.out.on1) ?_
          rintro e wb ⟨rfl, hb⟩
          have hbb : Below wa.heap.size wa wb := bl (ba1 wa _) hb (ba1 wa _).size
          have Gb : Hid (Bel w wb ∧ NBox 29 34 wb bs (sumF (cntR k n) (r + 1)) ∧ NBox 29 34 wb bf (sumF (cntR k n) (min (r + 1) k))) := ⟨Ga.out.1.keep hbb, Ga.out.2.1.keep hbb, Ga.out.2.2.1.keep hbb⟩
          have hcm : cmpN (cntR k p r * 256 ^ r) (cntR k n r) ≤ 0 := by
            rcases Nat.lt_or_ge (cntR k p r * 256 ^ r) (cntR k n r) with h | h
            · rw [cmpN_lt h]; decide
            · rw [cmpN_eq (Nat.le_antisymm HM.out.2.2 h)]; decide
          generalize cmpN (cntR k p r * 256 ^ r) (cntR k n r) = cm at *
          clear hb hbb Ga La Xc f1 f2 f3 f4 HM
          go_wp2
          go_roundw
          case rel => exact ⟨r + 1, by have := HL.out; omega, by go_num, Gb.out.1, Gb.out.2.1, Gb.out.2.2⟩
          case measure => simp [intOf]; have := HL.out; omega
    · obtain rfl : r = k + 1 := by omega
      have HS1 : Hid (sumF (cntR k n) (k + 1) = 256 ^ (n * k)) := cnt_sum k n
      have HS2 : Hid (sumF (cntR k n) (min (k + 1) k) = 256 ^ (n * k) - fullC n k) := by
        show _ = _
        rw [Nat.min_eq_right (by omega), cnt_fails]; rfl
      go_wp2_with fail
      refine Calls.mono (All_any n k (by omega) hk1 (by omega) _) ?_
      rintro e w4 ⟨q4, m4, d4, rfl, hw, hb⟩
      have B4 := Lib.hid (hB.out.keep hb); have S4 := Lib.hid (hS.out.keep hb); have F4 := Lib.hid (hF.out.keep hb); have L4 := Lib.hid hw
      clear hw hb hB hS hF hlt
      go_wp2_with fail
      refine Calls.mono (Fails_any n k (by omega) hk1 (by omega) _) ?_
      rintro e w5 ⟨q5, m5, d5, rfl, hw, hb⟩
      have hbb : Below w4.heap.size w4 w5 := bl (ba1 w4 _) hb (ba1 w4 _).size
      have A5 : Hid (NBox 29 34 w5 w4.heap.size (256 ^ (n * k))) := (NBox.new L4.out).keep hb
      have B5 := Lib.hid (B4.out.keep hbb); have S5 := Lib.hid (S4.out.keep hbb); have F5 := Lib.hid (F4.out.keep hbb); have L5 := Lib.hid hw
      clear hw hb hbb B4 S4 F4 L4
      generalize w4.heap.size = ba at *
      obtain ⟨qs, ns, cs, os, Xs⟩ := S5.out.oneOf
      obtain ⟨_, e1, e2, e3, e4⟩ := os
      obtain ⟨qa, na, ca, oa, Xa⟩ := A5.out.oneOf
      obtain ⟨_, f1, f2, f3, f4⟩ := oa
      go_wp2_with fail
      refine Calls.mono (Cmp_same Xs.out.on1 Xa.out.on1 HS1.out) ?_
      rintro e w6 ⟨rfl, hb⟩
      have hbb : Below w5.heap.size w5 w6 := bl (ba1 w5 _) hb (ba1 w5 _).size
      have G6 : Hid (NBox 29 34 w6 w5.heap.size (256 ^ (n * k) - fullC n k)) := (NBox.new L5.out).keep hb
      have B6 := Lib.hid (B5.out.keep hbb); have F6 := Lib.hid (F5.out.keep hbb)
      clear hb hbb B5 S5 F5 L5 A5 e1 e2 e3 e4 f1 f2 f3 f4 Xs Xa
      generalize w5.heap.size = bg at *
      obtain ⟨qs, ns, cs, os, Xs⟩ := F6.out.oneOf
      obtain ⟨_, e1, e2, e3, e4⟩ := os
      obtain ⟨qa, na, ca, oa, Xa⟩ := G6.out.oneOf
      obtain ⟨_, f1, f2, f3, f4⟩ := oa
      go_wp2_with fail
      refine Calls.mono (Cmp_same Xs.out Xa.out HS2.out) ?_
      rintro e w7 ⟨rfl, hb⟩
      have B7 := Lib.hid (B6.out.keep hb)
      clear hb B6 F6 G6 e1 e2 e3 e4 f1 f2 f3 f4 Xs Xa
      go_wp2
      go_ret
      exact ⟨rfl, B7.out.out⟩
end Go.Proofs.YtbfmdfbnhakolaaDoor
