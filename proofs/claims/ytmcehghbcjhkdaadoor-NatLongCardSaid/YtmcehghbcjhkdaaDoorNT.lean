/- The laws' small parts on numbers: To, Is, awake. -/
import Derived.Test.YtmcehghbcjhkdaaDoorNS
import Derived.Test.YtmcehghbcjhkdaaDoorNN
namespace Go.By
open Go.RowKit
theorem hexText_bound (xs : List UInt8) : (hexText (valB xs)).length ≤ 2 * xs.length + 1 := by
  refine tLen ?_
  have := valB_lt xs
  rwa [show (256 : Nat) = 16 ^ 2 from rfl, ← Nat.pow_mul] at this
theorem strB_toList (l : List UInt8) : (strB l).toList = l := by rw [ByteArray.toList_eq, strB_data]
theorem strB_beq (a b : List UInt8) : ((strB a).toList == (strB b).toList) = decide (a = b) := by
  rw [strB_toList, strB_toList]
  by_cases h : a = b
  · subst h; simp
  · rw [decide_eq_false h]; simpa using h
theorem hex_beq (M N : Nat) : ((strB (hexText M)).toList == (strB (hexText N)).toList) = decide (M = N) := by
  rw [strB_beq]
  by_cases h : M = N
  · rw [h]; simp
  · rw [decide_eq_false h, decide_eq_false (fun e => h (hexText_inj e))]
theorem hex255 : hexText 255 = [102, 102] := by
  rw [hexText_big (by decide), show 255 / 16 = 15 from rfl, hexText_small (by decide)]; rfl
theorem hex65025 : hexText 65025 = [102, 101, 48, 49] := by
  rw [hexText_big (by decide), show 65025 / 16 = 4064 from rfl, hexText_big (by decide), show 4064 / 16 = 254 from rfl, hexText_big (by decide), show 254 / 16 = 15 from rfl, hexText_small (by decide)]; rfl
theorem bytesN_len_le (xs : List UInt8) : (bytesN (valB xs)).length ≤ xs.length := by
  rw [bytesN_len]
  exact (lowD_pad (b := 256) (by decide) xs.length (valB xs) (valB_lt xs)).2
end Go.By
namespace Go.Proofs.YtmcehghbcjhkdaaDoor
open Go.RowKit Go.By
set_option maxRecDepth 100000 in
set_option maxHeartbeats 1000000 in
theorem To_any (q : Option Addr) (n c : Nat) (xs : List UInt8) (w : World) (h : Sl B8 w q n c xs) (hn : n ≤ 4000) :
    Calls Tryd.prog 16 #[.slice q n c] w (RetN1 28 w (valB xs)) := by
  have hinfo := info_nat
  have hl := h.len
  have hA : ∀ o, Below w.heap.size w (w.alloc o) := fun o => al (Below.refl _ _) (Nat.le_refl _)
  have HA := Lib.hid hA
  have H := Lib.hid h
  clear h hA
  go_enter Tryd.func16, Tryd.ntmps16
  go_wp2_with fail
  refine Calls.mono (Trim_ref q n c xs _ (H.out.keep (HA.out _))) ?_
  rintro e w1 ⟨q1, n1, c1, rfl, hs1, rfl⟩
  have hn1 : n1 ≤ n := by rw [← hs1.len, ← hl]; exact bytesN_len_le xs
  have HS1 := Lib.hid hs1
  clear hs1
  go_wp2_with fail
  refine Calls.mono (Text_ref q1 n1 c1 _ _ HS1.out (by omega)) ?_
  rintro e w2 ⟨rfl, hb2⟩
  rw [valB_bytesN]
  have hb2' : Below w.heap.size w w2 := bl (HA.out _) hb2 (by simp)
  have k2 : w2.heap[w.heap.size]? = some (.cells #[.slice none 0 0] 24 (0, 0)) := (hb2.block _ (by simp)).trans (hnew rfl)
  have HB2 := Lib.hid hb2'
  have K2 := Lib.hid k2
  clear hb2 hb2' k2
  go_wp2_with fail
  refine Calls.mono (Parse_any (hexText (valB xs)) (by have := hexText_bound xs; omega) w2) ?_
  rintro e w3 hr
  rcases hr with ⟨_, hr⟩ | ⟨h0, _⟩
  · obtain ⟨q3, n3, c3, rfl, hw3, hb3⟩ := hr
    rw [valT_hexText] at hw3
    have k3 : w3.heap[w.heap.size]? = some (.cells #[.slice none 0 0] 24 (0, 0)) := (hb3.block _ (blk_lt K2.out)).trans K2.out
    have HO : Hid (∀ o, (w3.alloc o).heap[w.heap.size]? = some (.cells #[.slice none 0 0] 24 (0, 0))) := fun o => hal k3
    obtain ⟨_, a1, a2, a3, a4⟩ := One.of k3
    have hsz2 := HB2.out.size
    have F : Hid (∀ o v, Ws 28 ((w3.alloc o).setCell ⟨w.heap.size, 0, none⟩ v) q3 n3 c3 (valB xs) ∧ Below w.heap.size w ((w3.alloc o).setCell ⟨w.heap.size, 0, none⟩ v)) := fun o v =>
      ⟨(hw3.keep (al (Below.refl _ _) (Nat.le_refl _))).set (HO.out o) (by decide), (al (HB2.out.trans (hb3.mono hsz2)) (by have := hb3.size; omega)).setCell (Nat.le_refl _) _⟩
    clear hw3 hb3 k3
    go_wp2
    exact bodyPost_ret (results_cell_row rfl _ _ _ 24 #[.slice q3 n3 c3] (0, 0) _ rfl (hss (HO.out _)) Tryd.underlying24 rfl hinfo) rfl ⟨_, _, _, rfl, (F.out _ _).1, (F.out _ _).2⟩
  · rw [goodT_hexText] at h0; cases h0
set_option maxRecDepth 100000 in
set_option maxHeartbeats 1000000 in
theorem Is_any (p q : Option Addr) (m d n c N : Nat) (xs : List UInt8) (w : World) (hN : Ws 28 w p m d N) (h : Sl B8 w q n c xs) (hn : n ≤ 100000) (hT : Tab w) :
    Calls Tryd.prog 20 #[.agg #[.slice p m d], .slice q n c] w fun e w' => e = .returned (.bool (decide (N = valB xs))) ∧ Below w.heap.size w w' := by
  have hl := h.len
  have hA : ∀ o, Below w.heap.size w (w.alloc o) := fun o => al (Below.refl _ _) (Nat.le_refl _)
  have HA := Lib.hid hA
  have H := Lib.hid h
  have HN := Lib.hid hN
  have HT := Lib.hid hT
  clear h hA hN hT
  go_enter Tryd.func20, Tryd.ntmps20
  go_wp2_with fail
  refine Calls.mono (Text_nat p m d N _ (HN.out.keep (HA.out _)) (HT.out.keep (HA.out _))) ?_
  rintro e w1 ⟨rfl, hb1⟩
  have HB1 := Lib.hid (bl (HA.out _) hb1 (by simp))
  clear hb1
  go_wp2_with fail
  refine Calls.mono (Trim_ref q n c xs w1 (H.out.keep HB1.out)) ?_
  rintro e w2 ⟨q1, n1, c1, rfl, hs1, rfl⟩
  have hn1 : n1 ≤ n := by rw [← hs1.len, ← hl]; exact bytesN_len_le xs
  have HS1 := Lib.hid hs1
  clear hs1
  go_wp2_with fail
  refine Calls.mono (Text_ref q1 n1 c1 _ _ HS1.out (by omega)) ?_
  rintro e w3 ⟨rfl, hb3⟩
  rw [valB_bytesN]
  have HB3 := Lib.hid (HB1.out.trans (hb3.mono HB1.out.size))
  have HE := Lib.hid (hex_beq N (valB xs))
  clear hb3
  go_wp2
  go_ret
  exact ⟨by rw [← HE.out]; rfl, HB3.out⟩
set_option maxRecDepth 100000 in
set_option maxHeartbeats 1000000 in
theorem awake_nat (w : World) (hT : Tab w) : Calls Tryd.prog 11 #[] w fun e w' => e = .returned (.bool true) ∧ Below w.heap.size w w' := by
  have O255 : ∀ W, Calls Tryd.prog 7 #[.int .u64 255] W (RetN1 28 W 255) := fun W => Of_any 255 W
  have HO := Lib.hid O255
  have HT := Lib.hid hT
  clear O255 hT
  go_enter Tryd.func11, Tryd.ntmps11
  go_wp2_with fail
  refine Calls.mono (HO.out _) ?_
  rintro e w1 ⟨q1, n1, c1, rfl, hw1, hb1⟩
  have HW1 := Lib.hid hw1; have HB1 := Lib.hid hb1
  clear hw1 hb1
  go_wp2_with fail
  refine Calls.mono (HO.out _) ?_
  rintro e w2 ⟨q2, n2, c2, rfl, hw2, hb2⟩
  have HW2 := Lib.hid hw2
  have HW1' := Lib.hid (HW1.out.keep hb2)
  have HB2 := Lib.hid (HB1.out.trans (hb2.mono HB1.out.size))
  clear hw2 hb2 HW1 HB1
  go_wp2_with fail
  refine Calls.mono (Mul_nat _ _ _ _ _ (Nsl.two (hnew rfl) (HW1'.out.keep (al (Below.refl _ _) (Nat.le_refl _))) (HW2.out.keep (al (Below.refl _ _) (Nat.le_refl _))))) ?_
  rintro e w3 hr
  have hr2 := (hr.two (small_cap 255)).ok (small_cap 65025)
  obtain ⟨q3, n3, c3, rfl, hw3, hb3⟩ := hr2
  have HW3 : Hid (Ws 28 w3 q3 n3 c3 65025) := hw3
  have HB3 := Lib.hid (HB2.out.trans ((al (Below.refl _ _) (Nat.le_refl _)).trans (hb3.mono (by simp)) |>.mono HB2.out.size))
  clear hr hw3 hb3 HB2 HW1' HW2
  go_wp2_with fail
  refine Calls.mono (Text_nat q3 n3 c3 65025 _ (HW3.out.keep (al (Below.refl _ _) (Nat.le_refl _))) ((HT.out.keep HB3.out).keep (al (Below.refl _ _) (Nat.le_refl _)))) ?_
  rintro e w4 ⟨rfl, hb4⟩
  rw [hex65025]
  have HB4 := Lib.hid (HB3.out.trans ((al (Below.refl _ _) (Nat.le_refl _)).trans (hb4.mono (by simp)) |>.mono HB3.out.size))
  clear hb4 HB3 HW3
  have hs1 : ((strB [102, 101, 48, 49]).toList == [102, 101, 48, 49]) = true := by rw [strB_toList]; rfl
  go_wp2_with fail
  refine Calls.mono (HO.out _) ?_
  rintro e w5 ⟨q5, n5, c5, rfl, hw5, hb5⟩
  have HW5 := Lib.hid hw5
  have HB5 := Lib.hid (HB4.out.trans (hb5.mono HB4.out.size))
  clear hw5 hb5 HB4 hs1
  go_wp2_with fail
  refine Calls.mono (Text_nat q5 n5 c5 255 _ HW5.out (HT.out.keep HB5.out)) ?_
  rintro e w6 ⟨rfl, hb6⟩
  rw [hex255]
  have HB6 := Lib.hid (HB5.out.trans (hb6.mono HB5.out.size))
  clear hb6 HB5
  have hs2 : ((strB [102, 102]).toList == [102, 102]) = true := by rw [strB_toList]; rfl
  go_wp2
  go_ret
  exact ⟨rfl, HB6.out⟩
end Go.Proofs.YtmcehghbcjhkdaaDoor
