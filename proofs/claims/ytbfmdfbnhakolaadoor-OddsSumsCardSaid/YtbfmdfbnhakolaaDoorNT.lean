/- The laws' small parts on numbers: To, Is, awake. -/
import Derived.Test.YtbfmdfbnhakolaaDoorNS
import Derived.Test.YtbfmdfbnhakolaaDoorNN
namespace Go.By
open Go.RowKit
theorem hexText_bound (xs : List UInt8) : (hexText (valB xs)).length ≤ 2 * xs.length + 1 := by
  refine tLen ?_
  have := valB_lt xs
  rwa [show (256 : Nat) = 16 ^ 2 from rfl, ← Nat.pow_mul] at this
theorem strB_toList (l : List UInt8) : (strB l).toList = l := by rw [ByteArray.toList_eq, strB_data]
theorem strB_beq (a b : List UInt8) : ((strB a).toList == (strB b).toList) = decide (a = b) := by
  rw [strB_toList, strB_toList]
  by_cases h : a = b
  · subst h; simp
  · rw [decide_eq_false h]; simpa using h
theorem hex_beq (M N : Nat) : ((strB (hexText M)).toList == (strB (hexText N)).toList) = decide (M = N) := by
  rw [strB_beq]
  by_cases h : M = N
  · rw [h]; simp
  · rw [decide_eq_false h, decide_eq_false (fun e => h (hexText_inj e))]
theorem hex255 : hexText 255 = [102, 102] := by
  rw [hexText_big (by decide), show 255 / 16 = 15 from rfl, hexText_small (by decide)]; rfl
theorem hex65025 : hexText 65025 = [102, 101, 48, 49] := by
  rw [hexText_big (by decide), show 65025 / 16 = 4064 from rfl, hexText_big (by decide), show 4064 / 16 = 254 from rfl, hexText_big (by decide), show 254 / 16 = 15 from rfl, hexText_small (by decide)]; rfl
theorem bytesN_len_le (xs : List UInt8) : (bytesN (valB xs)).length ≤ xs.length := by
  rw [bytesN_len]
  exact (lowD_pad (b := 256) (by decide) xs.length (valB xs) (valB_lt xs)).2
end Go.By
namespace Go.Proofs.YtbfmdfbnhakolaaDoor
open Go.RowKit Go.By
set_option maxRecDepth 100000 in
set_option maxHeartbeats 1000000 in
theorem Is_any (p q : Option Addr) (m d n c N : Nat) (xs : List UInt8) (w : World) (hN : Ws 34 w p m d N) (h : Sl B8 w q n c xs) (hn : n ≤ 100000) (hT : Tab w) :
    Calls Tryd.prog 24 #[.agg #[.slice p m d], .slice q n c] w fun e w' => e = .returned (.bool (decide (N = valB xs))) ∧ Below w.heap.size w w' := by
  have hl := h.len
  have hA : ∀ o, Below w.heap.size w (w.alloc o) := fun o => al (Below.refl _ _) (Nat.le_refl _)
  have HA := Lib.hid hA
  have H := Lib.hid h
  have HN := Lib.hid hN
  have HT := Lib.hid hT
  clear h hA hN hT
  go_enter Tryd.func24, Tryd.ntmps24
  go_wp2_with fail
  refine Calls.mono (Text_nat p m d N _ (HN.out.keep (HA.out _)) (HT.out.keep (HA.out _))) ?_
  rintro e w1 ⟨rfl, hb1⟩
  have HB1 := Lib.hid (bl (HA.out _) hb1 (by simp))
  clear hb1
  go_wp2_with fail
  refine Calls.mono (Trim_ref q n c xs w1 (H.out.keep HB1.out)) ?_
  rintro e w2 ⟨q1, n1, c1, rfl, hs1, rfl⟩
  have hn1 : n1 ≤ n := by rw [← hs1.len, ← hl]; exact bytesN_len_le xs
  have HS1 := Lib.hid hs1
  clear hs1
  go_wp2_with fail
  refine Calls.mono (Text_ref q1 n1 c1 _ _ HS1.out (by omega)) ?_
  rintro e w3 ⟨rfl, hb3⟩
  rw [valB_bytesN]
  have HB3 := Lib.hid (HB1.out.trans (hb3.mono HB1.out.size))
  have HE := Lib.hid (hex_beq N (valB xs))
  clear hb3
  go_wp2
  go_ret
  exact ⟨by rw [← HE.out]; rfl, HB3.out⟩
end Go.Proofs.YtbfmdfbnhakolaaDoor
