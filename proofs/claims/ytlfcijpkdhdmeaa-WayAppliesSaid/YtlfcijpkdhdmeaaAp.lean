/- The contract of the reference's Step of layer 20, whole; of slices.Equal at ints; the walk of the law WayApplies. -/
import Derived.Test.YtlfcijpkdhdmeaaAn
import Derived.Test.YtlfcijpkdhdmeaaAo
import Derived.Test.YtlfcijpkdhdmeaaAg
import Derived.Test.YtlfcijpkdhdmeaaAh
import Derived.BigQuiet
namespace Go.Proofs.Ytlfcijpkdhdmeaa
open Go.RowKit Go.By
theorem Step_any (p1 p2 q : Option Addr) (c1 c2 m c' : Nat) (a : ActD) (PS : List Pack) (w : World) (h1 : Sl2 w p1 PS.length c1 (PS.map (·.1))) (h2 : Sl I64 w p2 PS.length c2 (PS.map (·.2))) (hs : Sl B8 w q m c' a.bs) (hn : PS.length < 4096) (hr : ∀ p, p ∈ PS → Room p.1.length)
    (bi : a.i ≤ 9223372036854775807) (bj : a.j ≤ 9223372036854775807) (bb : a.b < 4294967296) :
    Calls Try.prog 21 #[.slice p1 PS.length c1, .slice p2 PS.length c2, .agg #[.int .i64 a.d, .int .i64 a.i, .int .i64 a.j, .int .u32 a.b, .slice q m c']] w (RetSt w (stepS PS a)) := by
  obtain ⟨d, i, j, b, bs⟩ := a
  simp only at hs bi bj bb ⊢
  have skip : stepS PS ⟨d, i, j, b, bs⟩ = PS → (j < 0 ∨ (d ≠ 5 ∧ (i < 0 ∨ (PS.length : Int) ≤ i)) ∨ (0 ≤ j ∧ (d < 0 ∨ 5 < d))) → Calls Try.prog 21 #[.slice p1 PS.length c1, .slice p2 PS.length c2, .agg #[.int .i64 d, .int .i64 i, .int .i64 j, .int .u32 b, .slice q m c']] w (RetSt w (stepS PS ⟨d, i, j, b, bs⟩)) := fun e hc => by
    rw [e]; exact StepN_any p1 p2 q c1 c2 m c' 0 d i j b PS bs w h1 h2 hs hn hc
  by_cases hj : j < 0
  · exact skip (by unfold stepS; rw [if_pos (Or.inr (Or.inr hj))]) (.inl hj)
  · by_cases hd : d < 0 ∨ 5 < d
    · exact skip (by unfold stepS; rw [if_pos (by show d < 0 ∨ 6 ≤ d ∨ j < 0; omega)]) (.inr (.inr ⟨by omega, hd⟩))
    · have hn3 : ¬ (d < 0 ∨ 6 ≤ d ∨ j < 0) := by omega
      obtain ⟨j0, rfl⟩ := Int.eq_ofNat_of_zero_le (show 0 ≤ j by omega)
      by_cases h5 : d = 5
      · subst h5
        have e : stepS PS ⟨5, i, j0, b, bs⟩ = PS ++ [(bs, -1)] := by unfold stepS; rw [if_neg hn3, if_pos rfl]
        rw [e]
        exact Step5_any p1 p2 q c1 c2 m c' 0 i j0 b PS bs w h1 h2 hs hn (by omega)
      · by_cases hi0 : i < 0
        · exact skip (by unfold stepS; rw [if_neg hn3, if_neg h5]; split; rfl; rw [if_pos hi0]) (.inr (.inl ⟨h5, .inl hi0⟩))
        · by_cases hin : (PS.length : Int) ≤ i
          · exact skip (by unfold stepS; rw [if_neg hn3, if_neg h5, List.getElem?_eq_none (show PS.length ≤ i.toNat by omega)]) (.inr (.inl ⟨h5, .inr hin⟩))
          · obtain ⟨i0, rfl⟩ := Int.eq_ofNat_of_zero_le (show 0 ≤ i by omega)
            have hil : i0 < PS.length := by omega
            obtain ⟨pk, hpk⟩ : ∃ pk, PS[i0]? = some pk := ⟨_, List.getElem?_eq_getElem hil⟩
            have hst : stepS PS ⟨d, i0, j0, b, bs⟩ = if d = 0 then dropAt PS i0 else if d = 1 then PS ++ [pk] else if d = 2 then putAt (dropAt PS i0) (min j0 (PS.length - 1)) pk else if d = 3 then PS.set i0 (cutP pk j0) else PS.set i0 (maskP pk b j0) := by
              unfold stepS; rw [if_neg hn3, if_neg h5]; simp only [Int.toNat_natCast, hpk]; rw [if_neg (by omega)]
            rw [hst]
            have hd5 : d = 0 ∨ d = 1 ∨ d = 2 ∨ d = 3 ∨ d = 4 := by omega
            rcases hd5 with rfl | rfl | rfl | rfl | rfl
            · exact Step0_any p1 p2 q c1 c2 m c' i0 j0 b PS bs w h1 h2 hs hn hil (by omega)
            · exact Step1_any p1 p2 q c1 c2 m c' i0 j0 b PS bs w h1 h2 hs hn hil (by omega) pk hpk
            · exact Step2_any p1 p2 q c1 c2 m c' i0 j0 b PS bs w h1 h2 hs hn hil (by omega) pk hpk
            · exact Step3_any p1 p2 q c1 c2 m c' i0 j0 b PS bs w h1 h2 hs hn hil (by omega) pk hpk
            · exact Step4_any p1 p2 q c1 c2 m c' i0 j0 b pk PS bs w h1 h2 hs hn hil (by omega) bb hpk (hr pk (List.mem_of_getElem? hpk))
set_option maxRecDepth 100000 in
set_option maxHeartbeats 1000000 in
theorem EqualI_any (p1 p2 : Option Addr) (n c1 c2 : Nat) (ks : List Int) (w : World) (h1 : Sl I64 w p1 n c1 ks) (h2 : Sl I64 w p2 n c2 ks) :
    Calls Try.prog 22 #[.slice p1 n c1, .slice p2 n c2] w fun e w' => e = .returned (.bool true) ∧ Below w.heap.size w w' := by
  have b1 := h1.bound
  have H1 := Lib.hid h1; have H2 := Lib.hid h2; clear h1 h2
  go_enter Try.func22, Try.ntmps22
  go_wp2
  go_loopw [13] (fun i wr => ∃ k q : Nat, k ≤ n ∧ i = .int .i64 k ∧ wr = w.drewN q) (fun i _ => n - (intOf i).toNat)
  case atStart => exact ⟨0, 0, Nat.zero_le _, rfl, rfl⟩
  case round =>
    obtain ⟨k, q, hk, rfl, rfl⟩ := hrel
    by_cases hlt : k < n
    · obtain ⟨b, o, x, rfl, hc, hx⟩ := H1.out.at k hlt
      obtain ⟨b', o', y, rfl, hc', hy⟩ := H2.out.at k hlt
      have hxy : y = x := Option.some.inj (hy.out.symm.trans hx.out)
      subst hxy
      have i1 : (k : Int) < (n : Int) := by omega
      have ht : (y != y) = false := by simp
      go_wp2
      go_quiet (fail)
      go_wp2
      go_roundw
      case rel => exact ⟨k + 1, _, by omega, by go_num, rfl⟩
      case measure => simp [intOf]; omega
    · go_wp2
      go_ret
      exact ⟨rfl, below_drewN _ _⟩
end Go.Proofs.Ytlfcijpkdhdmeaa
