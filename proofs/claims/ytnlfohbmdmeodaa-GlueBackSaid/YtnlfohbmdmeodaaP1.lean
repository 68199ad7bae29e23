/- The contracts of the plan's functions: needed, fits, Check, Of; and of the reference's Needs and Check. -/
import Derived.Test.YtnlfohbmdmeodaaS1
import Derived.BigQuiet
namespace Go.Proofs.Ytnlfohbmdmeodaa
open Go.RowKit Go.By
/-- how many symbols are needed -/
def needS (l s : Int) : Int := if l = 0 then 1 else (l - 1) / s + 1
def fitS (l s : Int) : Int := if l < 0 then 2 else if s < 1 ∨ 65535 < s then 4 else if 4096 < needS l s then 5 else 0
def checkS (l s n : Int) : Int := if fitS l s = 0 then (if n = needS l s then 0 else 14) else fitS l s
def ofS (l s : Int) (d : Int) : Value := if fitS l s = 0 then .tuple #[.agg #[.int .i64 l, .int .i64 s, .int .i64 (needS l s), .int .u32 d], .int .i64 0] else .tuple #[.agg #[.int .i64 0, .int .i64 0, .int .i64 0, .int .u32 0], .int .i64 (fitS l s)]
theorem needS_pos {l s : Int} (hl : 0 ≤ l) (hs : 1 ≤ s) : 1 ≤ needS l s ∧ (l ≠ 0 → needS l s ≤ l) := by
  unfold needS
  split
  · omega
  · rename_i h0
    have h1 : 0 ≤ (l - 1) / s := Int.ediv_nonneg (by omega) (by omega)
    have h2 : (l - 1) / s ≤ l - 1 := Int.ediv_le_self _ (by omega)
    omega
theorem needS_spec {l s : Int} (hl : 0 < l) (hs : 1 ≤ s) : (needS l s - 1) * s < l ∧ l ≤ needS l s * s := by
  unfold needS
  rw [if_neg (by omega)]
  have h := Int.emod_add_mul_ediv (l - 1) s
  have h1 := Int.emod_nonneg (l - 1) (show s ≠ 0 by omega)
  have h2 := Int.emod_lt_of_pos (l - 1) (show 0 < s by omega)
  generalize (l - 1) / s = q at *
  have e1 : (q + 1 - 1) * s = s * q := by rw [Int.mul_comm]; congr 1; omega
  have e2 : (q + 1) * s = s * q + s := by rw [Int.add_mul, Int.mul_comm]; omega
  omega
theorem needS_of {l s k : Int} (hl : 0 < l) (hs : 1 ≤ s) (h1 : (k - 1) * s < l) (h2 : l ≤ k * s) : needS l s = k := by
  obtain ⟨g1, g2⟩ := needS_spec hl hs
  generalize needS l s = n at *
  have a1 : ¬ n < k := fun h => by
    have : n * s ≤ (k - 1) * s := Int.mul_le_mul_of_nonneg_right (by omega) (by omega)
    omega
  have a2 : ¬ k < n := fun h => by
    have : k * s ≤ (n - 1) * s := Int.mul_le_mul_of_nonneg_right (by omega) (by omega)
    omega
  omega
set_option maxHeartbeats 400000 in
theorem needed_any (l s : Int) (w : World) (hl : 0 ≤ l) (hl2 : l ≤ 9223372036854775807) (hs : 1 ≤ s) :
    Calls Try.prog 22 #[.int .i64 l, .int .i64 s] w fun e w' => e = .returned (.int .i64 (needS l s)) ∧ w = w' := by
  by_cases h0 : l = 0
  · subst h0
    go_enter Try.func22, Try.ntmps22
    go_wp2
    go_ret
    exact ⟨rfl, rfl⟩
  · have hz : (l == 0) = false := by simpa using h0
    have hs0 : (s == 0) = false := by simp; omega
    obtain ⟨hn, hn'⟩ := needS_pos hl hs
    have hn2 := hn' h0
    clear hn'
    have e0 : needS l s = (l - 1) / s + 1 := if_neg h0
    have hw : wrap64 ((l - 1) / s + 1) = needS l s := by
      rw [← e0]; unfold wrap64
      generalize needS l s = y at *
      clear e0
      omega
    clear e0
    go_enter Try.func22, Try.ntmps22
    go_wp2
    go_ret
    exact ⟨by rw [hw]; rfl, rfl⟩
set_option maxHeartbeats 400000 in
theorem fits_any (l s : Int) (w : World) (hl2 : l ≤ 9223372036854775807) :
    Calls Try.prog 21 #[.int .i64 l, .int .i64 s] w fun e w' => e = .returned (.int .i64 (fitS l s)) ∧ w = w' := by
  by_cases h0 : l < 0
  · have HR : Hid (fitS l s = 2) := if_pos h0
    go_enter Try.func21, Try.ntmps21
    go_wp2
    go_ret
    exact ⟨by rw [HR.out]; rfl, rfl⟩
  · by_cases h1 : s < 1
    · have HR : Hid (fitS l s = 4) := by unfold fitS; rw [Hid, if_neg h0, if_pos (Or.inl h1)]
      go_enter Try.func21, Try.ntmps21
      go_wp2
      go_ret
      exact ⟨by rw [HR.out]; rfl, rfl⟩
    · by_cases h2 : 65535 < s
      · have HR : Hid (fitS l s = 4) := by unfold fitS; rw [Hid, if_neg h0, if_pos (Or.inr h2)]
        go_enter Try.func21, Try.ntmps21
        go_wp2
        go_ret
        exact ⟨by rw [HR.out]; rfl, rfl⟩
      · have HN := Lib.hid (fun w => needed_any l s w (by omega) hl2 (by omega))
        by_cases h3 : 4096 < needS l s
        · have HR : Hid (fitS l s = 5) := by unfold fitS; rw [Hid, if_neg h0, if_neg (by omega), if_pos h3]
          go_enter Try.func21, Try.ntmps21
          go_wp2_with fail
          refine (HN.out _).mono ?_; rintro e w' ⟨rfl, rfl⟩
          go_wp2
          go_ret
          exact ⟨by rw [HR.out]; rfl, rfl⟩
        · have HR : Hid (fitS l s = 0) := by unfold fitS; rw [Hid, if_neg h0, if_neg (by omega), if_neg h3]
          go_enter Try.func21, Try.ntmps21
          go_wp2_with fail
          refine (HN.out _).mono ?_; rintro e w' ⟨rfl, rfl⟩
          go_wp2
          go_ret
          exact ⟨by rw [HR.out]; rfl, rfl⟩
theorem fitS_cases (l s : Int) : (fitS l s ≠ 0 ∧ (fitS l s = 2 ∨ fitS l s = 4 ∨ fitS l s = 5)) ∨ (fitS l s = 0 ∧ 0 ≤ l ∧ 1 ≤ s ∧ s ≤ 65535 ∧ needS l s ≤ 4096) := by
  unfold fitS
  split
  · simp
  · split
    · simp
    · split
      · simp
      · right; omega
theorem cell4 (w : World) (a b c d : Value) (T : TypeId) : ∀ i : Nat, (w.alloc (.cells #[a, b, c, d] T)).cell? ⟨w.heap.size, i, none⟩ = #[a, b, c, d][i]? := fun i => cell_of_row _ _ _ _ _ _ (hnew rfl)
set_option maxRecDepth 100000 in
set_option maxHeartbeats 1000000 in
theorem Check_any (l s n d : Int) (w : World) (hl2 : l ≤ 9223372036854775807) :
    Calls Try.prog 16 #[.agg #[.int .i64 l, .int .i64 s, .int .i64 n, .int .u32 d]] w fun e w' => e = .returned (.int .i64 (checkS l s n)) ∧ Below w.heap.size w w' := by
  have HF := Lib.hid (fun w => fits_any l s w hl2)
  rcases fitS_cases l s with ⟨h0, h1⟩ | ⟨h0, h1, h2, h3, h4⟩
  · have HR : Hid (checkS l s n = fitS l s) := if_neg h0
    have hb : (fitS l s != 0) = true := by simpa using h0
    clear h1
    generalize fitS l s = f at *
    clear h0
    go_enter Try.func16, Try.ntmps16
    go_wp2_with fail
    refine (HF.out _).mono ?_; rintro e w' ⟨rfl, rfl⟩
    go_wp2
    go_ret
    exact ⟨by rw [HR.out]; rfl, al (Below.refl _ _) (Nat.le_refl _)⟩
  · rw [h0] at HF
    have HN := Lib.hid (fun w => needed_any l s w h1 hl2 h2)
    have HR : Hid (checkS l s n = if n = needS l s then 0 else 14) := by unfold checkS; rw [Hid, if_pos h0]
    generalize needS l s = k at *
    by_cases e : n = k
    · subst e
      have hb : (n != n) = false := by simp
      rw [if_pos rfl] at HR
      clear h0 h1 h2 h3 h4
      go_enter Try.func16, Try.ntmps16
      go_wp2_with fail
      refine (HF.out _).mono ?_; rintro e w' ⟨rfl, rfl⟩
      go_wp2
      have C0 := cell4 w (.int .i64 l) (.int .i64 s) (.int .i64 n) (.int .u32 d) 24 0
      have C1 := cell4 w (.int .i64 l) (.int .i64 s) (.int .i64 n) (.int .u32 d) 24 1
      have C2 := cell4 w (.int .i64 l) (.int .i64 s) (.int .i64 n) (.int .u32 d) 24 2
      go_quiet ((go_at_call 22; exact Calls.quiet_of_same ((HN.out _).mono fun e w' hh => ⟨hh.1, hh.2.symm⟩)))
      go_wp2
      go_ret
      exact ⟨by rw [HR.out]; rfl, bdn (al (Below.refl _ _) (Nat.le_refl _))⟩
    · have hb : (n != k) = true := by simpa using e
      rw [if_neg e] at HR
      clear h0 h1 h2 h3 h4 e
      go_enter Try.func16, Try.ntmps16
      go_wp2_with fail
      refine (HF.out _).mono ?_; rintro e w' ⟨rfl, rfl⟩
      go_wp2
      have C0 := cell4 w (.int .i64 l) (.int .i64 s) (.int .i64 n) (.int .u32 d) 24 0
      have C1 := cell4 w (.int .i64 l) (.int .i64 s) (.int .i64 n) (.int .u32 d) 24 1
      have C2 := cell4 w (.int .i64 l) (.int .i64 s) (.int .i64 n) (.int .u32 d) 24 2
      go_quiet ((go_at_call 22; exact Calls.quiet_of_same ((HN.out _).mono fun e w' hh => ⟨hh.1, hh.2.symm⟩)))
      go_wp2
      go_ret
      exact ⟨by rw [HR.out]; rfl, bdn (al (Below.refl _ _) (Nat.le_refl _))⟩
theorem results_ct {P : Program} {fn : Func} {p u : Tmp} {ty : TypeId} (h : fn.results = #[.cell p ty, .tmp u]) (tmps : Array Value) (w : World) (g : Nat) (t : TypeId) (cs : Array Value) (fr : Nat × Nat) (d : TypeDesc) (v : Value)
    (hp : tmps.getD p undef = .pointer (some ⟨g, 0, none⟩)) (hg : w.heap[g]? = some (.cells cs t fr)) (hv : tmps.getD u undef = v)
    (hu : P.underlying ty = some d) (hd : (match d with | .struct _ | .array _ _ => true | _ => false) = true) (hi : (P.info? ty).map (·.size) = some cs.size) :
    (results fn tmps).run P w = .ok (.tuple #[.agg cs, v]) w := by
  have hp' : tmps[p]?.getD undef = .pointer (some ⟨g, 0, none⟩) := by simpa using hp
  have hv' : tmps[u]?.getD undef = v := by simpa using hv
  simp [results, h, hp', hv', asAddr, run_loadVar_row w g t ty cs fr d hg hu hd hi]
theorem info_plan : (Try.prog.info? 24).map (·.size) = some 4 := by kernel_rfl
set_option maxRecDepth 100000 in
set_option maxHeartbeats 1000000 in
theorem POf_any (l s d : Int) (w : World) (hl2 : l ≤ 9223372036854775807) :
    Calls Try.prog 12 #[.int .i64 l, .int .i64 s, .int .u32 d] w fun e w' => e = .returned (ofS l s d) ∧ Below w.heap.size w w' := by
  have HF := Lib.hid (fun w => fits_any l s w hl2)
  rcases fitS_cases l s with ⟨h0, h1⟩ | ⟨h0, h1, h2, h3, h4⟩
  · have HR : Hid (ofS l s d = .tuple #[.agg #[.int .i64 0, .int .i64 0, .int .i64 0, .int .u32 0], .int .i64 (fitS l s)]) := if_neg h0
    have hb : (fitS l s != 0) = true := by simpa using h0
    clear h1
    generalize fitS l s = f at *
    clear h0
    have hi := info_plan
    go_enter Try.func12, Try.ntmps12
    go_wp2_with fail
    refine (HF.out _).mono ?_; rintro e w' ⟨rfl, rfl⟩
    go_wp2
    refine bodyPost_ret (results_ct rfl _ _ _ 24 #[.int .i64 0, .int .i64 0, .int .i64 0, .int .u32 0] (0, 0) _ (.int .i64 f) rfl (hnew rfl) rfl Try.underlying24 rfl hi) rfl ⟨by rw [HR.out], al (Below.refl _ _) (Nat.le_refl _)⟩
  · rw [h0] at HF
    have HN := Lib.hid (fun w => needed_any l s w h1 hl2 h2)
    have HR : Hid (ofS l s d = .tuple #[.agg #[.int .i64 l, .int .i64 s, .int .i64 (needS l s), .int .u32 d], .int .i64 0]) := if_pos h0
    generalize needS l s = k at *
    clear h0 h1 h2 h3 h4
    have hi := info_plan
    go_enter Try.func12, Try.ntmps12
    go_wp2_with fail
    refine (HF.out _).mono ?_; rintro e w' ⟨rfl, rfl⟩
    go_wp2_with fail
    refine (HN.out _).mono ?_; rintro e w' ⟨rfl, rfl⟩
    go_wp2
    refine bodyPost_ret (results_ct rfl _ _ _ 24 #[.int .i64 l, .int .i64 s, .int .i64 k, .int .u32 d] (0, 0) _ (.int .i64 0) rfl (hnew rfl) rfl Try.underlying24 rfl hi) rfl ⟨by rw [HR.out], al (Below.refl _ _) (Nat.le_refl _)⟩
end Go.Proofs.Ytnlfohbmdmeodaa
