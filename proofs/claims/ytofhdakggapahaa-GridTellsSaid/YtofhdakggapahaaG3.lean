/- The contracts of grid.Of, and of the reference's Of; Few. -/
import Derived.Test.YtofhdakggapahaaG2
namespace Go.Proofs.Ytofhdakggapahaa
open Go.RowKit Go.By
def gofS (width : Int) (rows : List (List UInt8)) : Int :=
  if width < 0 ∨ 65536 < width then 2 else if (65536 : Int) < rows.length ∨ (65536 : Int) < rows.length * width then 5 else if rows.all (fun y => decide (y.length = width.toNat)) then 0 else 4
theorem enters_of1 : Enters Try.prog 53 := enters_of Try.func53 (by kernel_rfl) rfl
set_option maxHeartbeats 400000 in
theorem Of1_any (q : Option Addr) (m c B s : Nat) (w : World) (hB : w.cell? ⟨B, 0, none⟩ = some (.int .i64 s)) :
    Calls Try.prog 53 #[.slice q m c, .pointer (some ⟨B, 0, none⟩)] w fun e w' => e = .returned (.bool ((m : Int) != s)) ∧ w = w' := by
  go_enter Try.func53, Try.ntmps53
  go_wp2
  go_ret
  exact ⟨rfl, rfl⟩
theorem RetG2.zero {T : TypeId} {w w' : World} {code : Int} (hb : Below w.heap.size w w') : RetG2 T w 0 0 [] code (.returned (.tuple #[.agg #[.int .i64 0, .int .i64 0, .slice none 0 0], .int .i64 code])) w' :=
  ⟨none, 0, 0, rfl, rfl, World.ownsRow_nil _ _ _ _, hb⟩
set_option maxRecDepth 100000 in
set_option maxHeartbeats 1000000 in
theorem GOf_bad (width : Int) (p : Option Addr) (m c : Nat) (w : World) (code : Int) (hc : (width < 0 ∨ 65536 < width) ∧ code = 2 ∨ (0 ≤ width ∧ width ≤ 65536 ∧ 65536 < m ∧ code = 5) ∨ (0 ≤ width ∧ width ≤ 65536 ∧ m ≤ 65536 ∧ (65536 : Int) < (m : Int) * width ∧ code = 5)) (hm : m ≤ 9223372036854775807) (hw : width ≤ 9223372036854775807) :
    Calls Try.prog 11 #[.int .i64 width, .slice p m c] w (RetG2 5 w 0 0 [] code) := by
  have hinfo := info_grid
  have HB : Hid (∀ o1 o2, Below w.heap.size w ((w.alloc o1).alloc o2)) := fun o1 o2 => al (al (Below.refl _ _) (Nat.le_refl _)) (by simp)
  have HX : Hid (∀ o1, ((w.alloc o1).alloc (.cells #[.int .i64 0, .int .i64 0, .slice none 0 0] 27)).heap[w.heap.size + 1]? = some (.cells #[.int .i64 0, .int .i64 0, .slice none 0 0] 27 (0, 0))) := fun o1 => hnew (by simp)
  rcases hc with ⟨h1 | h1, rfl⟩ | ⟨h0, h1, h2, rfl⟩ | ⟨h0, h1, h2, h3, rfl⟩
  · go_enter Try.func11, Try.ntmps11
    go_wp2
    refine bodyPost_ret (results_cell_tmp rfl _ _ _ 27 #[.int .i64 0, .int .i64 0, .slice none 0 0] (0, 0) _ (.int .i64 2) rfl (HX.out _) rfl Try.underlying27 rfl hinfo) rfl (RetG2.zero (HB.out _ _))
  · have h0 : 0 ≤ width := by omega
    go_enter Try.func11, Try.ntmps11
    go_wp2
    refine bodyPost_ret (results_cell_tmp rfl _ _ _ 27 #[.int .i64 0, .int .i64 0, .slice none 0 0] (0, 0) _ (.int .i64 2) rfl (HX.out _) rfl Try.underlying27 rfl hinfo) rfl (RetG2.zero (HB.out _ _))
  · have h3 : (65536 : Int) < (m : Int) := by omega
    go_enter Try.func11, Try.ntmps11
    go_wp2
    refine bodyPost_ret (results_cell_tmp rfl _ _ _ 27 #[.int .i64 0, .int .i64 0, .slice none 0 0] (0, 0) _ (.int .i64 5) rfl (HX.out _) rfl Try.underlying27 rfl hinfo) rfl (RetG2.zero (HB.out _ _))
  · obtain ⟨wd, rfl⟩ := Int.eq_ofNat_of_zero_le h0
    have h4 : (m : Int) ≤ 65536 := by omega
    have hle : m * wd ≤ 65536 * 65536 := Nat.mul_le_mul h2 (by omega)
    obtain ⟨k, hk⟩ : ∃ k, k = m * wd := ⟨_, rfl⟩
    have wm : IntKind.i64.wrap ((m : Int) * (wd : Int)) = ((k : Nat) : Int) := by rw [hk, ← Int.natCast_mul]; exact Go.IntWalk.i64_in _ (by omega)
    have h5 : (65536 : Int) < (k : Int) := by rw [hk, Int.natCast_mul]; exact h3
    clear h3 hk hle
    go_enter Try.func11, Try.ntmps11
    go_wp2
    refine bodyPost_ret (results_cell_tmp rfl _ _ _ 27 #[.int .i64 0, .int .i64 0, .slice none 0 0] (0, 0) _ (.int .i64 5) rfl (HX.out _) rfl Try.underlying27 rfl hinfo) rfl (RetG2.zero (HB.out _ _))
set_option maxRecDepth 100000 in
set_option maxHeartbeats 1000000 in
theorem RGOf_bad (width : Int) (p : Option Addr) (m c : Nat) (w : World) (code : Int) (hc : (width < 0 ∨ 65536 < width) ∧ code = 2 ∨ (0 ≤ width ∧ width ≤ 65536 ∧ 65536 < m ∧ code = 5) ∨ (0 ≤ width ∧ width ≤ 65536 ∧ m ≤ 65536 ∧ (65536 : Int) < (m : Int) * width ∧ code = 5)) (hm : m ≤ 9223372036854775807) (hw : width ≤ 9223372036854775807) :
    Calls Try.prog 13 #[.int .i64 width, .slice p m c] w fun e w' => e = .returned (.int .i64 code) ∧ w = w' := by
  rcases hc with ⟨h1 | h1, rfl⟩ | ⟨h0, h1, h2, rfl⟩ | ⟨h0, h1, h2, h3, rfl⟩
  · go_enter Try.func13, Try.ntmps13
    go_wp2
    go_ret
    exact ⟨rfl, rfl⟩
  · have h0 : 0 ≤ width := by omega
    go_enter Try.func13, Try.ntmps13
    go_wp2
    go_ret
    exact ⟨rfl, rfl⟩
  · have h3 : (65536 : Int) < (m : Int) := by omega
    go_enter Try.func13, Try.ntmps13
    go_wp2
    go_ret
    exact ⟨rfl, rfl⟩
  · obtain ⟨wd, rfl⟩ := Int.eq_ofNat_of_zero_le h0
    have h4 : (m : Int) ≤ 65536 := by omega
    have hle : m * wd ≤ 65536 * 65536 := Nat.mul_le_mul h2 (by omega)
    obtain ⟨k, hk⟩ : ∃ k, k = m * wd := ⟨_, rfl⟩
    have wm : IntKind.i64.wrap ((m : Int) * (wd : Int)) = ((k : Nat) : Int) := by rw [hk, ← Int.natCast_mul]; exact Go.IntWalk.i64_in _ (by omega)
    have h5 : (65536 : Int) < (k : Int) := by rw [hk, Int.natCast_mul]; exact h3
    clear h3 hk hle
    go_enter Try.func13, Try.ntmps13
    go_wp2
    go_ret
    exact ⟨rfl, rfl⟩
set_option maxRecDepth 100000 in
set_option maxHeartbeats 1000000 in
theorem RGOf_good (wd : Nat) (p : Option Addr) (m c : Nat) (xss : List (List UInt8)) (w : World) (h : Sl2 w p m c xss) (h1 : wd ≤ 65536) (h2 : m ≤ 65536) (h3 : m * wd ≤ 65536) :
    Calls Try.prog 13 #[.int .i64 wd, .slice p m c] w fun e w' => e = .returned (.int .i64 (if xss.all (fun y => decide (y.length = wd)) then 0 else 4)) ∧ w = w' := by
  obtain ⟨k, hk⟩ : ∃ k, k = m * wd := ⟨_, rfl⟩
  have wm : IntKind.i64.wrap ((m : Int) * (wd : Int)) = ((k : Nat) : Int) := by rw [hk, ← Int.natCast_mul]; exact Go.IntWalk.i64_in _ (by omega)
  rw [← hk] at h3
  have H := Lib.hid h
  have HL := Lib.hid h.len
  obtain ⟨R, hR⟩ : ∃ R : Int, R = if xss.all (fun y => decide (y.length = wd)) then 0 else 4 := ⟨_, rfl⟩
  rw [← hR]
  have HR := Lib.hid hR
  clear hk h hR
  go_enter Try.func13, Try.ntmps13
  go_wp2
  go_loop [25] (fun i => ∃ k : Nat, k ≤ m ∧ i = .int .i64 k ∧ Hid (∀ (j : Nat) (x : List UInt8), j < k → xss[j]? = some x → x.length = wd)) (fun i => m - (intOf i).toNat)
  case atStart => exact ⟨0, Nat.zero_le _, rfl, fun j x hj => by omega⟩
  case round =>
    obtain ⟨k, hk, rfl, hj⟩ := hrel
    by_cases hlt : k < m
    · obtain ⟨b, o, q, mx, cx, xs, rfl, hc, hs, hx⟩ := H.out.at k hlt
      have hmx := hs.len
      have hmb := hs.bound
      by_cases e : mx = wd
      · subst e
        have HX := Lib.hid hmx
        clear hs hmx
        go_wp2
        go_round
        case rel => exact ⟨k + 1, by omega, by go_num, fun j x hjk hx' => by
          rcases Nat.lt_or_ge j k with h | h
          · exact hj.out j x h hx'
          · obtain rfl : j = k := by omega
            have := hx.out; rw [hx'] at this; cases this; exact HX.out⟩
        case measure => simp [intOf]; omega
      · have d1 : ((mx : Int) != (wd : Int)) = true := by simp; omega
        have hR4 : Hid (R = 4) := by
          show R = 4
          rw [HR.out, if_neg]
          intro hall
          have := List.all_eq_true.1 hall xs (List.mem_of_getElem? hx.out)
          simp at this; omega
        clear hs hmx e
        go_wp2
        go_ret
        exact ⟨by rw [hR4.out]; rfl, rfl⟩
    · have hkm : k = m := by omega
      have hR0 : Hid (R = 0) := by
        show R = 0
        rw [HR.out, if_pos]
        rw [List.all_eq_true]
        intro x hx
        obtain ⟨i, hi, rfl⟩ := List.getElem_of_mem hx
        exact decide_eq_true (hj.out i _ (by rw [hkm, ← HL.out]; exact hi) (List.getElem?_eq_getElem hi))
      have hge : (m : Int) ≤ (k : Int) := by omega
      clear hkm
      go_wp2
      go_ret
      exact ⟨by rw [hR0.out]; rfl, rfl⟩
set_option maxRecDepth 100000 in
set_option maxHeartbeats 1000000 in
theorem Few7_any (p : Option Addr) (m c : Nat) (xss : List (List UInt8)) (w : World) (h : Sl2 w p m c xss) :
    Calls Try.prog 10 #[.slice p m c] w fun e w' => e = .returned (.bool (xss.all (fun y => decide (y.length ≤ 30)) && decide (m ≤ 30))) ∧ w = w' := by
  have H := Lib.hid h
  have HL := Lib.hid h.len
  have hmb := h.bound
  obtain ⟨R, hR⟩ : ∃ R : Bool, R = (xss.all (fun y => decide (y.length ≤ 30)) && decide (m ≤ 30)) := ⟨_, rfl⟩
  rw [← hR]
  have HR := Lib.hid hR
  clear h hR
  go_enter Try.func10, Try.ntmps10
  go_wp2
  go_loop [7] (fun i => ∃ k : Nat, k ≤ m ∧ i = .int .i64 k ∧ Hid (∀ (j : Nat) (x : List UInt8), j < k → xss[j]? = some x → x.length ≤ 30)) (fun i => m - (intOf i).toNat)
  case atStart => exact ⟨0, Nat.zero_le _, rfl, fun j x hj => by omega⟩
  case round =>
    obtain ⟨k, hk, rfl, hj⟩ := hrel
    by_cases hlt : k < m
    · obtain ⟨b, o, q, mx, cx, xs, rfl, hc, hs, hx⟩ := H.out.at k hlt
      have hmx := hs.len
      have hxb := hs.bound
      by_cases e : mx ≤ 30
      · have HX := Lib.hid hmx
        clear hs hmx
        have e' : (mx : Int) ≤ 30 := by omega
        go_wp2
        go_round
        case rel => exact ⟨k + 1, by omega, by go_num, fun j x hjk hx' => by
          rcases Nat.lt_or_ge j k with h | h
          · exact hj.out j x h hx'
          · obtain rfl : j = k := by omega
            have := hx.out; rw [hx'] at this; cases this; rw [HX.out]; exact e⟩
        case measure => simp [intOf]; omega
      · have e' : (30 : Int) < (mx : Int) := by omega
        have hRf : Hid (R = false) := by
          show R = false
          rw [HR.out]
          have : xss.all (fun y => decide (y.length ≤ 30)) = false := by
            rw [List.all_eq_false]
            exact ⟨xs, List.mem_of_getElem? hx.out, by simp; omega⟩
          rw [this]; rfl
        clear hs hmx e
        go_wp2
        go_ret
        exact ⟨by rw [hRf.out]; rfl, rfl⟩
    · have hkm : k = m := by omega
      have hRt : Hid (R = decide ((m : Int) ≤ 30)) := by
        show R = _
        rw [HR.out]
        have : xss.all (fun y => decide (y.length ≤ 30)) = true := by
          rw [List.all_eq_true]
          intro x hx
          obtain ⟨i, hi, rfl⟩ := List.getElem_of_mem hx
          exact decide_eq_true (hj.out i _ (by rw [hkm, ← HL.out]; exact hi) (List.getElem?_eq_getElem hi))
        rw [this, Bool.true_and]
        by_cases h30 : m ≤ 30
        · rw [decide_eq_true h30, decide_eq_true (by omega)]
        · rw [decide_eq_false h30, decide_eq_false (by omega)]
      have hge : (m : Int) ≤ (k : Int) := by omega
      clear hkm
      go_wp2
      go_ret
      exact ⟨by rw [hRt.out]; rfl, rfl⟩
end Go.Proofs.Ytofhdakggapahaa
