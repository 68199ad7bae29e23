/- The contracts of the kernel's functions: nought, Sum, Comb. -/
import Derived.Test.YtofhdakggapahaaW6
namespace Go.Proofs.Ytofhdakggapahaa
open Go.RowKit Go.By
theorem enters_nought : Enters Try.prog 96 := enters_of Try.func96 (by kernel_rfl) rfl
set_option maxHeartbeats 400000 in
theorem nought1_any (q : Option Addr) (m c B n : Nat) (w : World) (hB : w.cell? ⟨B, 0, none⟩ = some (.int .i64 n)) :
    Calls Try.prog 96 #[.slice q m c, .pointer (some ⟨B, 0, none⟩)] w fun e w' => e = .returned (.bool ((m : Int) != n)) ∧ w = w' := by
  go_enter Try.func96, Try.ntmps96
  go_wp2
  go_ret
  exact ⟨rfl, rfl⟩
/-- as many noughts as the first row has, or a code -/
def noughtS : List (List UInt8) → List UInt8 × Int
  | [] => ([], 0)
  | x :: l => if (x :: l).all (fun y => decide (y.length = x.length)) then (List.replicate x.length 0, 0) else ([], 4)
theorem noughtS_len {xss : List (List UInt8)} (h : (noughtS xss).2 = 0) : ∀ xs, xs ∈ xss → xs.length = (noughtS xss).1.length := by
  cases xss with
  | nil => intro xs hx; simp at hx
  | cons x l =>
    intro xs hx
    simp only [noughtS] at h ⊢
    by_cases ha : (x :: l).all (fun y => decide (y.length = x.length)) = true
    · rw [if_pos ha]
      have := List.all_eq_true.1 ha xs hx
      simpa using this
    · rw [if_neg ha] at h; simp at h
theorem noughtS_code (xss : List (List UInt8)) : (noughtS xss).2 = 0 ∨ ((noughtS xss).2 = 4 ∧ (noughtS xss).1 = []) := by
  cases xss with
  | nil => exact .inl rfl
  | cons x l =>
    simp only [noughtS]
    by_cases ha : (x :: l).all (fun y => decide (y.length = x.length)) = true
    · rw [if_pos ha]; exact .inl rfl
    · rw [if_neg ha]; exact .inr ⟨rfl, rfl⟩
def lenNe (n : Nat) : Value → Bool
  | .slice _ m _ => (m : Int) != n
  | _ => false
theorem any_vals {w : World} {n : Nat} {vs : List Value} {xss : List (List UInt8)} (hl : vs.length = xss.length)
    (hv : ∀ (i : Nat) (v : Value), vs[i]? = some v → ∃ xs q c', xss[i]? = some xs ∧ v = Value.slice q xs.length c' ∧ Sl B8 w q xs.length c' xs) :
    vs.any (lenNe n) = !(xss.all (fun y => decide (y.length = n))) := by
  rw [List.all_eq_not_any_not, Bool.not_not, Bool.eq_iff_iff]
  simp only [List.any_eq_true]
  constructor
  · rintro ⟨v, hm, h⟩
    obtain ⟨i, hi, e⟩ := List.getElem_of_mem hm
    obtain ⟨xs, q, c', hx, rfl, _⟩ := hv i v (by rw [List.getElem?_eq_getElem hi, e])
    refine ⟨xs, List.mem_of_getElem? hx, ?_⟩
    simp [lenNe] at h ⊢; omega
  · rintro ⟨xs, hm, h⟩
    obtain ⟨i, hi, e⟩ := List.getElem_of_mem hm
    have hi' : i < vs.length := by omega
    obtain ⟨ys, q, c', hx, hv', _⟩ := hv i _ (List.getElem?_eq_getElem hi')
    refine ⟨_, List.getElem_mem hi', ?_⟩
    rw [hv']
    rw [List.getElem?_eq_getElem hi, e] at hx
    cases hx
    simp [lenNe] at h ⊢; omega
set_option maxRecDepth 100000 in
set_option maxHeartbeats 400000 in
theorem nought_any (p : Option Addr) (n c : Nat) (xss : List (List UInt8)) (w : World) (h : Sl2 w p n c xss) (hr : ∀ xs, xs ∈ xss → Room xs.length) :
    Calls Try.prog 80 #[.slice p n c] w (RetB 5 w (noughtS xss).1 (noughtS xss).2) := by
  obtain ⟨i0, hi, hz0, hz1, hz2⟩ := info_parts info_u8
  have hb := h.bound
  by_cases h0 : n = 0
  · subst h0
    have : xss = [] := List.eq_nil_of_length_eq_zero h.len
    subst this
    clear h hr
    go_enter Try.func80, Try.ntmps80
    go_wp2
    go_ret2
    exact RetB.nil _ _ _ _ (Below.refl _ _)
  · have hn0 : ((n : Int) == 0) = false := by simp; omega
    obtain ⟨b, o, q, m, c', xs, rfl, hc, hs, hx⟩ := h.at 0 (by omega)
    obtain ⟨vs, hvs, hvv⟩ := h.vals
    have hax := any_vals (n := m) (hvs.len.trans h.len.symm) hvv
    have hmem := List.mem_of_getElem? hx.out
    have hrm := hr xs hmem
    have hml := hs.len
    have HS : Hid (noughtS xss = if xss.all (fun y => decide (y.length = m)) then (List.replicate m 0, 0) else ([], 4)) := by
      cases xss with
      | nil => simp at hmem
      | cons x l => have := hx.out; simp at this; subst this; rw [← hml]; rfl
    generalize xss.all (fun y => decide (y.length = m)) = ok at hax HS
    rw [Nat.add_zero] at hc
    have HV := Lib.hid hvs; have HW := Lib.hid hvv; have HX := Lib.hid hax; have HRm := Lib.hid hrm; have HM := Lib.hid hs
    have hlt := lt_of_cell hc
    have hnp : (0 : Int) < (n : Int) := by omega
    clear hvs hvv hax hr hx hrm h h0 hmem hml hs
    go_enter Try.func80, Try.ntmps80
    go_wp2_with fail
    have HC := fun (W : World) (hW : W.cell? ⟨w.heap.size, 0, none⟩ = some (.int .i64 m)) (hV : Sl id W (some ⟨b, o, none⟩) n c vs) =>
      ContainsFuncBB_any id (lenNe m) 96 #[.pointer (some ⟨w.heap.size, 0, none⟩)] enters_nought (some ⟨b, o, none⟩) n c vs W hV (fun v hv => by
        obtain ⟨i, hi, e⟩ := List.getElem_of_mem hv
        obtain ⟨ys, q', c'', _, rfl, _⟩ := HW.out i v (by rw [List.getElem?_eq_getElem hi, e])
        exact nought1_any q' _ c'' w.heap.size m W hW)
    refine (HC _ ?_ ?_).mono ?_
    · exact cell_of_row _ _ 0 #[.int .i64 m] _ _ (hnew rfl)
    · exact HV.out.keep ((Below.refl _ _).alloc (Nat.le_refl _) _)
    rintro e w' ⟨rfl, rfl⟩
    rw [HX.out]
    cases ok with
    | false =>
      go_wp2
      go_ret2
      rw [HS.out]
      exact RetB.nil _ _ _ _ ((Below.refl _ _).alloc (Nat.le_refl _) _)
    | true =>
      have hm1 : m ≤ maxLen := by have := HM.out.le; have := HM.out.max; omega
      have hm2 : 1 * m ≤ 281474976710656 := by have := HRm.out; rw [HM.out.len] at this; unfold Room at this; omega
      have HM1 := Lib.hid hm1; have HM2 := Lib.hid hm2; clear hm1 hm2
      go_wp2_with (at_make; refine wpList_make_full _ rfl _ _ 25 rfl w.heap.size 5 i0 (.int .u8 0) 1 Try.underlying25 hi hz0 hz1 .i64 .i64 _ _ m rfl rfl rfl rfl (by rw [hz2]; exact HM2.out) HM1.out (by simp) ?_)
      intro w1 ho hg
      have ho' : w1.ownsRow w.heap.size 5 1 (.slice (some ⟨w.heap.size + 1, 0, none⟩) m m) m ((List.replicate m (0 : UInt8)).map B8) := by
        have e : (madeCells #[Value.int .u8 0] m).toList = (List.replicate m (0 : UInt8)).map B8 := by
          rw [List.map_replicate]; exact toList_madeCells_one _ _
        rw [← e]; exact ho
      have HO := Lib.hid ho'; clear ho ho'
      have HB := Lib.hid (((Below.refl w.heap.size w).alloc (Nat.le_refl _) _).grown hg (by simp) (by simp))
      clear hg
      go_wp2
      go_ret2
      rw [HS.out]
      exact ⟨_, m, m, by simp [Hid], rfl, HO.out, HB.out⟩
end Go.Proofs.Ytofhdakggapahaa
