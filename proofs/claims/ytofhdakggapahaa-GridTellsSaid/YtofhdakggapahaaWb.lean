/- The contract of the reference's combination. -/
import Derived.Test.YtofhdakggapahaaWa
namespace Go.Proofs.Ytofhdakggapahaa
open Go.RowKit Go.By
/-- the sum of the products in one place -/
def col (cs : List UInt8) (xss : List (List UInt8)) (i : Nat) (s : UInt8) : UInt8 := (List.zip cs xss).foldl (fun s r => s ^^^ Gf.gmul r.1 (r.2.getD i 0)) s
theorem combF_get (i m : Nat) (hi : i < m) (xss : List (List UInt8)) (h : ∀ xs, xs ∈ xss → xs.length = m) : ∀ (cs z : List UInt8), z.length = m → (combF z cs xss)[i]? = some (col cs xss i (z.getD i 0)) := by
  induction xss with
  | nil => intro cs z hz; simp [combF, col, List.getElem?_eq_getElem (show i < z.length by omega)]
  | cons x l ih =>
    intro cs z hz
    cases cs with
    | nil => simp [combF, col, List.getElem?_eq_getElem (show i < z.length by omega)]
    | cons c cs =>
      have hx := h x List.mem_cons_self
      have := ih (fun xs hx => h xs (List.mem_cons_of_mem _ hx)) cs (axpy c x z) (by rw [axpy_length _ _ _ (hx.trans hz.symm)]; exact hz)
      have e : (axpy c x z).getD i 0 = z.getD i 0 ^^^ Gf.gmul c (x.getD i 0) := by
        simp [axpy, List.getD, List.getElem?_zipWith, List.getElem?_eq_getElem (show i < z.length by omega), List.getElem?_eq_getElem (show i < x.length by omega)]
      rw [e] at this
      simpa [combF, col] using this
theorem col_step {cs : List UInt8} {xss : List (List UInt8)} {k i : Nat} {c y s : UInt8} {x : List UInt8} (hc : cs[k]? = some c) (hx : xss[k]? = some x) (hy : x[i]? = some y) :
    col (cs.take (k + 1)) (xss.take (k + 1)) i s = col (cs.take k) (xss.take k) i s ^^^ Gf.gmul c y := by
  have e : ∀ j, List.zip (cs.take j) (xss.take j) = (List.zip cs xss).take j := fun j => by simp [List.zip, List.take_zipWith]
  have hz : (List.zip cs xss)[k]? = some (c, x) := by simp [List.zip, List.getElem?_zipWith, hc, hx]
  obtain ⟨hk, hz⟩ := List.getElem?_eq_some_iff.1 hz
  simp only [col, e]
  rw [foldl_take_succ _ _ _ _ hk, hz]
  simp [List.getD, hy]
theorem take_snoc_of {α : Type} {xs : List α} {k : Nat} {x : α} (hx : xs[k]? = some x) : xs.take (k + 1) = xs.take k ++ [x] := by
  obtain ⟨hk, hx⟩ := List.getElem?_eq_some_iff.1 hx
  rw [List.take_succ_eq_append_getElem hk, hx]
theorem noughtS_of {xss : List (List UInt8)} {x0 : List UInt8} {m : Nat} (h0 : xss[0]? = some x0) (hm : x0.length = m) (h : ∀ xs, xs ∈ xss → xs.length = m) : noughtS xss = (List.replicate m 0, 0) := by
  cases xss with
  | nil => simp at h0
  | cons x l =>
    simp at h0; subst h0; subst hm
    simp only [noughtS]
    rw [if_pos (List.all_eq_true.2 fun xs hx => by simpa using h xs hx)]
theorem noughtS_not {xss : List (List UInt8)} {x0 x : List UInt8} (h0 : xss[0]? = some x0) (hx : x ∈ xss) (h : x.length ≠ x0.length) : noughtS xss = ([], 4) := by
  cases xss with
  | nil => simp at h0
  | cons y l =>
    simp at h0; subst h0
    simp only [noughtS]
    rw [if_neg]
    intro ha
    have := List.all_eq_true.1 ha x hx
    simp at this; exact h this
set_option maxRecDepth 100000 in
set_option maxHeartbeats 1000000 in
theorem RComb_any (p1 p2 : Option Addr) (n1 n2 c1 c2 : Nat) (cs : List UInt8) (xss : List (List UInt8)) (w : World) (h1 : Sl B8 w p1 n1 c1 cs) (h2 : Sl2 w p2 n2 c2 xss) (hr : ∀ xs, xs ∈ xss → Room xs.length) :
    Calls Try.prog 95 #[.slice p1 n1 c1, .slice p2 n2 c2] w (RetB 5 w (combS cs xss).1 (combS cs xss).2) := by
  obtain ⟨i0, hi, hz0, hz1, hz2⟩ := info_parts info_u8
  have b1 := h1.bound; have b2 := h2.bound
  by_cases he : n1 = n2
  · obtain rfl := he
    by_cases h0 : n1 = 0
    · subst h0
      have e1 : cs = [] := List.eq_nil_of_length_eq_zero h1.len
      have e2 : xss = [] := List.eq_nil_of_length_eq_zero h2.len
      subst e1; subst e2
      clear h1 h2 hr
      go_enter Try.func95, Try.ntmps95
      go_wp2
      go_ret2
      exact RetB.nil _ _ _ _ (Below.refl _ _)
    · obtain ⟨b, o, q0, m0, c0, x0, rfl, hc0, hs0, hx0⟩ := h2.at 0 (by omega)
      have hS : Hid (combS cs xss = if (noughtS xss).2 = 0 then (combF (noughtS xss).1 cs xss, 0) else ([], 4)) := by unfold combS; rw [if_pos (h1.len.trans h2.len.symm)]; rfl
      have hrm : Hid (Room m0) := by have := hr x0 (List.mem_of_getElem? hx0.out); rw [hs0.len] at this; exact this
      have hm0 := hs0.bound
      have hmm := Lib.hid (show m0 ≤ maxLen by have := hs0.le; have := hs0.max; omega)
      have HL0 := Lib.hid hs0.len
      have H1 := Lib.hid h1; have H2 := Lib.hid h2
      have hn0 : ((n1 : Int) == 0) = false := by simp; omega
      have hnp : (0 : Int) < (n1 : Int) := by omega
      rw [Nat.add_zero] at hc0
      clear h1 h2 hr hs0 h0
      go_enter Try.func95, Try.ntmps95
      go_wp2
      go_loopw [6] (fun i wr => ∃ k : Nat, k ≤ n1 ∧ i = .int .i64 k ∧ Below w.heap.size w wr ∧ Hid (∀ j x, j < k → xss[j]? = some x → x.length = m0)) (fun i _ => n1 - (intOf i).toNat)
      case atStart => exact ⟨0, Nat.zero_le _, rfl, Below.refl _ _, fun j x hj => by omega⟩
      case round =>
        obtain ⟨k, hk, rfl, hw, hj⟩ := hrel
        have hcz : wr.cell? ⟨b, o, none⟩ = some (.slice q0 m0 c0) := (hw.cell (p := ⟨b, o, none⟩) (lt_of_cell hc0)).trans hc0
        by_cases hlt : k < n1
        · obtain ⟨b', o', q, m, c', row, hp, hc, hs, hy⟩ := H2.out.at k hlt
          cases hp
          have hc' := (hw.cell (p := ⟨b, o + k, none⟩) (lt_of_cell hc)).trans hc
          have hml := Lib.hid hs.len
          have hmb := hs.bound
          have i1 : (k : Int) < (n1 : Int) := by omega
          clear hc hs
          by_cases hm : m = m0
          · subst hm
            go_wp2
            go_quiet (fail)
            go_wp2
            go_roundw
            case rel => exact ⟨k + 1, by omega, by go_num, ⟨hw.os, hw.tape, hw.output, hw.size, hw.block⟩, fun j x hj' hx => by
              by_cases e : j = k
              · subst e; have := hy.out.symm.trans hx; cases this; exact hml.out
              · exact hj.out j x (by omega) hx⟩
            case measure => simp [intOf]; omega
          · have hne : ((m : Int) != (m0 : Int)) = true := by simp; omega
            have HN := Lib.hid hm; clear hm
            go_wp2
            go_quiet (fail)
            go_wp2
            go_ret2
            rw [hS.out, noughtS_not hx0.out (List.mem_of_getElem? hy.out) (by rw [hml.out, HL0.out]; exact HN.out)]
            exact RetB.nil _ _ _ _ ⟨hw.os, hw.tape, hw.output, hw.size, hw.block⟩
        · have HALL : Hid (∀ xs, xs ∈ xss → xs.length = m0) := fun xs hx => by
            obtain ⟨j, hj', e⟩ := List.getElem_of_mem hx
            exact hj.out j xs (by have := H2.out.len; omega) (by rw [List.getElem?_eq_getElem hj', e])
          have HS : Hid (combS cs xss = (combF (List.replicate m0 0) cs xss, 0)) := by
            have := hS.out
            rw [noughtS_of hx0.out HL0.out HALL.out] at this
            exact this
          have HG : Hid (∀ i, i < m0 → (combF (List.replicate m0 0) cs xss)[i]? = some (col cs xss i 0)) := fun i hi' => by
            have := combF_get i m0 hi' xss HALL.out cs (List.replicate m0 0) (by simp)
            rw [this]; simp [List.getD, hi']
          have HLen : Hid ((combF (List.replicate m0 0) cs xss).length = m0) := combF_len cs xss m0 HALL.out _ (by simp)
          clear hS hj
          generalize combF (List.replicate m0 0) cs xss = Y at *
          go_wp2
          go_loopw [7, 8] (fun v i wr2 => ∃ k : Nat, k ≤ m0 ∧ i = .int .i64 k ∧ wr2.ownsRow w.heap.size 5 1 v k ((Y.take k).map B8) ∧ Below w.heap.size w wr2) (fun _ i _ => m0 - (intOf i).toNat)
          case atStart => exact ⟨0, Nat.zero_le _, rfl, by simpa using World.ownsRow_nil _ _ _ _, hw⟩
          case round =>
            clear hw hcz
            obtain ⟨k2, hk2, rfl, ho, hw⟩ := hrel
            have hcz : wr.cell? ⟨b, o, none⟩ = some (.slice q0 m0 c0) := (hw.cell (p := ⟨b, o, none⟩) (lt_of_cell hc0)).trans hc0
            obtain ⟨L, eL⟩ : ∃ L, L = (Y.take k2).map B8 := ⟨_, rfl⟩
            rw [← eL] at ho
            have HO := Lib.hid ho; have HEL := Lib.hid eL; clear ho eL
            by_cases hlt2 : k2 < m0
            · go_wp2
              go_loopw [9, 10] (fun s i wr3 => ∃ j : Nat, j ≤ n1 ∧ i = .int .i64 j ∧ s = B8 (col (cs.take j) (xss.take j) k2 0) ∧ wr3.ownsRow w.heap.size 5 1 u7 k2 L ∧ Below w.heap.size w wr3) (fun _ i _ => n1 - (intOf i).toNat)
              case atStart => exact ⟨0, Nat.zero_le _, rfl, by simp [col], HO.out, hw⟩
              case round =>
                clear hw hcz
                obtain ⟨j, hj, rfl, rfl, ho, hw⟩ := hrel
                have HO3 := Lib.hid ho; clear ho
                by_cases hlt3 : j < n1
                · obtain ⟨b1', o1', cj, rfl, hcj, hcx⟩ := (H1.out.keep hw).at j hlt3
                  obtain ⟨b', o', q, m, c', row, hp, hc, hs, hy⟩ := H2.out.at j hlt3
                  cases hp
                  have hc' := (hw.cell (p := ⟨b, o + j, none⟩) (lt_of_cell hc)).trans hc
                  have hmm' : m = m0 := by rw [← hs.len]; exact HALL.out row (List.mem_of_getElem? hy.out)
                  subst hmm'
                  obtain ⟨b2', o2', x, rfl, hcxx, hxx⟩ := (hs.keep hw).at k2 hlt2
                  have HZ := Lib.hid (col_step (s := 0) hcx.out hy.out hxx.out)
                  generalize col (cs.take j) (xss.take j) k2 0 = s at HZ ⊢
                  have i1 : (j : Int) < (n1 : Int) := by omega
                  have i2 : (k2 : Int) < (m : Int) := by omega
                  clear hc hs
                  go_wp2
                  go_quiet ((go_at_call 65; exact Calls.quiet_of_same (RefMul_q _ _ _)))
                  go_wp2
                  go_roundw
                  case rel => exact ⟨j + 1, by omega, by go_num, by rw [HZ.out]; exact B8_congr (bits_xor _ _), HO3.out, ⟨hw.os, hw.tape, hw.output, hw.size, hw.block⟩⟩
                  case measure => simp [intOf]; omega
                · have e1 : cs.take j = cs := List.take_of_length_le (by have := H1.out.len; omega)
                  have e2 : xss.take j = xss := List.take_of_length_le (by have := H2.out.len; omega)
                  rw [e1, e2]
                  have HY := Lib.hid (HG.out k2 hlt2)
                  generalize col cs xss k2 0 = s at HY ⊢
                  clear e1 e2
                  go_wp2_with (at_builtin; refine wpList_append_rs _ rfl _ _ 25 rfl w.heap.size 5 i0 (.int .u8 0) 1 Try.underlying25 hi hz0 hz1 hz2 rfl _ k2 _ rfl (HO3.out.alloc _) B8 _ _ _ [s] (fun _ _ => rfl) rfl (sl_one rfl rfl) ?c1 ?c2 ?c3 ?_)
                  case c1 => have := hmm.out; omega
                  case c2 => have := hrm.out; unfold Room at this; omega
                  case c3 => have := hw.size; simp; omega
                  intro v' w' ho hg
                  have HO' := Lib.hid ho; clear ho
                  have HB := Lib.hid ((hw.alloc hw.size _).grown hg (by have := hw.size; simp; omega) (fun j hj => (HO3.out.lt j hj).1))
                  clear hg
                  go_wp2
                  go_roundw
                  case rel => exact ⟨k2 + 1, by omega, by go_num, by rw [take_snoc_of HY.out, List.map_append, ← HEL.out]; exact HO'.out, HB.out⟩
                  case measure => simp [intOf]; omega
            · have hkm : k2 = m0 := by omega
              have HKM := Lib.hid hkm; clear hkm
              go_wp2
              go_ret2
              rw [HS.out]
              obtain ⟨q, c', hv⟩ := owns_shape HO.out
              have := HO.out
              rw [hv, HEL.out] at this
              have e : Y.take k2 = Y := List.take_of_length_le (by have := HLen.out; have := HKM.out; omega)
              rw [e] at this
              exact ⟨q, k2, c', by have := HLen.out; have := HKM.out; show Y.length = k2; omega, by rw [← hv]; rfl, this, hw⟩
  · have HR := Lib.hid (show combS cs xss = ([], 4) by simp [combS, h1.len, h2.len, he])
    have hne : ((n1 : Int) != (n2 : Int)) = true := by simp; omega
    clear h1 h2 hr
    go_enter Try.func95, Try.ntmps95
    go_wp2
    go_ret2
    rw [HR.out]
    exact RetB.nil _ _ _ _ (Below.refl _ _)
end Go.Proofs.Ytofhdakggapahaa
