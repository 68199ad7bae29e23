/- The contracts of the reference's functions of layer 2: Dot, Scale. The contract of the reference's combination. The walk of the law KernPairs. The contracts of the reference's functions of layer 3, and its inverse. The contracts of the reference's functions of layer 3. The contracts of the reference's Less and Same of layer 3, of the law's helpers, and of Unit. The plain law of VecLeads: what is normed leads with a 1, and so on. Linear algebra over the field of 256 elements: combinations, spans, independence, exchange, elimination. Nothing of the program. Vectors of n places: units, coordinates; products of rows; rows and columns have one rank; what is inverse from the left is from the right. Rows kept one by one, as the grid's rank and the document's keep them: as many as the rank says. The contract of the grid's Rank. Slices of rows that read so; the contract of the reference's Rest. Appends of rows: any part of a slice of rows onto a slice that the call owns. -/
import Derived.Test.YtofhdakggapahaaZk2
import Derived.Laws.AppendOwnNone
namespace Go.Proofs.Ytofhdakggapahaa
open Go.RowKit Go.By
theorem RefMul_q (a b : UInt8) (w : World) : Calls Try.prog 65 #[B8 a, B8 b] w fun e w' => e = .returned (B8 (Gf.gmul a b)) ∧ w' = w :=
  (RefMul_any a b w).mono fun _ _ ⟨h1, h2⟩ => ⟨h1, h2.symm⟩
theorem map_take_succ {α β : Type} (f : α → β) {xs : List α} {k : Nat} {x : α} (hx : xs[k]? = some x) : (xs.take (k + 1)).map f = (xs.take k).map f ++ [f x] := by
  obtain ⟨hk, hx⟩ := List.getElem?_eq_some_iff.1 hx
  rw [List.take_succ_eq_append_getElem hk, List.map_append, hx]; rfl
set_option maxHeartbeats 400000 in
theorem RScale_any (c : UInt8) (p : Option Addr) (n cc : Nat) (xs : List UInt8) (w : World) (h : Sl B8 w p n cc xs) (hn : Room n) :
    Calls Try.prog 102 #[B8 c, .slice p n cc] w (RetB1 5 w (xs.map (Gf.gmul c))) := by
  obtain ⟨i0, hi, hz0, hz1, hz2⟩ := info_parts info_u8
  have hb := h.bound
  have hm := h.max
  have hle := h.le
  have HL := Lib.hid (show n ≤ maxLen by omega)
  clear hm hle
  have H := Lib.hid h; clear h
  go_enter Try.func102, Try.ntmps102
  go_wp2
  go_loopw [5, 6] (fun v i wr => ∃ k : Nat, k ≤ n ∧ i = .int .i64 k ∧ wr.ownsRow w.heap.size 5 1 v k (((xs.take k).map (Gf.gmul c)).map B8) ∧ Below w.heap.size w wr) (fun _ i _ => n - (intOf i).toNat)
  case atStart => exact ⟨0, Nat.zero_le _, rfl, World.ownsRow_nil _ _ _ _, Below.refl _ _⟩
  case round =>
    obtain ⟨k, hk, rfl, ho, hw⟩ := hrel
    obtain ⟨L, eL⟩ : ∃ L, L = ((xs.take k).map (Gf.gmul c)).map B8 := ⟨_, rfl⟩
    rw [← eL] at ho
    have HO := Lib.hid ho; have HEL := Lib.hid eL; clear ho eL
    by_cases hlt : k < n
    · obtain ⟨b, o, x, rfl, hc, hx⟩ := (H.out.keep hw).at k hlt
      go_wp2_with (first
        | (go_at_call 65; refine (RefMul_any _ _ _).mono ?_; rintro e w' ⟨rfl, rfl⟩)
        | (at_builtin; refine wpList_append_rs _ rfl _ _ 25 rfl w.heap.size 5 i0 (.int .u8 0) 1 Try.underlying25 hi hz0 hz1 hz2 rfl _ k _ rfl (HO.out.alloc _) B8 _ _ _ [Gf.gmul c x] (fun _ _ => rfl) rfl (sl_one rfl rfl) ?c1 ?c2 ?c3 ?_))
      case c1 => have := HL.out; omega
      case c2 => unfold Room at hn; omega
      case c3 => have := hw.size; simp; omega
      intro v' w' ho hg
      have HO' := Lib.hid ho; clear ho
      have HB := Lib.hid ((hw.alloc hw.size _).grown hg (by have := hw.size; simp; omega) (fun j hj => (HO.out.lt j hj).1))
      clear hg
      go_wp2
      go_roundw
      case rel => exact ⟨k + 1, by omega, by go_num, by rw [map_take_succ _ hx.out, List.map_append, ← HEL.out]; exact HO'.out, HB.out⟩
      case measure => simp [intOf]; omega
    · go_wp2
      go_ret
      obtain ⟨q, c', hv⟩ := owns_shape HO.out
      have := HO.out
      rw [hv, HEL.out] at this
      have e : xs.take k = xs := List.take_of_length_le (by have := H.out.len; omega)
      rw [e] at this
      exact ⟨q, k, c', by have := H.out.len; show _ = _; rw [List.length_map]; omega, by rw [← hv]; rfl, this, hw⟩
end Go.Proofs.Ytofhdakggapahaa
namespace Go.Proofs.Ytofhdakggapahaa
open Go.RowKit Go.By
/-- the sum of the products in one place -/
def col (cs : List UInt8) (xss : List (List UInt8)) (i : Nat) (s : UInt8) : UInt8 := (List.zip cs xss).foldl (fun s r => s ^^^ Gf.gmul r.1 (r.2.getD i 0)) s
theorem combF_get (i m : Nat) (hi : i < m) (xss : List (List UInt8)) (h : ∀ xs, xs ∈ xss → xs.length = m) : ∀ (cs z : List UInt8), z.length = m → (combF z cs xss)[i]? = some (col cs xss i (z.getD i 0)) := by
  induction xss with
  | nil => intro cs z hz; simp [combF, col, List.getElem?_eq_getElem (show i < z.length by omega)]
  | cons x l ih =>
    intro cs z hz
    cases cs with
    | nil => simp [combF, col, List.getElem?_eq_getElem (show i < z.length by omega)]
    | cons c cs =>
      have hx := h x List.mem_cons_self
      have := ih (fun xs hx => h xs (List.mem_cons_of_mem _ hx)) cs (axpy c x z) (by rw [axpy_length _ _ _ (hx.trans hz.symm)]; exact hz)
      have e : (axpy c x z).getD i 0 = z.getD i 0 ^^^ Gf.gmul c (x.getD i 0) := by
        simp [axpy, List.getD, List.getElem?_zipWith, List.getElem?_eq_getElem (show i < z.length by omega), List.getElem?_eq_getElem (show i < x.length by omega)]
      rw [e] at this
      simpa [combF, col] using this
theorem col_step {cs : List UInt8} {xss : List (List UInt8)} {k i : Nat} {c y s : UInt8} {x : List UInt8} (hc : cs[k]? = some c) (hx : xss[k]? = some x) (hy : x[i]? = some y) :
    col (cs.take (k + 1)) (xss.take (k + 1)) i s = col (cs.take k) (xss.take k) i s ^^^ Gf.gmul c y := by
  have e : ∀ j, List.zip (cs.take j) (xss.take j) = (List.zip cs xss).take j := fun j => by simp [List.zip, List.take_zipWith]
  have hz : (List.zip cs xss)[k]? = some (c, x) := by simp [List.zip, List.getElem?_zipWith, hc, hx]
  obtain ⟨hk, hz⟩ := List.getElem?_eq_some_iff.1 hz
  simp only [col, e]
  rw [foldl_take_succ _ _ _ _ hk, hz]
  simp [List.getD, hy]
theorem take_snoc_of {α : Type} {xs : List α} {k : Nat} {x : α} (hx : xs[k]? = some x) : xs.take (k + 1) = xs.take k ++ [x] := by
  obtain ⟨hk, hx⟩ := List.getElem?_eq_some_iff.1 hx
  rw [List.take_succ_eq_append_getElem hk, hx]
theorem noughtS_of {xss : List (List UInt8)} {x0 : List UInt8} {m : Nat} (h0 : xss[0]? = some x0) (hm : x0.length = m) (h : ∀ xs, xs ∈ xss → xs.length = m) : noughtS xss = (List.replicate m 0, 0) := by
  cases xss with
  | nil => simp at h0
  | cons x l =>
    simp at h0; subst h0; subst hm
    simp only [noughtS]
    rw [if_pos (List.all_eq_true.2 fun xs hx => by simpa using h xs hx)]
theorem noughtS_not {xss : List (List UInt8)} {x0 x : List UInt8} (h0 : xss[0]? = some x0) (hx : x ∈ xss) (h : x.length ≠ x0.length) : noughtS xss = ([], 4) := by
  cases xss with
  | nil => simp at h0
  | cons y l =>
    simp at h0; subst h0
    simp only [noughtS]
    rw [if_neg]
    intro ha
    have := List.all_eq_true.1 ha x hx
    simp at this; exact h this
set_option maxRecDepth 100000 in
set_option maxHeartbeats 1000000 in
theorem RComb_any (p1 p2 : Option Addr) (n1 n2 c1 c2 : Nat) (cs : List UInt8) (xss : List (List UInt8)) (w : World) (h1 : Sl B8 w p1 n1 c1 cs) (h2 : Sl2 w p2 n2 c2 xss) (hr : ∀ xs, xs ∈ xss → Room xs.length) :
    Calls Try.prog 95 #[.slice p1 n1 c1, .slice p2 n2 c2] w (RetB 5 w (combS cs xss).1 (combS cs xss).2) := by
  obtain ⟨i0, hi, hz0, hz1, hz2⟩ := info_parts info_u8
  have b1 := h1.bound; have b2 := h2.bound
  by_cases he : n1 = n2
  · obtain rfl := he
    by_cases h0 : n1 = 0
    · subst h0
      have e1 : cs = [] := List.eq_nil_of_length_eq_zero h1.len
      have e2 : xss = [] := List.eq_nil_of_length_eq_zero h2.len
      subst e1; subst e2
      clear h1 h2 hr
      go_enter Try.func95, Try.ntmps95
      go_wp2
      go_ret2
      exact RetB.nil _ _ _ _ (Below.refl _ _)
    · obtain ⟨b, o, q0, m0, c0, x0, rfl, hc0, hs0, hx0⟩ := h2.at 0 (by omega)
      have hS : Hid (combS cs xss = if (noughtS xss).2 = 0 then (combF (noughtS xss).1 cs xss, 0) else ([], 4)) := by unfold combS; rw [if_pos (h1.len.trans h2.len.symm)]; rfl
      have hrm : Hid (Room m0) := by have := hr x0 (List.mem_of_getElem? hx0.out); rw [hs0.len] at this; exact this
      have hm0 := hs0.bound
      have hmm := Lib.hid (show m0 ≤ maxLen by have := hs0.le; have := hs0.max; omega)
      have HL0 := Lib.hid hs0.len
      have H1 := Lib.hid h1; have H2 := Lib.hid h2
      have hn0 : ((n1 : Int) == 0) = false := by simp; omega
      have hnp : (0 : Int) < (n1 : Int) := by omega
      rw [Nat.add_zero] at hc0
      clear h1 h2 hr hs0 h0
      go_enter Try.func95, Try.ntmps95
      go_wp2
      go_loopw [6] (fun i wr => ∃ k : Nat, k ≤ n1 ∧ i = .int .i64 k ∧ Below w.heap.size w wr ∧ Hid (∀ j x, j < k → xss[j]? = some x → x.length = m0)) (fun i _ => n1 - (intOf i).toNat)
      case atStart => exact ⟨0, Nat.zero_le _, rfl, Below.refl _ _, fun j x hj => by omega⟩
      case round =>
        obtain ⟨k, hk, rfl, hw, hj⟩ := hrel
        have hcz : wr.cell? ⟨b, o, none⟩ = some (.slice q0 m0 c0) := (hw.cell (p := ⟨b, o, none⟩) (lt_of_cell hc0)).trans hc0
        by_cases hlt : k < n1
        · obtain ⟨b', o', q, m, c', row, hp, hc, hs, hy⟩ := H2.out.at k hlt
          cases hp
          have hc' := (hw.cell (p := ⟨b, o + k, none⟩) (lt_of_cell hc)).trans hc
          have hml := Lib.hid hs.len
          have hmb := hs.bound
          have i1 : (k : Int) < (n1 : Int) := by omega
          clear hc hs
          by_cases hm : m = m0
          · subst hm
            go_wp2
            go_quiet (fail)
            go_wp2
            go_roundw
            case rel => exact ⟨k + 1, by omega, by go_num, ⟨hw.os, hw.tape, hw.output, hw.size, hw.block⟩, fun j x hj' hx => by
              by_cases e : j = k
              · subst e; have := hy.out.symm.trans hx; cases this; exact hml.out
              · exact hj.out j x (by omega) hx⟩
            case measure => simp [intOf]; omega
          · have hne : ((m : Int) != (m0 : Int)) = true := by simp; omega
            have HN := Lib.hid hm; clear hm
            go_wp2
            go_quiet (fail)
            go_wp2
            go_ret2
            rw [hS.out, noughtS_not hx0.out (List.mem_of_getElem? hy.out) (by rw [hml.out, HL0.out]; exact HN.out)]
            exact RetB.nil _ _ _ _ ⟨hw.os, hw.tape, hw.output, hw.size, hw.block⟩
        · have HALL : Hid (∀ xs, xs ∈ xss → xs.length = m0) := fun xs hx => by
            obtain ⟨j, hj', e⟩ := List.getElem_of_mem hx
            exact hj.out j xs (by have := H2.out.len; omega) (by rw [List.getElem?_eq_getElem hj', e])
          have HS : Hid (combS cs xss = (combF (List.replicate m0 0) cs xss, 0)) := by
            have := hS.out
            rw [noughtS_of hx0.out HL0.out HALL.out] at this
            exact this
          have HG : Hid (∀ i, i < m0 → (combF (List.replicate m0 0) cs xss)[i]? = some (col cs xss i 0)) := fun i hi' => by
            have := combF_get i m0 hi' xss HALL.out cs (List.replicate m0 0) (by simp)
            rw [this]; simp [List.getD, hi']
          have HLen : Hid ((combF (List.replicate m0 0) cs xss).length = m0) := combF_len cs xss m0 HALL.out _ (by simp)
          clear hS hj
          generalize combF (List.replicate m0 0) cs xss = Y at *
          go_wp2
          go_loopw [7, 8] (fun v i wr2 => ∃ k : Nat, k ≤ m0 ∧ i = .int .i64 k ∧ wr2.ownsRow w.heap.size 5 1 v k ((Y.take k).map B8) ∧ Below w.heap.size w wr2) (fun _ i _ => m0 - (intOf i).toNat)
          case atStart => exact ⟨0, Nat.zero_le _, rfl, by simpa using World.ownsRow_nil _ _ _ _, hw⟩
          case round =>
            clear hw hcz
            obtain ⟨k2, hk2, rfl, ho, hw⟩ := hrel
            have hcz : wr.cell? ⟨b, o, none⟩ = some (.slice q0 m0 c0) := (hw.cell (p := ⟨b, o, none⟩) (lt_of_cell hc0)).trans hc0
            obtain ⟨L, eL⟩ : ∃ L, L = (Y.take k2).map B8 := ⟨_, rfl⟩
            rw [← eL] at ho
            have HO := Lib.hid ho; have HEL := Lib.hid eL; clear ho eL
            by_cases hlt2 : k2 < m0
            · go_wp2
              go_loopw [9, 10] (fun s i wr3 => ∃ j : Nat, j ≤ n1 ∧ i = .int .i64 j ∧ s = B8 (col (cs.take j) (xss.take j) k2 0) ∧ wr3.ownsRow w.heap.size 5 1 u7 k2 L ∧ Below w.heap.size w wr3) (fun _ i _ => n1 - (intOf i).toNat)
              case atStart => exact ⟨0, Nat.zero_le _, rfl, by simp [col], HO.out, hw⟩
              case round =>
                clear hw hcz
                obtain ⟨j, hj, rfl, rfl, ho, hw⟩ := hrel
                have HO3 := Lib.hid ho; clear ho
                by_cases hlt3 : j < n1
                · obtain ⟨b1', o1', cj, rfl, hcj, hcx⟩ := (H1.out.keep hw).at j hlt3
                  obtain ⟨b', o', q, m, c', row, hp, hc, hs, hy⟩ := H2.out.at j hlt3
                  cases hp
                  have hc' := (hw.cell (p := ⟨b, o + j, none⟩) (lt_of_cell hc)).trans hc
                  have hmm' : m = m0 := by rw [← hs.len]; exact HALL.out row (List.mem_of_getElem? hy.out)
                  subst hmm'
                  obtain ⟨b2', o2', x, rfl, hcxx, hxx⟩ := (hs.keep hw).at k2 hlt2
                  have HZ := Lib.hid (col_step (s := 0) hcx.out hy.out hxx.out)
                  generalize col (cs.take j) (xss.take j) k2 0 = s at HZ ⊢
                  have i1 : (j : Int) < (n1 : Int) := by omega
                  have i2 : (k2 : Int) < (m : Int) := by omega
                  clear hc hs
                  go_wp2
                  go_quiet ((go_at_call 65; exact Calls.quiet_of_same (RefMul_q _ _ _)))
                  go_wp2
                  go_roundw
                  case rel => exact ⟨j + 1, by omega, by go_num, by rw [HZ.out]; exact B8_congr (bits_xor _ _), HO3.out, ⟨hw.os, hw.tape, hw.output, hw.size, hw.block⟩⟩
                  case measure => simp [intOf]; omega
                · have e1 : cs.take j = cs := List.take_of_length_le (by have := H1.out.len; omega)
                  have e2 : xss.take j = xss := List.take_of_length_le (by have := H2.out.len; omega)
                  rw [e1, e2]
                  have HY := Lib.hid (HG.out k2 hlt2)
                  generalize col cs xss k2 0 = s at HY ⊢
                  clear e1 e2
                  go_wp2_with (at_builtin; refine wpList_append_rs _ rfl _ _ 25 rfl w.heap.size 5 i0 (.int .u8 0) 1 Try.underlying25 hi hz0 hz1 hz2 rfl _ k2 _ rfl (HO3.out.alloc _) B8 _ _ _ [s] (fun _ _ => rfl) rfl (sl_one rfl rfl) ?c1 ?c2 ?c3 ?_)
                  case c1 => have := hmm.out; omega
                  case c2 => have := hrm.out; unfold Room at this; omega
                  case c3 => have := hw.size; simp; omega
                  intro v' w' ho hg
                  have HO' := Lib.hid ho; clear ho
                  have HB := Lib.hid ((hw.alloc hw.size _).grown hg (by have := hw.size; simp; omega) (fun j hj => (HO3.out.lt j hj).1))
                  clear hg
                  go_wp2
                  go_roundw
                  case rel => exact ⟨k2 + 1, by omega, by go_num, by rw [take_snoc_of HY.out, List.map_append, ← HEL.out]; exact HO'.out, HB.out⟩
                  case measure => simp [intOf]; omega
            · have hkm : k2 = m0 := by omega
              have HKM := Lib.hid hkm; clear hkm
              go_wp2
              go_ret2
              rw [HS.out]
              obtain ⟨q, c', hv⟩ := owns_shape HO.out
              have := HO.out
              rw [hv, HEL.out] at this
              have e : Y.take k2 = Y := List.take_of_length_le (by have := HLen.out; have := HKM.out; omega)
              rw [e] at this
              exact ⟨q, k2, c', by have := HLen.out; have := HKM.out; show Y.length = k2; omega, by rw [← hv]; rfl, this, hw⟩
  · have HR := Lib.hid (show combS cs xss = ([], 4) by simp [combS, h1.len, h2.len, he])
    have hne : ((n1 : Int) != (n2 : Int)) = true := by simp; omega
    clear h1 h2 hr
    go_enter Try.func95, Try.ntmps95
    go_wp2
    go_ret2
    rw [HR.out]
    exact RetB.nil _ _ _ _ (Below.refl _ _)
end Go.Proofs.Ytofhdakggapahaa
namespace Go.Proofs.Ytofhdakggapahaa
open Go.RowKit Go.By
theorem axpy_comb (c : UInt8) (xs ys : List UInt8) : combS [c, 1] [xs, ys] = axpyS c xs ys := by
  unfold combS axpyS
  rw [if_pos (show [c, 1].length = [xs, ys].length from rfl)]
  by_cases h : xs.length = ys.length
  · rw [if_pos h, noughtS_of (x0 := xs) (m := xs.length) rfl rfl (by intro zs hz; simp at hz; rcases hz with rfl | rfl <;> simp [h])]
    simp only [if_true]
    congr 1
    have e1 : axpy c xs (List.replicate xs.length 0) = xs.map (Gf.gmul c) := by
      apply List.ext_getElem?
      intro j
      simp only [axpy, List.getElem?_zipWith, List.getElem?_map]
      by_cases hj : j < xs.length
      · simp [hj]
      · simp [show xs.length ≤ j by omega]
    simp only [combF, List.zip, List.zipWith, List.foldl, e1]
    apply List.ext_getElem?
    intro j
    simp only [axpy, List.getElem?_zipWith, List.getElem?_map]
    by_cases hj : j < xs.length
    · simp [hj, show j < ys.length by omega, Gf.one_gmul, Gf.xor_comm]
    · simp [show xs.length ≤ j by omega, show ys.length ≤ j by omega]
  · rw [if_neg h, noughtS_not (x0 := xs) (x := ys) rfl (by simp) (by simpa using fun e => h e.symm)]
    simp
end Go.Proofs.Ytofhdakggapahaa
namespace Go.Proofs.Ytofhdakggapahaa
open Go.RowKit Go.By
def invOf (a : UInt8) : UInt8 := if a = 0 then 0 else Gf.ginv a
theorem inv_unique {a b : UInt8} (h : Gf.gmul a b = 1) : b = invOf a := by
  have ha : a ≠ 0 := by rintro rfl; rw [Gf.zero_gmul] at h; exact absurd h (by decide)
  rw [invOf, if_neg ha]
  have := congrArg (Gf.gmul (Gf.ginv a)) h
  rwa [← Gf.gmul_assoc, Gf.ginv_gmul a ha, Gf.one_gmul, Gf.gmul_one] at this
theorem inv_none {a : UInt8} (h : ∀ j : Nat, 1 ≤ j → j < 256 → Gf.gmul a (UInt8.ofNat j) ≠ 1) : invOf a = 0 := by
  by_cases ha : a = 0
  · simp [invOf, ha]
  · exfalso
    have h1 := Gf.ginv_ne a ha
    refine h (Gf.ginv a).toNat ?_ (Gf.ginv a).toNat_lt ?_
    · have : (Gf.ginv a).toNat ≠ 0 := fun e => h1 (UInt8.toNat_inj.1 e)
      omega
    · rw [UInt8.ofNat_toNat]; exact Gf.gmul_ginv a ha
set_option maxRecDepth 100000 in
set_option maxHeartbeats 400000 in
theorem RInv_any (a : UInt8) (w : World) : Calls Try.prog 101 #[B8 a] w fun e w' => e = .returned (B8 (invOf a)) ∧ w = w' := by
  go_enter Try.func101, Try.ntmps101
  go_wp2
  go_loop [3] (fun i => ∃ k : Nat, 1 ≤ k ∧ k ≤ 256 ∧ i = .int .i64 k ∧ Hid (∀ j : Nat, 1 ≤ j → j < k → Gf.gmul a (UInt8.ofNat j) ≠ 1)) (fun i => 256 - (intOf i).toNat)
  case atStart => exact ⟨1, by omega, by omega, rfl, fun j h1 h2 => by omega⟩
  case round =>
    obtain ⟨k, hk1, hk, rfl, hj⟩ := hrel
    by_cases hlt : k < 256
    · have C := fun W => RefMul_any a (UInt8.ofNat k) W
      rw [← byte_nat hlt] at C
      have HC := Lib.hid C; clear C
      by_cases h1 : Gf.gmul a (UInt8.ofNat k) = 1
      · have HU := Lib.hid (inv_unique h1)
        rw [h1] at HC
        clear h1
        go_wp2_with fail
        refine (HC.out _).mono ?_; rintro e w' ⟨rfl, rfl⟩
        go_wp2
        go_ret
        refine ⟨?_, rfl⟩
        rw [← HU.out, ← byte_nat hlt]; rfl
      · have ht : (((Gf.gmul a (UInt8.ofNat k)).toNat : Int) == 1) = false := by
          rw [beq_eq_false_iff_ne]; intro e; exact h1 (UInt8.toNat_inj.1 (by have : (1 : UInt8).toNat = 1 := rfl; omega))
        have HN := Lib.hid h1; clear h1
        generalize Gf.gmul a (UInt8.ofNat k) = g at HC ht
        go_wp2_with fail
        refine (HC.out _).mono ?_; rintro e w' ⟨rfl, rfl⟩
        go_wp2
        go_round
        case rel => exact ⟨k + 1, by omega, by omega, by go_num, fun j h1 h2 => by
          by_cases e : j = k
          · subst e; exact HN.out
          · exact hj.out j h1 (by omega)⟩
        case measure => simp [intOf]; omega
    · go_wp2
      go_ret
      exact ⟨by rw [inv_none (fun j h1 h2 => hj.out j h1 (by omega))]; rfl, rfl⟩
end Go.Proofs.Ytofhdakggapahaa
namespace Go.Proofs.Ytofhdakggapahaa
open Go.RowKit Go.By
set_option maxHeartbeats 400000 in
theorem RLead_any (p : Option Addr) (n c : Nat) (v : List UInt8) (w : World) (h : Sl B8 w p n c v) :
    Calls Try.prog 75 #[.slice p n c] w fun e w' => e = .returned (.int .i64 (leadS v)) ∧ w = w' := by
  have hb := h.bound
  have H := Lib.hid h; clear h
  go_enter Try.func75, Try.ntmps75
  go_wp2
  go_loop [3] (fun i => ∃ k : Nat, k ≤ n ∧ i = .int .i64 k ∧ Hid (∀ j y, j < k → v[j]? = some y → decide (y ≠ 0) = false)) (fun i => n - (intOf i).toNat)
  case atStart => exact ⟨0, Nat.zero_le _, rfl, fun j y hj => by omega⟩
  case round =>
    obtain ⟨k, hk, rfl, hj⟩ := hrel
    by_cases hlt : k < n
    · obtain ⟨b, o, x, rfl, hc, hx⟩ := H.out.at k hlt
      have ht := nat_ne_zero x
      by_cases h0 : x = 0
      · rw [decide_eq_false (by simpa using h0)] at ht
        have H0 := Lib.hid h0; clear h0
        go_wp2
        go_round
        case rel => exact ⟨k + 1, by omega, by go_num, fun j y hj' hy => by
          by_cases e : j = k
          · subst e; have := hx.out.symm.trans hy; cases this; simp [H0.out]
          · exact hj.out j y (by omega) hy⟩
        case measure => simp [intOf]; omega
      · rw [decide_eq_true (by simpa using h0)] at ht
        have H0 := Lib.hid h0; clear h0
        go_wp2
        go_ret
        exact ⟨by rw [leadS, idxf_found hx.out (by simpa using H0.out) hj.out]; rfl, rfl⟩
    · go_wp2
      go_ret
      exact ⟨by rw [leadS, idxf_none (k := k) (by have := H.out.len; omega) hj.out]; rfl, rfl⟩
/-- where a vector leads: nowhere, or at a place with a byte that isn't 0 -/
theorem leadS_cases (v : List UInt8) : (leadS v = -1 ∧ atS v (leadS v) = 0 ∧ ∀ x, x ∈ v → x = 0) ∨ ∃ (k : Nat) (x : UInt8), leadS v = (k : Int) ∧ v[k]? = some x ∧ x ≠ 0 ∧ atS v (leadS v) = x ∧ ∀ (j : Nat) (y : UInt8), j < k → v[j]? = some y → y = 0 := by
  unfold leadS idxf
  cases h : v.findIdx? (fun b => decide (b ≠ 0)) with
  | none =>
    left
    refine ⟨rfl, by simp [atS], ?_⟩
    rw [List.findIdx?_eq_none_iff] at h
    intro x hx
    have := h x hx
    simpa using this
  | some i =>
    right
    obtain ⟨hi, hf, hb⟩ := List.findIdx?_eq_some_iff_getElem.1 h
    refine ⟨i, v[i], rfl, List.getElem?_eq_getElem hi, by simpa using hf, by simp [atS, List.getD, hi], ?_⟩
    intro j y hj hy
    obtain ⟨hj', e⟩ := List.getElem?_eq_some_iff.1 hy
    have := hb j hj
    rw [e] at this
    simpa using this
theorem info_ref : (Try.prog.info? 68).map (·.size) = some 2 := by kernel_rfl
/-- one result: a row that reads so -/
def RetS (w : World) (r : List UInt8 × List UInt8) (e : Ending) (w' : World) : Prop :=
  ∃ q1 m1 c1 q2 m2 c2, e = .returned (.agg #[.slice q1 m1 c1, .slice q2 m2 c2]) ∧ Sl B8 w' q1 m1 c1 r.1 ∧ Sl B8 w' q2 m2 c2 r.2 ∧ Below w.heap.size w w'
set_option maxRecDepth 100000 in
set_option maxHeartbeats 1000000 in
theorem RNorm_any (p1 p2 : Option Addr) (n1 c1 n2 c2 : Nat) (v d : List UInt8) (w : World) (h1 : Sl B8 w p1 n1 c1 v) (h2 : Sl B8 w p2 n2 c2 d) (r1 : Room n1) (r2 : Room n2) :
    Calls Try.prog 91 #[.agg #[.slice p1 n1 c1, .slice p2 n2 c2]] w (RetS w (normS (v, d))) := by
  have hi := info_ref
  have H1 := Lib.hid h1; have H2 := Lib.hid h2
  have b1 := h1.bound
  have hB : ∀ o1 o2, Below w.heap.size w ((w.alloc o1).alloc o2) := fun o1 o2 => al (al (Below.refl _ _) (Nat.le_refl _)) (by simp)
  rcases leadS_cases v with ⟨e1, e2, -⟩ | ⟨k, x, e1, e2, e3, e4, -⟩
  · have HN : Hid (normS (v, d) = (v, d)) := if_pos e2
    have CL := Lib.hid (fun W a => RLead_any p1 n1 c1 v W a)
    rw [e1] at CL
    clear h1 h2 e1 e2
    go_enter Try.func91, Try.ntmps91
    go_wp2_with fail
    refine (CL.out _ (H1.out.keep (hB _ _))).mono ?_; rintro e w' ⟨rfl, rfl⟩
    go_wp2
    rw [HN.out]
    refine bodyPost_ret (results_cell_row rfl _ _ _ 68 #[.slice p1 n1 c1, .slice p2 n2 c2] (0, 0) _ rfl (hnew (by simp)) Try.underlying68 rfl hi) rfl ⟨p1, n1, c1, p2, n2, c2, rfl, H1.out.keep (hB _ _), H2.out.keep (hB _ _), hB _ _⟩
  · have HN : Hid (normS (v, d) = (v.map (Gf.gmul (invOf x)), d.map (Gf.gmul (invOf x)))) := by
      show _ = _
      simp only [normS, e4, if_neg e3, invOf]
    have CL := Lib.hid (fun W a => RLead_any p1 n1 c1 v W a)
    rw [e1] at CL
    have hk : k < n1 := by have := (List.getElem?_eq_some_iff.1 e2).1; rw [h1.len] at this; exact this
    obtain ⟨b, o, x', rfl, hc, hx⟩ := h1.at k hk
    have hxx : x' = x := Option.some.inj (hx.out.symm.trans e2)
    subst hxx
    have hcc : ∀ o1 o2, ((w.alloc o1).alloc o2).cell? ⟨b, o + k, none⟩ = some (B8 x') := fun o1 o2 => calloc (calloc hc)
    have kp : ¬ ((k : Int) < 0) := by omega
    have kn : (k : Int) < (n1 : Int) := by omega
    have HI := Lib.hid (fun W => RInv_any x' W)
    generalize invOf x' = g at *
    clear h1 h2 e1 e2 e3 e4 hx hc
    go_enter Try.func91, Try.ntmps91
    go_wp2_with fail
    refine (CL.out _ (H1.out.keep (hB _ _))).mono ?_; rintro e w' ⟨rfl, rfl⟩
    go_wp2_with fail
    refine (HI.out _).mono ?_; rintro e w' ⟨rfl, rfl⟩
    have hB' := hB (.cells #[.slice (some ⟨b, o, none⟩) n1 c1, .slice p2 n2 c2] 68) (.cells #[.slice none 0 0, .slice none 0 0] 68)
    have e1 : ((w.alloc (.cells #[.slice (some ⟨b, o, none⟩) n1 c1, .slice p2 n2 c2] 68)).alloc (.cells #[.slice none 0 0, .slice none 0 0] 68)).heap[w.heap.size]? = some (.cells #[.slice (some ⟨b, o, none⟩) n1 c1, .slice p2 n2 c2] 68 (0, 0)) := hal (hnew rfl)
    have e2 : ((w.alloc (.cells #[.slice (some ⟨b, o, none⟩) n1 c1, .slice p2 n2 c2] 68)).alloc (.cells #[.slice none 0 0, .slice none 0 0] 68)).heap[w.heap.size + 1]? = some (.cells #[.slice none 0 0, .slice none 0 0] 68 (0, 0)) := hnew (w := w.alloc _) (by simp)
    have esz : w.heap.size + 2 ≤ ((w.alloc (.cells #[.slice (some ⟨b, o, none⟩) n1 c1, .slice p2 n2 c2] 68)).alloc (.cells #[.slice none 0 0, .slice none 0 0] 68)).heap.size := by simp
    clear hB hcc
    go_wp2_with fail
    generalize (w.alloc (.cells #[.slice (some ⟨b, o, none⟩) n1 c1, .slice p2 n2 c2] 68)).alloc (.cells #[.slice none 0 0, .slice none 0 0] 68) = W at *
    have R0 : ∀ W', Below (w.heap.size + 2) W W' → W'.cell? ⟨w.heap.size, 0, none⟩ = some (.slice (some ⟨b, o, none⟩) n1 c1) := fun W' h => cell_of_row _ _ 0 _ _ _ ((h.block _ (by omega)).trans e1)
    have R1 : ∀ W', Below (w.heap.size + 2) W W' → W'.cell? ⟨w.heap.size, 1, none⟩ = some (.slice p2 n2 c2) := fun W' h => cell_of_row _ _ 1 _ _ _ ((h.block _ (by omega)).trans e1)
    have R2 : ∀ W', Below (w.heap.size + 2) W W' → W'.cell? ⟨w.heap.size + 1, 0, none⟩ = some (.slice none 0 0) := fun W' h => cell_of_row _ _ 0 _ _ _ ((h.block _ (by omega)).trans e2)
    have R3 : ∀ W', Below (w.heap.size + 2) W W' → W'.cell? ⟨w.heap.size + 1, 1, none⟩ = some (.slice none 0 0) := fun W' h => cell_of_row _ _ 1 _ _ _ ((h.block _ (by omega)).trans e2)
    have Z2 : ∀ W', Below (w.heap.size + 2) W W' → W'.frozen? ⟨w.heap.size + 1, 0, none⟩ = false := fun W' h => frozen_of_row _ _ 0 _ _ ((h.block _ (by omega)).trans e2)
    have Z3 : ∀ W', Below (w.heap.size + 2) W W' → W'.frozen? ⟨w.heap.size + 1, 1, none⟩ = false := fun W' h => frozen_of_row _ _ 1 _ _ ((h.block _ (by omega)).trans e2)
    have E2 := Lib.hid e2
    clear e1 e2
    have hd : Below (w.heap.size + 2) W W.drew := (Below.refl _ _).drew
    have C1 : Hid (∀ W', Below (w.heap.size + 2) W W' → Calls Try.prog 102 #[B8 g, .slice (some ⟨b, o, none⟩) n1 c1] W' (RetB1 5 W' (v.map (Gf.gmul g)))) := fun W' h => RScale_any g _ n1 c1 v W' (H1.out.keep (hB'.trans (h.mono (by omega)))) r1
    have C2 : Hid (∀ W', Below (w.heap.size + 2) W W' → Calls Try.prog 102 #[B8 g, .slice p2 n2 c2] W' (RetB1 5 W' (d.map (Gf.gmul g)))) := fun W' h => RScale_any g p2 n2 c2 d W' (H2.out.keep (hB'.trans (h.mono (by omega)))) r2
    have hB2 := Lib.hid hB'
    clear hB'
    go_region_with (first
      | (go_at_call 102; (with_reducible refine Calls.mono (C1.out _ (by assumption)) ?_); rintro e w1 ⟨q1, m1, c1', hm1, rfl, ho1, hb1⟩; have hw1 := stp (by assumption) hb1 rfl esz)
      | (go_at_call 102; (with_reducible refine Calls.mono (C2.out _ (by assumption)) ?_); rintro e w2 ⟨q2, m2, c2', hm2, rfl, ho2, hb2⟩; have hw2 := stp (by assumption) hb2 rfl esz))
    all_goals go_wp2
    all_goals rw [HN.out]
    all_goals first
      | (refine bodyPost_ret (results_cell_row rfl _ _ _ 68 #[.slice q1 m1 c1', .slice q2 m2 c2'] (0, 0) _ rfl (hss (hss ((hw2.block _ (by omega)).trans E2.out))) Try.underlying68 rfl hi) rfl ⟨q1, m1, c1', q2, m2, c2', rfl, Sl.of_owns (owns_set (owns_set (owns_keep ho1 hb2) (show w.heap.size + 1 < _ by have := hw1.size; simp; omega)) (show w.heap.size + 1 < _ by have := hw1.size; simp; omega)), Sl.of_owns (owns_set (owns_set ho2 (show w.heap.size + 1 < _ by have := hw1.size; simp; omega)) (show w.heap.size + 1 < _ by have := hw1.size; simp; omega)), ((hB2.out.trans (hw2.mono (by omega))).setCell (by simp) _).setCell (by simp) _⟩)
      | (refine bodyPost_ret (results_cell_row rfl _ _ _ 68 #[.slice q1 m1 c1', .slice q2 m2 c2'] (0, 0) _ rfl (hss (hss ((hw1.block _ (by omega)).trans E2.out))) Try.underlying68 rfl hi) rfl ⟨q1, m1, c1', q2, m2, c2', rfl, Sl.of_owns (owns_set (owns_set ho1 (show w.heap.size + 1 < _ by have := hw2.size; simp; omega)) (show w.heap.size + 1 < _ by have := hw2.size; simp; omega)), Sl.of_owns (owns_set (owns_set (owns_keep ho2 hb1) (show w.heap.size + 1 < _ by have := hw2.size; simp; omega)) (show w.heap.size + 1 < _ by have := hw2.size; simp; omega)), ((hB2.out.trans (hw1.mono (by omega))).setCell (by simp) _).setCell (by simp) _⟩)
end Go.Proofs.Ytofhdakggapahaa
namespace Go.Proofs.Ytofhdakggapahaa
open Go.RowKit Go.By
theorem comb_axpy (c : UInt8) (r o : List UInt8) : combS [1, c] [r, o] = axpyS c o r := by
  unfold combS axpyS
  rw [if_pos (show [1, c].length = [r, o].length from rfl)]
  by_cases h : o.length = r.length
  · rw [if_pos h, noughtS_of (x0 := r) (m := r.length) rfl rfl (by intro zs hz; simp at hz; rcases hz with rfl | rfl <;> simp [h])]
    simp only [if_true]
    congr 1
    have e1 : axpy 1 r (List.replicate r.length 0) = r := by
      apply List.ext_getElem?
      intro j
      simp only [axpy, List.getElem?_zipWith]
      by_cases hj : j < r.length
      · simp [hj, Gf.one_gmul]
      · simp [show r.length ≤ j by omega]
    simp only [combF, List.zip, List.zipWith, List.foldl, e1]
  · rw [if_neg h, noughtS_not (x0 := r) (x := o) rfl (by simp) h]
    simp
/-- two results: a row that reads so, and a code -/
def RetS2 (w : World) (r : List UInt8 × List UInt8) (code : Int) (e : Ending) (w' : World) : Prop :=
  ∃ q1 m1 c1 q2 m2 c2, e = .returned (.tuple #[.agg #[.slice q1 m1 c1, .slice q2 m2 c2], .int .i64 code]) ∧ Sl B8 w' q1 m1 c1 r.1 ∧ Sl B8 w' q2 m2 c2 r.2 ∧ Below w.heap.size w w'
set_option maxRecDepth 100000 in
set_option maxHeartbeats 1000000 in
theorem RLess_any (p1 p2 p3 p4 : Option Addr) (n1 c1 n2 c2 n3 c3 n4 c4 : Nat) (v d x y : List UInt8) (c : UInt8) (w : World) (h1 : Sl B8 w p1 n1 c1 v) (h2 : Sl B8 w p2 n2 c2 d) (h3 : Sl B8 w p3 n3 c3 x) (h4 : Sl B8 w p4 n4 c4 y) (r1 : Room n1) (r2 : Room n2) (r3 : Room n3) (r4 : Room n4) :
    Calls Try.prog 74 #[.agg #[.slice p1 n1 c1, .slice p2 n2 c2], B8 c, .agg #[.slice p3 n3 c3, .slice p4 n4 c4]] w (RetR2 5 w (lessS (v, d) c (x, y)).1 (lessS (v, d) c (x, y)).2) := by
  have hi := info_ref
  have H1 := Lib.hid h1; have H2 := Lib.hid h2; have H3 := Lib.hid h3; have H4 := Lib.hid h4
  have hB : ∀ o1 o2 o3, Below w.heap.size w (((w.alloc o1).alloc o2).alloc o3) := fun o1 o2 o3 => al (al (al (Below.refl _ _) (Nat.le_refl _)) (by simp)) (by simp; omega)
  have F : ∀ (w1 : World), (Below (w.heap.size + 3) (((w.alloc (.cells #[.slice p1 n1 c1, .slice p2 n2 c2] 68)).alloc (.cells #[.slice p3 n3 c3, .slice p4 n4 c4] 68)).alloc (.cells #[.slice none 0 0, .slice none 0 0] 68)) w1) →
      w1.heap[w.heap.size]? = some (.cells #[.slice p1 n1 c1, .slice p2 n2 c2] 68 (0, 0)) ∧ w1.heap[w.heap.size + 1]? = some (.cells #[.slice p3 n3 c3, .slice p4 n4 c4] 68 (0, 0)) ∧ w1.heap[w.heap.size + 1 + 1]? = some (.cells #[.slice none 0 0, .slice none 0 0] 68 (0, 0)) := fun w1 h =>
    ⟨(h.block _ (by omega)).trans (hal (hal (hnew rfl))), (h.block _ (by omega)).trans (hal (hnew (by simp))), (h.block _ (by omega)).trans (hnew (by simp))⟩
  have hr1 : ∀ zs, zs ∈ [v, x] → Room zs.length := fun zs hz => by
    simp at hz; rcases hz with rfl | rfl
    · rw [h1.len]; exact r1
    · rw [h3.len]; exact r3
  have hr2 : ∀ zs, zs ∈ [d, y] → Room zs.length := fun zs hz => by
    simp at hz; rcases hz with rfl | rfl
    · rw [h2.len]; exact r2
    · rw [h4.len]; exact r4
  have d1 := fun p p' k k' W a b => RComb_any p p' 2 2 k k' [1, c] [v, x] W a b hr1
  have d2 := fun p p' k k' W a b => RComb_any p p' 2 2 k k' [1, c] [d, y] W a b hr2
  rw [comb_axpy] at d1 d2
  have D1 := Lib.hid d1; have D2 := Lib.hid d2
  have HF := Lib.hid F
  have L1 := Lib.hid h1.len; have L2 := Lib.hid h2.len; have L3 := Lib.hid h3.len; have L4 := Lib.hid h4.len
  clear F h1 h2 h3 h4 d1 d2 hr1 hr2
  have cA := show axpyS c x v = (axpy c x v, 0) ∨ axpyS c x v = ([], 4) by unfold axpyS; split <;> simp
  have cB := show axpyS c y d = (axpy c y d, 0) ∨ axpyS c y d = ([], 4) by unfold axpyS; split <;> simp
  have HR : Hid (lessS (v, d) c (x, y) = if (axpyS c x v).2 = 0 ∧ (axpyS c y d).2 = 0 then (((axpyS c x v).1, (axpyS c y d).1), 0) else (([], []), 4)) := by
    show _ = _
    unfold lessS axpyS
    by_cases e1 : x.length = v.length <;> by_cases e2 : y.length = d.length <;> simp [e1, e2]
  have CA := Lib.hid cA; have CB := Lib.hid cB; clear cA cB
  generalize axpyS c x v = A at *
  generalize axpyS c y d = B at *
  go_enter Try.func74, Try.ntmps74
  go_wp2_with fail
  refine Calls.mono (D1.out _ _ _ _ _ ?_ ?_) ?_
  · exact sl_block [1, c] 2 (hal (hnew (by simp))) rfl rfl (by simp [maxLen])
  · exact sl2_pair (hnew (by simp)) (H1.out.keep (al (al (hB _ _ _) (by simp; omega)) (by simp; omega))) (H3.out.keep (al (al (hB _ _ _) (by simp; omega)) (by simp; omega)))
  rintro e w1 ⟨q1, m1, k1, g1, rfl, ho1, hb1⟩
  have HO1 := Lib.hid ho1; clear ho1
  have kb : Below (w.heap.size + 3) (((w.alloc (.cells #[.slice p1 n1 c1, .slice p2 n2 c2] 68)).alloc (.cells #[.slice p3 n3 c3, .slice p4 n4 c4] 68)).alloc (.cells #[.slice none 0 0, .slice none 0 0] 68)) w1 := bl (al (al (Below.refl _ _) (by simp)) (by simp)) hb1 (by simp)
  obtain ⟨f0, f1, f2⟩ := HF.out w1 kb
  have l0 : w1.cell? ⟨w.heap.size, 1, none⟩ = some (.slice p2 n2 c2) := cell_of_row _ _ 1 _ _ _ f0
  have l1 : w1.cell? ⟨w.heap.size + 1, 1, none⟩ = some (.slice p4 n4 c4) := cell_of_row _ _ 1 _ _ _ f1
  have l0' : ∀ o1, (w1.alloc o1).cell? ⟨w.heap.size, 1, none⟩ = some (.slice p2 n2 c2) := fun o1 => calloc l0
  have l1' : ∀ o1, (w1.alloc o1).cell? ⟨w.heap.size + 1, 1, none⟩ = some (.slice p4 n4 c4) := fun o1 => calloc l1
  have hw1 : Below w.heap.size w w1 := bl (al (al (hB _ _ _) (by simp; omega)) (by simp; omega)) hb1 (by simp; omega)
  have hs1 : w.heap.size + 5 ≤ w1.heap.size := by have := hb1.size; simp at this; omega
  clear f0 f1 f2 hB
  go_wp2_with fail
  refine Calls.mono (D2.out _ _ _ _ _ ?_ ?_) ?_
  · exact sl_block [1, c] 2 (hal (hnew (by simp))) rfl rfl (by simp [maxLen])
  · exact sl2_pair (hnew (by simp)) (H2.out.keep (al (al hw1 hw1.size) (by have := hw1.size; simp; omega))) (H4.out.keep (al (al hw1 hw1.size) (by have := hw1.size; simp; omega)))
  rintro e w2 ⟨q2, m2, k2, g2, rfl, ho2, hb2⟩
  have HO2 := Lib.hid ho2; clear ho2
  have hx2 : Below w1.heap.size w1 w2 := bl (al (al (Below.refl _ _) (Nat.le_refl _)) (by simp)) hb2 (by simp; omega)
  have kb2 := kb.trans (hx2.mono (by omega))
  have hw2 := bl hw1 hx2 hw1.size
  obtain ⟨_, _, f2⟩ := HF.out w2 kb2
  have t0 : w2.cell? ⟨w.heap.size + 1 + 1, 0, none⟩ = some (.slice none 0 0) := cell_of_row _ _ 0 _ _ _ f2
  have t1 : w2.cell? ⟨w.heap.size + 1 + 1, 1, none⟩ = some (.slice none 0 0) := cell_of_row _ _ 1 _ _ _ f2
  have z0 : w2.frozen? ⟨w.heap.size + 1 + 1, 0, none⟩ = false := frozen_of_row _ _ 0 _ _ f2
  have z1 : w2.frozen? ⟨w.heap.size + 1 + 1, 1, none⟩ = false := frozen_of_row _ _ 1 _ _ f2
  have E2 := Lib.hid f2; clear f2 kb kb2
  have O1 : Hid (w2.ownsRow (w.heap.size + 3) 5 1 (.slice q1 m1 k1) m1 (A.1.map B8)) := owns_mono (owns_keep HO1.out hx2) (by simp)
  have O2 : Hid (w2.ownsRow (w.heap.size + 3) 5 1 (.slice q2 m2 k2) m2 (B.1.map B8)) := owns_mono HO2.out (by simp; omega)
  clear HO1 HO2 hb1 hb2
  have hwb := Lib.hid hw2
  rcases CA.out with eA | eA <;> rcases CB.out with eB | eB
  · rw [eA, eB] at HR; rw [eA] at O1 g1; rw [eB] at O2 g2
    rw [eA, eB]
    go_wp2
    rw [HR.out]
    exact bodyPost_ret (results_cell_tmp rfl _ _ _ 68 #[.slice q1 m1 k1, .slice q2 m2 k2] (0, 0) _ (.int .i64 0) rfl (hss (hss E2.out)) rfl Try.underlying68 rfl hi) rfl ⟨q1, m1, k1, q2, m2, k2, g1, g2, rfl, owns_mono (owns_set (owns_set O1.out (by omega)) (by omega)) (by omega), owns_mono (owns_set (owns_set O2.out (by omega)) (by omega)) (by omega), (hwb.out.setCell (by simp; omega) _).setCell (by simp; omega) _⟩
  all_goals
    rw [eA, eB] at HR
    rw [eA, eB]
    go_wp2
    rw [HR.out]
    exact bodyPost_ret (results_cell_tmp rfl _ _ _ 68 #[.slice none 0 0, .slice none 0 0] (0, 0) _ (.int .i64 4) rfl (hss (hss E2.out)) rfl Try.underlying68 rfl hi) rfl ⟨none, 0, 0, none, 0, 0, rfl, rfl, rfl, World.ownsRow_nil _ _ _ _, World.ownsRow_nil _ _ _ _, (hwb.out.setCell (by simp; omega) _).setCell (by simp; omega) _⟩
end Go.Proofs.Ytofhdakggapahaa
namespace Go.Proofs.Ytofhdakggapahaa
open Go.By
theorem lead_is {v : List UInt8} {k : Nat} {x : UInt8} (h : v[k]? = some x) (hx : x ≠ 0) (hj : ∀ (j : Nat) (y : UInt8), j < k → v[j]? = some y → y = 0) : leadS v = (k : Int) := by
  rcases leadS_cases v with ⟨_, _, h3⟩ | ⟨k', x', e, h1, h2, _, h4⟩
  · exact absurd (h3 x (List.mem_of_getElem? h)) hx
  · rw [e]
    rcases Nat.lt_trichotomy k' k with g | g | g
    · exact absurd (hj k' x' g h1) h2
    · rw [g]
    · exact absurd (h4 k x g h) hx
theorem norm_cases (v d : List UInt8) : (leadS v = -1 ∧ normS (v, d) = (v, d)) ∨
    ∃ (k : Nat) (x : UInt8), leadS v = (k : Int) ∧ x ≠ 0 ∧ v[k]? = some x ∧ (∀ (j : Nat) (y : UInt8), j < k → v[j]? = some y → y = 0) ∧ normS (v, d) = (v.map (Gf.gmul (Gf.ginv x)), d.map (Gf.gmul (Gf.ginv x))) := by
  rcases leadS_cases v with ⟨h1, h2, _⟩ | ⟨k, x, e, h1, h2, h3, h4⟩
  · exact .inl ⟨h1, if_pos h2⟩
  · right
    refine ⟨k, x, e, h2, h1, h4, ?_⟩
    unfold normS
    simp only [h3, if_neg h2]
theorem norm_lead (v d : List UInt8) : leadS (normS (v, d)).1 = leadS v := by
  rcases norm_cases v d with ⟨_, h⟩ | ⟨k, x, e, hx, hk, hj, h⟩
  · rw [h]
  · rw [h, e]
    refine lead_is (x := 1) ?_ (by decide) ?_
    · simp [List.getElem?_map, hk, Gf.ginv_gmul x hx]
    · intro j y hjk hy
      simp only [List.getElem?_map, Option.map_eq_some_iff] at hy
      obtain ⟨z, hz, rfl⟩ := hy
      rw [hj j z hjk hz, Gf.gmul_zero]
theorem at_of {v : List UInt8} {k : Nat} {x : UInt8} (h : v[k]? = some x) : atS v (k : Int) = x := by
  simp [atS, List.getD_eq_getElem?_getD, h]
theorem norm_at (v d : List UInt8) (h : 0 ≤ leadS v) : atS (normS (v, d)).1 (leadS v) = 1 := by
  rcases norm_cases v d with ⟨h1, _⟩ | ⟨k, x, e, hx, hk, hj, g⟩
  · omega
  · rw [g, e]
    exact at_of (by simp [List.getElem?_map, hk, Gf.ginv_gmul x hx])
theorem norm_norm (v d : List UInt8) : normS (normS (v, d)) = normS (v, d) := by
  obtain ⟨a, b, e⟩ : ∃ a b, normS (v, d) = (a, b) := ⟨_, _, rfl⟩
  have hl := norm_lead v d
  rcases norm_cases v d with ⟨h1, g⟩ | ⟨k, x, ek, hx, hk, hj, g⟩
  · rw [g, g]
  · have ha := norm_at v d (by omega)
    rw [e] at hl ha ⊢
    simp only at hl ha
    unfold normS
    simp only [hl, ha]
    have e1 : Gf.ginv 1 = 1 := by decide +kernel
    rw [if_neg (by decide), e1]
    have : ∀ l : List UInt8, l.map (Gf.gmul 1) = l := fun l => by
      conv => rhs; rw [← List.map_id l]
      exact List.map_congr_left fun y _ => Gf.one_gmul y
    rw [this, this]
theorem norm_len (v d : List UInt8) : (normS (v, d)).1.length = v.length ∧ (normS (v, d)).2.length = d.length := by
  rcases norm_cases v d with ⟨_, h⟩ | ⟨_, _, _, _, _, _, h⟩ <;> rw [h] <;> simp
theorem axpy_back (c : UInt8) (n x : List UInt8) (h : n.length = x.length) : axpy c n (axpy c n x) = x := by
  apply List.ext_getElem?
  intro j
  simp only [axpy, List.getElem?_zipWith]
  by_cases hj : j < x.length
  · have hn : j < n.length := by omega
    simp [hj, hn, Gf.xor_cancel]
  · simp [show x.length ≤ j by omega, show n.length ≤ j by omega]
/-- what is left leads later, or is zero, and has 0 at that place -/
theorem less_later (n x : List UInt8) (k : Nat) (hn : n.length = x.length) (hl : leadS n = (k : Int)) (h1 : atS n (k : Int) = 1) (hx : leadS x = (k : Int)) :
    atS (axpy (atS x (k : Int)) n x) (k : Int) = 0 ∧ ((k : Int) < leadS (axpy (atS x (k : Int)) n x) ∨ zeroS (axpy (atS x (k : Int)) n x) = true) := by
  rcases leadS_cases n with ⟨h, _⟩ | ⟨k1, n1, e1, g1, _, _, g4⟩
  · omega
  rcases leadS_cases x with ⟨h, _⟩ | ⟨k2, x1, e2, f1, _, _, f4⟩
  · omega
  have i1 : k1 = k := by omega
  have i2 : k2 = k := by omega
  subst i1; subst i2
  rw [at_of g1] at h1
  subst h1
  rw [at_of f1]
  have z : ∀ j, j ≤ k2 → ∀ y, (axpy x1 n x)[j]? = some y → y = 0 := by
    intro j hj y hy
    simp only [axpy, List.getElem?_zipWith] at hy
    by_cases e : j = k2
    · subst e
      rw [g1, f1] at hy
      simpa [Gf.gmul_one, Gf.xor_self] using hy.symm
    · have hlt : j < k2 := by omega
      cases en : n[j]? with
      | none => rw [en] at hy; simp at hy
      | some a =>
        cases ex : x[j]? with
        | none => rw [en, ex] at hy; simp at hy
        | some b =>
          rw [en, ex, g4 j a hlt en, f4 j b hlt ex] at hy
          simpa [Gf.gmul_zero] using hy.symm
  have hk : ∃ y, (axpy x1 n x)[k2]? = some y := by
    simp only [axpy, List.getElem?_zipWith, g1, f1]; exact ⟨_, rfl⟩
  obtain ⟨y, hy⟩ := hk
  refine ⟨by rw [at_of hy]; exact z k2 (Nat.le_refl _) y hy, ?_⟩
  rcases leadS_cases (axpy x1 n x) with ⟨_, _, h3⟩ | ⟨k3, x3, e3, q1, q2, _, _⟩
  · right
    simp only [zeroS, List.all_eq_true, decide_eq_true_eq]
    exact h3
  · left
    rw [e3]
    by_cases c : k3 ≤ k2
    · exact absurd (z k3 c x3 q1) q2
    · omega
end Go.Proofs.Ytofhdakggapahaa
namespace Gf
abbrev V := Nat → UInt8
/-- the combination of vectors -/
def comb : List UInt8 → List V → V
  | c :: cs, a :: az => fun j => gmul c (a j) ^^^ comb cs az j
  | _, _ => fun _ => 0
theorem comb_nil (c : List UInt8) (j : Nat) : comb c [] j = 0 := by cases c <;> rfl
theorem comb_nil' (A : List V) (j : Nat) : comb [] A j = 0 := by cases A <;> rfl
theorem comb_cons (c : UInt8) (cs : List UInt8) (a : V) (az : List V) (j : Nat) : comb (c :: cs) (a :: az) j = gmul c (a j) ^^^ comb cs az j := rfl
theorem comb_append (c2 : List UInt8) (A2 : List V) (j : Nat) : ∀ (c1 : List UInt8) (A1 : List V), c1.length = A1.length → comb (c1 ++ c2) (A1 ++ A2) j = comb c1 A1 j ^^^ comb c2 A2 j
  | [], [], _ => by simp [comb_nil', zero_xor]
  | c :: cs, a :: az, h => by
    simp only [List.cons_append, comb_cons]
    rw [comb_append c2 A2 j cs az (by simpa using h), xor_assoc]
theorem comb_add (j : Nat) : ∀ (c d : List UInt8) (A : List V), c.length = d.length → comb (List.zipWith (· ^^^ ·) c d) A j = comb c A j ^^^ comb d A j
  | [], [], A, _ => by simp [comb_nil', xor_self]
  | c :: cs, d :: ds, [], _ => by simp [comb_nil, xor_self]
  | c :: cs, d :: ds, a :: az, h => by
    simp only [List.zipWith_cons_cons, comb_cons]
    rw [comb_add j cs ds az (by simpa using h), gmul_xor_left, xor4]
theorem comb_scale (x : UInt8) (j : Nat) : ∀ (c : List UInt8) (A : List V), comb (c.map (gmul x)) A j = gmul x (comb c A j)
  | [], A => by simp [comb_nil', gmul_zero]
  | c :: cs, [] => by simp [comb_nil, gmul_zero]
  | c :: cs, a :: az => by
    simp only [List.map_cons, comb_cons]
    rw [comb_scale x j cs az, gmul_assoc, gmul_xor_right]
theorem comb_zeros (j : Nat) : ∀ (n : Nat) (A : List V), comb (List.replicate n 0) A j = 0
  | 0, A => by simp [comb_nil']
  | n + 1, [] => by simp [comb_nil]
  | n + 1, a :: az => by simp only [List.replicate_succ, comb_cons]; rw [comb_zeros j n az, zero_gmul, xor_self]
/-- a combination of vectors that are nought at a place is nought there -/
theorem comb_at_zero (j : Nat) : ∀ (c : List UInt8) (A : List V), (∀ a, a ∈ A → a j = 0) → comb c A j = 0
  | [], A, _ => comb_nil' _ _
  | c :: cs, [], _ => comb_nil _ _
  | c :: cs, a :: az, h => by rw [comb_cons, h a (by simp), gmul_zero, zero_xor, comb_at_zero j cs az (fun b hb => h b (by simp [hb]))]
/-- in the span -/
def Sp (B : List V) (v : V) : Prop := ∃ c : List UInt8, c.length = B.length ∧ v = comb c B
theorem Sp.zero (B : List V) : Sp B (fun _ => 0) := ⟨List.replicate B.length 0, by simp, by funext j; rw [comb_zeros]⟩
theorem Sp.add {B : List V} {u v : V} (h : Sp B u) (g : Sp B v) : Sp B (fun j => u j ^^^ v j) := by
  obtain ⟨c, hc, rfl⟩ := h; obtain ⟨d, hd, rfl⟩ := g
  exact ⟨List.zipWith (· ^^^ ·) c d, by simp [hc, hd], by funext j; rw [comb_add j c d B (by rw [hc, hd])]⟩
theorem Sp.scale {B : List V} {u : V} (x : UInt8) (h : Sp B u) : Sp B (fun j => gmul x (u j)) := by
  obtain ⟨c, hc, rfl⟩ := h
  exact ⟨c.map (gmul x), by simp [hc], by funext j; rw [comb_scale]⟩
theorem Sp.cons {B : List V} {u : V} (b : V) (h : Sp B u) : Sp (b :: B) u := by
  obtain ⟨c, hc, rfl⟩ := h
  exact ⟨0 :: c, by simp [hc], by funext j; rw [comb_cons, zero_gmul, zero_xor]⟩
theorem Sp.mem {a : V} : ∀ {B : List V}, a ∈ B → Sp B a
  | b :: B, h => by
    rcases List.mem_cons.1 h with rfl | h
    · exact ⟨1 :: List.replicate B.length 0, by simp, by funext j; rw [comb_cons, one_gmul, comb_zeros, xor_zero]⟩
    · exact (Sp.mem h).cons b
theorem Sp.comb {B : List V} : ∀ (c : List UInt8) (A : List V), (∀ a, a ∈ A → Sp B a) → Sp B (Gf.comb c A)
  | [], A, _ => by have : Gf.comb [] A = fun _ => 0 := by funext j; exact comb_nil' A j
                   rw [this]; exact Sp.zero B
  | c :: cs, [], _ => Sp.zero B
  | c :: cs, a :: az, h => Sp.add (Sp.scale c (h a (by simp))) (Sp.comb cs az (fun b hb => h b (by simp [hb])))
theorem Sp.trans {A B : List V} {v : V} (h : ∀ a, a ∈ A → Sp B a) (g : Sp A v) : Sp B v := by
  obtain ⟨c, _, rfl⟩ := g; exact Sp.comb c A h
theorem Sp.sub {A B : List V} {v : V} (h : ∀ a, a ∈ A → a ∈ B) (g : Sp A v) : Sp B v := Sp.trans (fun a ha => Sp.mem (h a ha)) g
theorem Sp.at_zero {A : List V} {v : V} {j : Nat} (h : Sp A v) (hz : ∀ a, a ∈ A → a j = 0) : v j = 0 := by
  obtain ⟨c, _, rfl⟩ := h; exact comb_at_zero j c A hz
/-- independent -/
def Ind (A : List V) : Prop := ∀ c : List UInt8, c.length = A.length → (∀ j, comb c A j = 0) → ∀ x, x ∈ c → x = 0
theorem Ind.nil : Ind [] := fun c hc _ x hx => by
  have : c = [] := List.length_eq_zero_iff.1 hc
  subst this; simp at hx
def dot : List UInt8 → List UInt8 → UInt8
  | c :: cs, t :: ts => gmul c t ^^^ dot cs ts
  | _, _ => 0
theorem comb_shift (a0 : V) (f : V → UInt8) (j : Nat) : ∀ (c : List UInt8) (L : List V), c.length = L.length → comb c (L.map (fun a j => a j ^^^ gmul (f a) (a0 j))) j = comb c L j ^^^ gmul (dot c (L.map f)) (a0 j)
  | [], [], _ => by simp [comb_nil', dot, zero_gmul, xor_self]
  | c :: cs, a :: az, h => by
    simp only [List.map_cons, comb_cons, dot]
    rw [comb_shift a0 f j cs az (by simpa using h), gmul_xor_left, gmul_xor_right, gmul_assoc, xor4]
/-- the exchange: independent vectors in the span of others are no more than these -/
theorem exchange : ∀ (W A : List V), Ind A → (∀ a, a ∈ A → Sp W a) → A.length ≤ W.length
  | [], A, hA, hS => by
    cases A with
    | nil => simp
    | cons a az =>
      exfalso
      obtain ⟨c, hc, ha⟩ := hS a (by simp)
      have h1 := hA (1 :: List.replicate az.length 0) (by simp) (fun j => by rw [comb_cons, comb_zeros, ha, comb_nil]; rw [gmul_zero, xor_zero]) 1 (by simp)
      exact absurd h1 (by decide)
  | w :: W, A, hA, hS => by
    by_cases hall : ∀ a, a ∈ A → Sp W a
    · exact Nat.le_succ_of_le (exchange W A hA hall)
    · have hex : ∃ a0, a0 ∈ A ∧ ¬ Sp W a0 := by
        apply Classical.byContradiction
        intro hn
        exact hall (fun a ha => Classical.byContradiction fun h => hn ⟨a, ha, h⟩)
      obtain ⟨a0, ha0, hn0⟩ := hex
      obtain ⟨A1, A2, rfl⟩ := List.append_of_mem ha0
      have part : ∀ a, Sp (w :: W) a → ∃ (x : UInt8) (r : V), Sp W r ∧ ∀ j, a j = gmul x (w j) ^^^ r j := by
        rintro a ⟨c, hc, rfl⟩
        cases c with
        | nil => simp at hc
        | cons x cs => exact ⟨x, Gf.comb cs W, ⟨cs, by simpa using hc, rfl⟩, fun j => rfl⟩
      obtain ⟨x0, r0, hr0, e0⟩ := part a0 (hS a0 ha0)
      have hx0 : x0 ≠ 0 := fun h => hn0 (by
        have : a0 = r0 := by funext j; rw [e0 j, h, zero_gmul, zero_xor]
        rw [this]; exact hr0)
      have ht : ∀ a, a ∈ A1 ++ A2 → ∃ t : UInt8, Sp W (fun j => a j ^^^ gmul t (a0 j)) := by
        intro a ha
        obtain ⟨x, r, hr, e⟩ := part a (hS a (by simp at ha ⊢; rcases ha with h | h <;> simp [h]))
        refine ⟨gmul x (ginv x0), ?_⟩
        have : (fun j => a j ^^^ gmul (gmul x (ginv x0)) (a0 j)) = fun j => r j ^^^ gmul (gmul x (ginv x0)) (r0 j) := by
          funext j
          rw [e j, e0 j, gmul_xor_right, ← gmul_assoc, gmul_assoc x (ginv x0) x0, ginv_gmul x0 hx0, gmul_one, xor4, xor_self, zero_xor]
        rw [this]; exact Sp.add hr (Sp.scale _ hr0)
      obtain ⟨f, hf⟩ : ∃ f : V → UInt8, ∀ a, a ∈ A1 ++ A2 → Sp W (fun j => a j ^^^ gmul (f a) (a0 j)) :=
        ⟨fun a => Classical.epsilon fun t => Sp W (fun j => a j ^^^ gmul t (a0 j)), fun a ha => Classical.epsilon_spec (ht a ha)⟩
      have hind : Ind ((A1 ++ A2).map (fun a j => a j ^^^ gmul (f a) (a0 j))) := by
        intro c hc hz x hx
        rw [List.length_map] at hc
        have hsplit : c = c.take A1.length ++ c.drop A1.length := (List.take_append_drop _ _).symm
        have l1 : (c.take A1.length).length = A1.length := by rw [List.length_take, hc, List.length_append]; omega
        have h2 := hA (c.take A1.length ++ dot c ((A1 ++ A2).map f) :: c.drop A1.length) (by
          rw [List.length_append, List.length_append, List.length_cons, List.length_cons, l1, List.length_drop, hc, List.length_append]; omega) (fun j => by
          rw [comb_append _ _ _ _ _ l1, comb_cons]
          have h3 := hz j
          rw [comb_shift a0 f j c (A1 ++ A2) hc] at h3
          have h4 : comb c (A1 ++ A2) j = comb (c.take A1.length) A1 j ^^^ comb (c.drop A1.length) A2 j := by
            conv => lhs; rw [hsplit]
            exact comb_append _ _ _ _ _ l1
          rw [h4] at h3
          rw [← h3, xor_assoc]; congr 1; exact xor_comm _ _)
        refine h2 x ?_
        rw [hsplit] at hx
        rcases List.mem_append.1 hx with h | h
        · exact List.mem_append_left _ h
        · exact List.mem_append_right _ (List.mem_cons_of_mem _ h)
      have := exchange W _ hind (fun a ha => by
        obtain ⟨b, hb, rfl⟩ := List.mem_map.1 ha
        exact hf b hb)
      rw [List.length_map, List.length_append] at this
      rw [List.length_append, List.length_cons, List.length_cons]; omega
/-- the rank of vectors -/
def Rk (A : List V) (r : Nat) : Prop := ∃ B, Ind B ∧ B.length = r ∧ (∀ b, b ∈ B → Sp A b) ∧ ∀ a, a ∈ A → Sp B a
theorem Rk.le {A C : List V} {r s : Nat} (h : Rk A r) (g : Rk C s) (hs : ∀ a, a ∈ A → Sp C a) : r ≤ s := by
  obtain ⟨B, b1, rfl, b3, b4⟩ := h; obtain ⟨D, d1, rfl, d3, d4⟩ := g
  exact exchange D B b1 (fun b hb => Sp.trans d4 (Sp.trans hs (b3 b hb)))
theorem Rk.le_length {A W : List V} {r : Nat} (h : Rk A r) (hs : ∀ a, a ∈ A → Sp W a) : r ≤ W.length := by
  obtain ⟨B, b1, rfl, b3, b4⟩ := h
  exact exchange W B b1 (fun b hb => Sp.trans hs (b3 b hb))
theorem Rk.unique {A : List V} {r s : Nat} (h : Rk A r) (g : Rk A s) : r = s :=
  Nat.le_antisymm (h.le g fun _ ha => Sp.mem ha) (g.le h fun _ ha => Sp.mem ha)
theorem Rk.same {A C : List V} {r s : Nat} (h : Rk A r) (g : Rk C s) (h1 : ∀ a, a ∈ A → Sp C a) (h2 : ∀ c, c ∈ C → Sp A c) : r = s := Nat.le_antisymm (h.le g h1) (g.le h h2)
/-- vectors, each with a place where it is 1 and all behind are nought -/
def Tri : List (V × Nat) → Prop
  | [] => True
  | (v, l) :: K => v l = 1 ∧ (∀ p, p ∈ K → p.1 l = 0) ∧ Tri K
theorem Tri.comb_zero : ∀ {K : List (V × Nat)} {c : List UInt8}, Tri K → c.length = K.length → (∀ p, p ∈ K → comb c (K.map (·.1)) p.2 = 0) → ∀ x, x ∈ c → x = 0
  | [], [], _, _, _ => by simp
  | (v, l) :: K, c :: cs, h, hc, hz => by
    obtain ⟨h1, h2, h3⟩ := h
    have hK : ∀ a, a ∈ K.map (·.1) → a l = 0 := fun a ha => by obtain ⟨p, hp, rfl⟩ := List.mem_map.1 ha; exact h2 p hp
    have c0 : c = 0 := by
      have := hz (v, l) (by simp)
      simp only [List.map_cons, comb_cons] at this
      rw [comb_at_zero l cs _ hK, h1, gmul_one, xor_zero] at this
      exact this
    subst c0
    have ih := Tri.comb_zero (c := cs) h3 (by simpa using hc) (fun p hp => by
      have := hz p (by simp [hp])
      simpa only [List.map_cons, comb_cons, zero_gmul, zero_xor] using this)
    intro x hx
    rcases List.mem_cons.1 hx with rfl | hx
    · rfl
    · exact ih x hx
theorem Tri.ind {K : List (V × Nat)} (h : Tri K) : Ind (K.map (·.1)) := fun c hc hz => h.comb_zero (by simpa using hc) (fun _ _ => hz _)
/-- in the span and nought at the places: nought -/
theorem Tri.span_zero {K : List (V × Nat)} {v : V} (h : Tri K) (hs : Sp (K.map (·.1)) v) (hz : ∀ p, p ∈ K → v p.2 = 0) : ∀ j, v j = 0 := by
  obtain ⟨c, hc, rfl⟩ := hs
  have := h.comb_zero (by simpa using hc) hz
  have e : c = List.replicate c.length 0 := List.eq_replicate_of_mem this
  intro j
  rw [e]; exact comb_zeros j _ _
/-- what is left of a vector behind others -/
def red (K : List (V × Nat)) (x : V) : V := K.foldl (fun x p j => x j ^^^ gmul (x p.2) (p.1 j)) x
theorem red_cons (p : V × Nat) (K : List (V × Nat)) (x : V) : red (p :: K) x = red K (fun j => x j ^^^ gmul (x p.2) (p.1 j)) := rfl
/-- what is left differs by a combination -/
theorem red_span : ∀ (K : List (V × Nat)) (x : V), Sp (K.map (·.1)) (fun j => x j ^^^ red K x j)
  | [], x => by have : (fun j => x j ^^^ red [] x j) = fun _ => 0 := by funext j; exact xor_self _
                rw [this]; exact Sp.zero _
  | p :: K, x => by
    have h1 := (red_span K (fun j => x j ^^^ gmul (x p.2) (p.1 j))).cons p.1
    have h2 : Sp (p.1 :: K.map (·.1)) (fun j => gmul (x p.2) (p.1 j)) := Sp.scale _ (Sp.mem (by simp))
    have := Sp.add h1 h2
    rw [List.map_cons]
    have e : (fun j => x j ^^^ red (p :: K) x j) = fun j => ((x j ^^^ gmul (x p.2) (p.1 j)) ^^^ red K (fun j => x j ^^^ gmul (x p.2) (p.1 j)) j) ^^^ gmul (x p.2) (p.1 j) := by
      funext j
      rw [red_cons, xor_assoc (x j), xor_comm (gmul _ _) (red _ _ _), ← xor_assoc (x j), xor_cancel]
    rw [e]; exact this
theorem red_keeps_zero {l : Nat} : ∀ {K : List (V × Nat)} {x : V}, (∀ p, p ∈ K → p.1 l = 0) → x l = 0 → red K x l = 0
  | [], x, _, h => h
  | p :: K, x, hK, h => by
    rw [red_cons]
    exact red_keeps_zero (fun q hq => hK q (by simp [hq])) (by rw [h, hK p (by simp), gmul_zero, xor_self])
theorem red_at : ∀ {K : List (V × Nat)} {x : V}, Tri K → ∀ p, p ∈ K → red K x p.2 = 0
  | (v, l) :: K, x, ⟨h1, h2, h3⟩, p, hp => by
    rw [red_cons]
    rcases List.mem_cons.1 hp with rfl | hp
    · exact red_keeps_zero h2 (by simp only [h1, gmul_one, xor_self])
    · exact red_at h3 p hp
/-- in the span just where nothing is left -/
theorem red_zero {K : List (V × Nat)} {x : V} (h : Tri K) : (∀ j, red K x j = 0) ↔ Sp (K.map (·.1)) x := by
  constructor
  · intro hz
    have := red_span K x
    have e : (fun j => x j ^^^ red K x j) = x := by funext j; rw [hz j, xor_zero]
    rwa [e] at this
  · intro hs
    have h1 := Sp.add hs (red_span K x)
    have e : (fun j => x j ^^^ (x j ^^^ red K x j)) = red K x := by funext j; rw [← xor_assoc, xor_self, zero_xor]
    rw [e] at h1
    exact h.span_zero h1 (red_at h)
theorem Tri.snoc : ∀ {K : List (V × Nat)} {y : V} {l : Nat}, Tri K → (∀ p, p ∈ K → y p.2 = 0) → y l = 1 → Tri (K ++ [(y, l)])
  | [], y, l, _, _, h1 => ⟨h1, by simp, trivial⟩
  | (v, l0) :: K, y, l, ⟨h1, h2, h3⟩, hz, hy => by
    refine ⟨h1, ?_, h3.snoc (fun p hp => hz p (by simp [hp])) hy⟩
    intro p hp
    rcases List.mem_append.1 hp with h | h
    · exact h2 p h
    · simp at h; subst h; exact hz (v, l0) (by simp)
theorem Tri.append : ∀ {K L : List (V × Nat)}, Tri K → Tri L → (∀ p, p ∈ K → ∀ q, q ∈ L → q.1 p.2 = 0) → Tri (K ++ L)
  | [], L, _, h, _ => h
  | (v, l0) :: K, L, ⟨h1, h2, h3⟩, hL, hz => by
    refine ⟨h1, ?_, h3.append hL (fun p hp => hz p (by simp [hp]))⟩
    intro p hp
    rcases List.mem_append.1 hp with h | h
    · exact h2 p h
    · exact hz (v, l0) (by simp) p h
theorem Tri.left : ∀ {K L : List (V × Nat)}, Tri (K ++ L) → Tri K
  | [], L, _ => trivial
  | (v, l0) :: K, L, ⟨h1, h2, h3⟩ => ⟨h1, fun p hp => h2 p (by simp [hp]), h3.left⟩
theorem Tri.right : ∀ {K L : List (V × Nat)}, Tri (K ++ L) → Tri L
  | [], L, h => h
  | (v, l0) :: K, L, ⟨_, _, h3⟩ => h3.right
theorem Tri.cross : ∀ {K L : List (V × Nat)}, Tri (K ++ L) → ∀ p, p ∈ K → ∀ q, q ∈ L → q.1 p.2 = 0
  | (v, l0) :: K, L, ⟨h1, h2, h3⟩, p, hp, q, hq => by
    rcases List.mem_cons.1 hp with rfl | hp
    · exact h2 q (by simp [hq])
    · exact h3.cross p hp q hq
end Gf
namespace Gf
def unit (i : Nat) : V := fun j => if i = j then 1 else 0
def units (n : Nat) : List V := (List.range n).map unit
/-- nought from place n on -/
def Wide (n : Nat) (v : V) : Prop := ∀ j, n ≤ j → v j = 0
theorem units_length (n : Nat) : (units n).length = n := by simp [units]
theorem unit_wide {i n : Nat} (h : i < n) : Wide n (unit i) := fun j hj => by simp [unit]; omega
theorem units_wide {n : Nat} : ∀ u, u ∈ units n → Wide n u := fun u hu => by
  simp only [units, List.mem_map, List.mem_range] at hu
  obtain ⟨i, hi, rfl⟩ := hu; exact unit_wide hi
theorem lin_zero {L : V → V} (hs : ∀ x u, L (fun j => gmul x (u j)) = fun j => gmul x (L u j)) : L (fun _ => 0) = fun _ => 0 := by
  have := hs 0 (fun _ => 0)
  simp only [zero_gmul] at this
  exact this
theorem lin_comb {L : V → V} (ha : ∀ u v, L (fun j => u j ^^^ v j) = fun j => L u j ^^^ L v j) (hs : ∀ x u, L (fun j => gmul x (u j)) = fun j => gmul x (L u j)) : ∀ (c : List UInt8) (A : List V), L (comb c A) = comb c (A.map L)
  | [], A => by
    have e : comb [] A = fun _ => 0 := by funext j; exact comb_nil' A j
    have e' : comb [] (A.map L) = fun _ => 0 := by funext j; exact comb_nil' _ j
    rw [e, e']; exact lin_zero hs
  | c :: cs, [] => lin_zero hs
  | c :: cs, a :: az => by
    show L (fun j => (fun j => gmul c (a j)) j ^^^ comb cs az j) = _
    rw [ha, hs, lin_comb ha hs cs az]; rfl
theorem coords_at (v : V) : ∀ (n j : Nat), comb ((List.range n).map v) (units n) j = if j < n then v j else 0
  | 0, j => by simp [units, comb_nil]
  | n + 1, j => by
    unfold units
    rw [List.range_succ, List.map_append, List.map_append, comb_append _ _ _ _ _ (by simp)]
    have := coords_at v n j
    unfold units at this
    rw [this]
    simp only [List.map_cons, List.map_nil, comb_cons, comb_nil, unit, xor_zero]
    by_cases h1 : j < n
    · rw [if_pos h1, if_neg (by omega), if_pos (by omega), gmul_zero, xor_zero]
    · by_cases h2 : n = j
      · subst h2; rw [if_neg h1, if_pos rfl, if_pos (by omega), gmul_one, zero_xor]
      · rw [if_neg h1, if_neg h2, if_neg (by omega), gmul_zero, xor_self]
theorem coords {n : Nat} {v : V} (h : Wide n v) : comb ((List.range n).map v) (units n) = v := by
  funext j
  rw [coords_at]
  split
  · rfl
  · exact (h j (by omega)).symm
theorem Wide.sp {n : Nat} {v : V} (h : Wide n v) : Sp (units n) v := ⟨(List.range n).map v, by simp [units], (coords h).symm⟩
theorem comb_units_zero {n : Nat} {c : List UInt8} (hc : c.length = n) (h : ∀ j, comb c (units n) j = 0) : ∀ x, x ∈ c → x = 0 := by
  intro x hx
  obtain ⟨i, hi, rfl⟩ := List.getElem_of_mem hx
  have e : (List.range n).map (fun j => c.getD j 0) = c := by
    apply List.ext_getElem?
    intro k
    rw [List.getElem?_map]
    by_cases hk : k < n
    · rw [List.getElem?_range hk]; simp [List.getD_eq_getElem?_getD, List.getElem?_eq_getElem (show k < c.length by omega)]
    · rw [List.getElem?_eq_none (by simp; omega), List.getElem?_eq_none (by omega)]; rfl
  have := coords_at (fun j => c.getD j 0) n i
  rw [e, h i, if_pos (by omega)] at this
  rw [List.getD_eq_getElem?_getD, List.getElem?_eq_getElem hi] at this
  exact this.symm
theorem units_ind (n : Nat) : Ind (units n) := fun c hc hz => comb_units_zero (by rw [hc, units_length]) hz
theorem comb_wide {n : Nat} {A : List V} (h : ∀ a, a ∈ A → Wide n a) (c : List UInt8) : Wide n (comb c A) := fun j hj => comb_at_zero j c A (fun a ha => h a ha j hj)
theorem Rk.le_width {A : List V} {r n : Nat} (h : Rk A r) (hw : ∀ a, a ∈ A → Wide n a) : r ≤ n := by
  have := h.le_length (fun a ha => (hw a ha).sp)
  rwa [units_length] at this
/-- a row times rows -/
def mulV (n : Nat) (B : List V) (a : V) : V := comb ((List.range n).map a) B
theorem mulV_add (n : Nat) (B : List V) (u v : V) : mulV n B (fun j => u j ^^^ v j) = fun j => mulV n B u j ^^^ mulV n B v j := by
  funext j
  unfold mulV
  rw [← comb_add j _ _ _ (by simp)]
  congr 1
  apply List.ext_getElem?
  intro k
  simp only [List.getElem?_map, List.getElem?_zipWith]
  cases (List.range n)[k]? <;> rfl
theorem mulV_scale (n : Nat) (B : List V) (x : UInt8) (u : V) : mulV n B (fun j => gmul x (u j)) = fun j => gmul x (mulV n B u j) := by
  funext j
  unfold mulV
  rw [← comb_scale, List.map_map]; rfl
theorem mulV_comb (n : Nat) (B : List V) (c : List UInt8) (A : List V) : mulV n B (comb c A) = comb c (A.map (mulV n B)) := lin_comb (mulV_add n B) (mulV_scale n B) c A
theorem comb_single (j : Nat) : ∀ (B : List V) (i k n : Nat) (b : V), B.length = n → B[i]? = some b → comb ((List.range n).map (fun m => unit (i + k) (m + k))) B j = b j
  | [], i, k, n, b, _, h => by simp at h
  | b0 :: B, 0, k, n, b, hn, h => by
    obtain rfl : b0 = b := by simpa using h
    cases n with
    | zero => simp at hn
    | succ n =>
      rw [List.range_succ_eq_map]
      simp only [List.map_cons, List.map_map, comb_cons]
      have e : ((List.range n).map ((fun m => unit (0 + k) (m + k)) ∘ Nat.succ)) = List.replicate n 0 := by
        rw [List.eq_replicate_iff]
        refine ⟨by simp, ?_⟩
        intro x hx
        simp only [List.mem_map, Function.comp] at hx
        obtain ⟨m, _, rfl⟩ := hx
        simp [unit]
      rw [e, comb_zeros]
      simp [unit, one_gmul, xor_zero]
  | b0 :: B, i + 1, k, n, b, hn, h => by
    cases n with
    | zero => simp at hn
    | succ n =>
      rw [List.range_succ_eq_map]
      simp only [List.map_cons, List.map_map, comb_cons]
      have ih := comb_single j B i (k + 1) n b (by simpa using hn) (by simpa using h)
      have e : ((fun m => unit (i + 1 + k) (m + k)) ∘ Nat.succ) = fun m => unit (i + (k + 1)) (m + (k + 1)) := by
        funext m; simp only [Function.comp]; congr 1 <;> omega
      rw [e, ih]
      have e0 : unit (i + 1 + k) (0 + k) = 0 := by simp [unit]
      rw [e0, zero_gmul, zero_xor]
theorem mulV_unit {n i : Nat} {B : List V} {b : V} (hn : B.length = n) (h : B[i]? = some b) : mulV n B (unit i) = b := by
  funext j
  exact comb_single j B i 0 n b hn h
theorem mulV_sp {n : Nat} {B : List V} (hn : B.length = n) (a : V) : Sp B (mulV n B a) := ⟨_, by simp [hn], rfl⟩
/-- a product's rank is no greater than that of the second one -/
theorem rank_mul_right {A B : List V} {n r s : Nat} (hn : B.length = n) (h : Rk (A.map (mulV n B)) r) (g : Rk B s) : r ≤ s :=
  h.le g (fun a ha => by obtain ⟨x, _, rfl⟩ := List.mem_map.1 ha; exact mulV_sp hn x)
/-- nor than that of the first one -/
theorem rank_mul_left {A B : List V} {n r s : Nat} (h : Rk (A.map (mulV n B)) r) (g : Rk A s) : r ≤ s := by
  obtain ⟨R, r1, rfl, r3, r4⟩ := g
  have := h.le_length (W := R.map (mulV n B)) (fun a ha => by
    obtain ⟨x, hx, rfl⟩ := List.mem_map.1 ha
    obtain ⟨c, hc, rfl⟩ := r4 x hx
    exact ⟨c, by simp [hc], mulV_comb n B c R⟩)
  simpa using this
/-- the columns of rows -/
def cols (n : Nat) (A : List V) : List V := (List.range n).map fun k i => (A.getD i fun _ => 0) k
theorem cols_length (n : Nat) (A : List V) : (cols n A).length = n := by simp [cols]
theorem cols_wide {n : Nat} {A : List V} : ∀ c, c ∈ cols n A → Wide A.length c := by
  intro c hc j hj
  simp only [cols, List.mem_map] at hc
  obtain ⟨k, _, rfl⟩ := hc
  simp [List.getD_eq_getElem?_getD, List.getElem?_eq_none hj]
theorem cols_cols {n m : Nat} {A : List V} (hm : A.length = m) (hw : ∀ a, a ∈ A → Wide n a) : cols m (cols n A) = A := by
  apply List.ext_getElem?
  intro i
  by_cases hi : i < m
  · have hi' : i < A.length := by omega
    rw [List.getElem?_eq_getElem hi']
    have hr : (cols m (cols n A))[i]? = some (fun k => ((cols n A).getD k fun _ => 0) i) := by
      unfold cols
      rw [List.getElem?_map, List.getElem?_range hi]; rfl
    rw [hr]
    congr 1
    funext k
    by_cases hk : k < n
    · have : (cols n A).getD k (fun _ => 0) = fun i => (A.getD i fun _ => 0) k := by
        unfold cols
        rw [List.getD_eq_getElem?_getD, List.getElem?_map, List.getElem?_range hk]; rfl
      rw [this]
      simp [List.getD_eq_getElem?_getD, List.getElem?_eq_getElem hi']
    · have : (cols n A).getD k (fun _ => 0) = fun _ => 0 := by
        rw [List.getD_eq_getElem?_getD, List.getElem?_eq_none (by rw [cols_length]; omega)]; rfl
      rw [this]
      exact (hw _ (List.getElem_mem hi') k (by omega)).symm
  · rw [List.getElem?_eq_none (by rw [cols_length]; omega), List.getElem?_eq_none (by omega)]
theorem col_comb (k i : Nat) : ∀ (B : List V) (cs : Nat → List UInt8), (cs i).length = B.length → comb (B.map (· k)) ((List.range B.length).map (fun l i => (cs i).getD l 0)) i = comb (cs i) B k
  | [], cs, h => by
    have : cs i = [] := List.length_eq_zero_iff.1 h
    rw [this]; rfl
  | b :: B, cs, h => by
    rw [List.length_cons, List.range_succ_eq_map]
    simp only [List.map_cons, List.map_map, comb_cons]
    have ih := col_comb k i B (fun i => (cs i).tail) (by simp [h])
    have e : ((fun l i => (cs i).getD l 0) ∘ Nat.succ : Nat → V) = fun l i => ((cs i).tail).getD l 0 := by
      funext l i'
      simp [List.getD_eq_getElem?_getD]
    rw [e, ih]
    cases hc : cs i with
    | nil => rw [hc] at h; simp at h
    | cons c c' => simp only [List.tail_cons, comb_cons, List.getD_cons_zero]; rw [gmul_comm]
theorem cols_rank_le {A : List V} {n r s : Nat} (h : Rk A r) (g : Rk (cols n A) s) : s ≤ r := by
  obtain ⟨B, b1, rfl, b3, b4⟩ := h
  have hex : ∀ i : Nat, ∃ c : List UInt8, c.length = B.length ∧ (A.getD i fun _ => 0) = comb c B := by
    intro i
    by_cases hi : i < A.length
    · have : (A.getD i fun _ => 0) = A[i] := by simp [List.getD_eq_getElem?_getD, List.getElem?_eq_getElem hi]
      rw [this]
      exact b4 _ (List.getElem_mem hi)
    · have : (A.getD i fun _ => 0) = fun _ => 0 := by simp [List.getD_eq_getElem?_getD, List.getElem?_eq_none (show A.length ≤ i by omega)]
      rw [this]
      exact Sp.zero B
  obtain ⟨cs, hcs⟩ : ∃ cs : Nat → List UInt8, ∀ i, (cs i).length = B.length ∧ (A.getD i fun _ => 0) = comb (cs i) B :=
    ⟨fun i => Classical.choose (hex i), fun i => Classical.choose_spec (hex i)⟩
  have := g.le_length (W := (List.range B.length).map (fun l i => (cs i).getD l 0)) (fun a ha => by
    simp only [cols, List.mem_map] at ha
    obtain ⟨k, _, rfl⟩ := ha
    refine ⟨B.map (· k), by simp, ?_⟩
    funext i
    rw [col_comb k i B cs (hcs i).1, (hcs i).2])
  simpa using this
/-- rows and columns have one rank -/
theorem cols_rank {A : List V} {n r s : Nat} (hw : ∀ a, a ∈ A → Wide n a) (h : Rk A r) (g : Rk (cols n A) s) : r = s := by
  refine Nat.le_antisymm ?_ (cols_rank_le h g)
  refine cols_rank_le g (n := A.length) ?_
  rw [cols_cols rfl hw]; exact h
theorem Ind.cons {A : List V} {v : V} (h : Ind A) (hv : ¬ Sp A v) : Ind (v :: A) := by
  intro c hc hz
  cases c with
  | nil => simp
  | cons x cs =>
    have hx : x = 0 := by
      apply Classical.byContradiction
      intro hx
      apply hv
      have : v = fun j => gmul (ginv x) (comb cs A j) := by
        funext j
        have := hz j
        rw [comb_cons] at this
        have e := xor_eq_zero this
        rw [← e, ← gmul_assoc, ginv_gmul x hx, one_gmul]
      rw [this]
      exact Sp.scale _ ⟨cs, by simpa using hc, rfl⟩
    subst hx
    have := h cs (by simpa using hc) (fun j => by have := hz j; rwa [comb_cons, zero_gmul, zero_xor] at this)
    intro y hy
    rcases List.mem_cons.1 hy with rfl | hy
    · rfl
    · exact this y hy
/-- n independent vectors of n places: all others are their combinations -/
theorem ind_full {A : List V} {n : Nat} (h : Ind A) (hn : A.length = n) (hw : ∀ a, a ∈ A → Wide n a) {v : V} (hv : Wide n v) : Sp A v := by
  apply Classical.byContradiction
  intro hs
  have := exchange (units n) (v :: A) (h.cons hs) (fun a ha => by
    rcases List.mem_cons.1 ha with rfl | ha
    · exact hv.sp
    · exact (hw a ha).sp)
  rw [units_length, List.length_cons, hn] at this
  omega
/-- vectors of full rank are independent -/
theorem Rk.ind {A : List V} {r : Nat} (h : Rk A r) (hr : A.length = r) : Ind A := by
  obtain ⟨B, b1, rfl, b3, b4⟩ := h
  apply Classical.byContradiction
  intro hn
  have hex : ∃ c : List UInt8, c.length = A.length ∧ (∀ j, comb c A j = 0) ∧ ∃ x, x ∈ c ∧ x ≠ 0 := by
    apply Classical.byContradiction
    intro hne
    apply hn
    intro c hc hz x hx
    apply Classical.byContradiction
    intro hx0
    exact hne ⟨c, hc, hz, x, hx, hx0⟩
  obtain ⟨c, hc, hz, x, hx, hx0⟩ := hex
  obtain ⟨c1, c2, rfl⟩ := List.append_of_mem hx
  have hl : c1.length < A.length := by rw [← hc]; simp
  have hA : A = A.take c1.length ++ A[c1.length] :: A.drop (c1.length + 1) := by
    rw [← List.drop_eq_getElem_cons hl, List.take_append_drop]
  obtain ⟨a, ha⟩ : ∃ a, a = A[c1.length] := ⟨_, rfl⟩
  rw [← ha] at hA
  obtain ⟨A1, hA1⟩ : ∃ A1, A1 = A.take c1.length := ⟨_, rfl⟩
  obtain ⟨A2, hA2⟩ : ∃ A2, A2 = A.drop (c1.length + 1) := ⟨_, rfl⟩
  have l1 : c1.length = A1.length := by rw [hA1, List.length_take]; omega
  have l2 : c2.length = A2.length := by rw [hA2, List.length_drop]; simp at hc; omega
  rw [← hA1, ← hA2] at hA
  have e : a = fun j => gmul (ginv x) (comb c1 A1 j ^^^ comb c2 A2 j) := by
    funext j
    have := hz j
    rw [hA, comb_append _ _ _ _ _ l1, comb_cons] at this
    have e2 : gmul x (a j) = comb c1 A1 j ^^^ comb c2 A2 j := by
      apply xor_eq_zero
      rw [← this, xor_left_comm, ← xor_assoc]
    rw [← e2, ← gmul_assoc, ginv_gmul x hx0, one_gmul]
  have hs : Sp (A1 ++ A2) a := by
    rw [e]
    refine Sp.scale _ ⟨c1 ++ c2, by simp [l1, l2], ?_⟩
    funext j
    rw [comb_append _ _ _ _ _ l1]
  have := exchange (A1 ++ A2) B b1 (fun b hb => by
    refine Sp.trans ?_ (b3 b hb)
    intro y hy
    rw [hA] at hy
    rcases List.mem_append.1 hy with h | h
    · exact Sp.mem (by simp [h])
    · rcases List.mem_cons.1 h with rfl | h
      · exact hs
      · exact Sp.mem (by simp [h]))
  have hl2 := congrArg List.length hA
  rw [List.length_append, List.length_cons] at hl2
  rw [List.length_append] at this
  omega
/-- what has a left inverse: a vector that the inverse takes to a unit is that row -/
theorem inv_row {n i : Nat} {D G : List V} (hg : G.length = n) (hd : D.length = n) (h : D.map (mulV n G) = units n) {e b : V} (he : Wide n e) (hi : G[i]? = some b) (h1 : mulV n D e = unit i) : e = b := by
  have h2 : e = comb ((List.range n).map e) (D.map (mulV n G)) := by rw [h, coords he]
  rw [h2, ← mulV_comb]
  have h3 : comb ((List.range n).map e) D = unit i := h1
  rw [h3, mulV_unit hg hi]
theorem inv_ind {n : Nat} {D G : List V} (hd : D.length = n) (h : D.map (mulV n G) = units n) : Ind D := by
  intro c hc hz
  refine comb_units_zero (n := n) (by omega) (fun j => ?_)
  rw [← h, ← mulV_comb]
  have : comb c D = fun _ => 0 := by funext j; exact hz j
  rw [this, lin_zero (mulV_scale n G)]
/-- what is inverse from the left is from the right -/
theorem inv_both {n : Nat} {D G : List V} (hg : G.length = n) (hd : D.length = n) (wd : ∀ d, d ∈ D → Wide n d) (h : D.map (mulV n G) = units n) : G.map (mulV n D) = units n := by
  apply List.ext_getElem?
  intro i
  by_cases hi : i < n
  · obtain ⟨b, hb⟩ : ∃ b, G[i]? = some b := ⟨_, List.getElem?_eq_getElem (by omega)⟩
    obtain ⟨c, hc, he⟩ := ind_full (inv_ind hd h) hd wd (unit_wide hi)
    have e : (List.range n).map (fun j => c.getD j 0) = c := by
      apply List.ext_getElem?
      intro k
      rw [List.getElem?_map]
      by_cases hk : k < n
      · rw [List.getElem?_range hk]; simp [List.getD_eq_getElem?_getD, List.getElem?_eq_getElem (show k < c.length by omega)]
      · rw [List.getElem?_eq_none (by simp; omega), List.getElem?_eq_none (by omega)]; rfl
    have h1 : mulV n D (fun j => c.getD j 0) = unit i := by unfold mulV; rw [e, ← he]
    have := inv_row hg hd h (e := fun j => c.getD j 0) (fun j hj => by simp [List.getD_eq_getElem?_getD, List.getElem?_eq_none (show c.length ≤ j by omega)]) hb h1
    rw [List.getElem?_map, hb, ← this]
    unfold units
    rw [List.getElem?_map, List.getElem?_range hi]
    simp only [Option.map_some]
    rw [h1]
  · rw [List.getElem?_eq_none (by simp; omega), List.getElem?_eq_none (by rw [units_length]; omega)]
end Gf
namespace Go.Proofs.Ytofhdakggapahaa
open Go.By Gf
abbrev Rw := List UInt8 × List UInt8
def vf (xs : List UInt8) : V := fun j => xs.getD j 0
def cat (r : Rw) : List UInt8 := r.1 ++ r.2
def Fit (n t : Nat) (r : Rw) : Prop := r.1.length = n ∧ r.2.length = t
def lessF (x : Rw) (c : UInt8) (o : Rw) : Rw := (axpy c o.1 x.1, axpy c o.2 x.2)
def restF (K : List Rw) (x : Rw) : Rw := K.foldl (fun x k => lessF x (atS x.1 (leadS k.1)) k) x
theorem vf_axpy {c : UInt8} {xs ys : List UInt8} (h : xs.length = ys.length) : vf (axpy c xs ys) = fun j => vf ys j ^^^ gmul c (vf xs j) := by
  funext j
  unfold vf axpy
  simp only [List.getD_eq_getElem?_getD, List.getElem?_zipWith]
  by_cases hj : j < xs.length
  · rw [List.getElem?_eq_getElem hj, List.getElem?_eq_getElem (by omega : j < ys.length)]; rfl
  · rw [List.getElem?_eq_none (by omega), List.getElem?_eq_none (by omega)]; simp [gmul_zero, xor_zero]
theorem vf_scale (c : UInt8) (xs : List UInt8) : vf (xs.map (gmul c)) = fun j => gmul c (vf xs j) := by
  funext j
  unfold vf
  simp only [List.getD_eq_getElem?_getD, List.getElem?_map]
  cases xs[j]? <;> simp [gmul_zero]
theorem vf_wide (xs : List UInt8) : Wide xs.length (vf xs) := fun j hj => by unfold vf; rw [List.getD_eq_getElem?_getD, List.getElem?_eq_none hj]; rfl
theorem vf_inj {xs ys : List UInt8} (h : xs.length = ys.length) (e : ∀ j, j < xs.length → vf xs j = vf ys j) : xs = ys := by
  apply List.ext_getElem h
  intro i h1 h2
  have := e i h1
  simpa [vf, List.getD_eq_getElem?_getD, h1, h2] using this
theorem vf_app_left {xs ys : List UInt8} {j : Nat} (h : j < xs.length) : vf (xs ++ ys) j = vf xs j := by
  unfold vf; rw [List.getD_eq_getElem?_getD, List.getElem?_append_left h, List.getD_eq_getElem?_getD]
theorem axpy_append (c : UInt8) : ∀ (xs ys us vs : List UInt8), xs.length = us.length → axpy c (xs ++ ys) (us ++ vs) = axpy c xs us ++ axpy c ys vs := by
  intro xs ys us vs h
  unfold axpy
  exact List.zipWith_append h
theorem cat_less {n t : Nat} {x o : Rw} (c : UInt8) (hx : Fit n t x) (ho : Fit n t o) : cat (lessF x c o) = axpy c (cat o) (cat x) := by
  unfold cat lessF
  rw [axpy_append]
  rw [ho.1, hx.1]
theorem Fit.less {n t : Nat} {x o : Rw} {c : UInt8} (hx : Fit n t x) (ho : Fit n t o) : Fit n t (lessF x c o) := by
  unfold Fit lessF
  exact ⟨by rw [axpy_length _ _ _ (by rw [ho.1, hx.1])]; exact hx.1, by rw [axpy_length _ _ _ (by rw [ho.2, hx.2])]; exact hx.2⟩
theorem Fit.rest {n t : Nat} : ∀ {K : List Rw} {x : Rw}, (∀ k, k ∈ K → Fit n t k) → Fit n t x → Fit n t (restF K x)
  | [], x, _, hx => hx
  | k :: K, x, hK, hx => Fit.rest (K := K) (fun a ha => hK a (by simp [ha])) (hx.less (hK k (by simp)))
theorem Fit.cat {n t : Nat} {x : Rw} (h : Fit n t x) : (cat x).length = n + t := by unfold Go.Proofs.Ytofhdakggapahaa.cat; rw [List.length_append, h.1, h.2]
/-- a row that leads with a 1 at a place -/
def LeadAt (r : Rw) (l : Nat) : Prop := leadS r.1 = (l : Int) ∧ r.1[l]? = some 1 ∧ ∀ (j : Nat) (y : UInt8), j < l → r.1[j]? = some y → y = 0
def Led (r : Rw) : Prop := ∃ l, LeadAt r l
def leadN (r : Rw) : Nat := (leadS r.1).toNat
theorem Led.at {r : Rw} (h : Led r) : LeadAt r (leadN r) := by
  obtain ⟨l, hl⟩ := h
  have : leadN r = l := by unfold leadN; rw [hl.1]; rfl
  rw [this]; exact hl
theorem LeadAt.lt {r : Rw} {l n t : Nat} (h : LeadAt r l) (hf : Fit n t r) : l < n := by
  have := (List.getElem?_eq_some_iff.1 h.2.1).1; rw [hf.1] at this; exact this
def tri (K : List Rw) : List (V × Nat) := K.map fun k => (vf (cat k), leadN k)
theorem tri_fst (K : List Rw) : (tri K).map (·.1) = K.map fun k => vf (cat k) := by simp [tri, List.map_map, Function.comp_def]
theorem tri_mem {K : List Rw} {p : V × Nat} (h : p ∈ tri K) : ∃ k, k ∈ K ∧ p = (vf (cat k), leadN k) := by
  simp only [tri, List.mem_map] at h
  obtain ⟨k, hk, rfl⟩ := h; exact ⟨k, hk, rfl⟩
theorem vf_at {n t l : Nat} {x : Rw} (hx : Fit n t x) (hl : l < n) : vf (cat x) l = atS x.1 (l : Int) := by
  unfold cat
  rw [vf_app_left (by rw [hx.1]; exact hl)]
  simp [vf, atS]
theorem rest_red {n t : Nat} : ∀ {K : List Rw} {x : Rw}, (∀ k, k ∈ K → Fit n t k ∧ Led k) → Fit n t x → vf (cat (restF K x)) = red (tri K) (vf (cat x))
  | [], x, _, _ => rfl
  | k :: K, x, hK, hx => by
    obtain ⟨hf, hl⟩ := hK k (by simp)
    have hL := hl.at
    have e : (restF (k :: K) x) = restF K (lessF x (atS x.1 (leadS k.1)) k) := rfl
    rw [e, rest_red (K := K) (fun a ha => hK a (by simp [ha])) (hx.less hf), cat_less _ hx hf, vf_axpy (by rw [hf.cat, hx.cat])]
    have e2 : atS x.1 (leadS k.1) = vf (cat x) (leadN k) := by rw [vf_at hx (hL.lt hf), hL.1]
    rw [e2]; rfl
theorem axpy_zero_of {c : UInt8} (h : c = 0) {xs ys : List UInt8} (hl : xs.length = ys.length) : axpy c xs ys = ys := by
  refine vf_inj (by rw [axpy_length _ _ _ hl]) (fun j _ => ?_)
  rw [vf_axpy hl]
  show vf ys j ^^^ gmul c _ = _
  rw [h, zero_gmul, xor_zero]
theorem leadS_neg {v : List UInt8} (h : leadS v < 0) : ∀ x, x ∈ v → x = 0 := by
  rcases leadS_cases v with ⟨_, _, h3⟩ | ⟨k, x, e, _⟩
  · exact h3
  · omega
theorem vf_zero {v : List UInt8} (h : ∀ x, x ∈ v → x = 0) : ∀ j, vf v j = 0 := by
  intro j
  unfold vf
  rw [List.getD_eq_getElem?_getD]
  cases e : v[j]? with
  | none => rfl
  | some x => exact h x (List.mem_of_getElem? e)
/-- what a row that isn't nought becomes by norming -/
theorem norm_row {n t : Nat} {y : Rw} (hy : Fit n t y) (h : ¬ leadS y.1 < 0) : ∃ (l : Nat) (c : UInt8), c ≠ 0 ∧ leadS y.1 = (l : Int) ∧ LeadAt (normS y) l ∧ Fit n t (normS y) ∧ vf (cat (normS y)) = fun j => gmul c (vf (cat y) j) := by
  obtain ⟨v, d⟩ := y
  rcases norm_cases v d with ⟨h1, _⟩ | ⟨k, x, e, hx, hk, hj, g⟩
  · exact absurd (by rw [h1]; decide) h
  · refine ⟨k, ginv x, ginv_ne x hx, e, ?_, ?_, ?_⟩
    · rw [g]
      refine ⟨by have := norm_lead v d; rw [g] at this; rw [this, e], by simp [List.getElem?_map, hk, ginv_gmul x hx], ?_⟩
      intro j y hjk hy'
      simp only [List.getElem?_map, Option.map_eq_some_iff] at hy'
      obtain ⟨z, hz, rfl⟩ := hy'
      rw [hj j z hjk hz, gmul_zero]
    · rw [g]; exact ⟨by simpa using hy.1, by simpa using hy.2⟩
    · rw [g]
      have : cat (v.map (gmul (ginv x)), d.map (gmul (ginv x))) = (cat (v, d)).map (gmul (ginv x)) := by simp [cat]
      rw [this, vf_scale]
/-- a row more, or not, as the grid's rank keeps them -/
def keepF (K : List Rw) (x : Rw) : List Rw := if leadS (restF K x).1 < 0 then K else K ++ [normS (restF K x)]
structure Kept (n t : Nat) (K : List Rw) : Prop where
  rows : ∀ k, k ∈ K → Fit n t k ∧ Led k
  tri : Tri (tri K)
theorem Kept.nil (n t : Nat) : Kept n t [] := ⟨by simp, trivial⟩
theorem tri_append (K L : List Rw) : tri (K ++ L) = tri K ++ tri L := by simp [tri]
theorem leadN_of {r : Rw} {l : Nat} (h : LeadAt r l) : leadN r = l := by unfold leadN; rw [h.1]; rfl
theorem vf_lead {n t l : Nat} {r : Rw} (h : LeadAt r l) (hf : Fit n t r) : vf (cat r) l = 1 := by
  rw [vf_at hf (h.lt hf), at_of h.2.1]
theorem Kept.step {n t : Nat} {K : List Rw} {x : Rw} (h : Kept n t K) (hx : Fit n t x) : Kept n t (keepF K x) := by
  unfold keepF
  split
  · exact h
  · rename_i hn
    have hr := hx.rest (fun k hk => (h.rows k hk).1)
    obtain ⟨l, c, hc, hl, hL, hF, hv⟩ := norm_row hr hn
    refine ⟨?_, ?_⟩
    · intro k hk
      rcases List.mem_append.1 hk with h' | h'
      · exact h.rows k h'
      · simp at h'; subst h'; exact ⟨hF, l, hL⟩
    · rw [tri_append]
      show Tri (Go.Proofs.Ytofhdakggapahaa.tri K ++ [(vf (cat (normS (restF K x))), leadN (normS (restF K x)))])
      refine h.tri.snoc ?_ ?_
      · intro p hp
        rw [hv]
        show gmul c (vf (cat (restF K x)) p.2) = 0
        rw [rest_red h.rows hx, red_at h.tri p hp, gmul_zero]
      · rw [leadN_of hL]; exact vf_lead hL hF
/-- as many as the rank says (rows without data) -/
theorem kept_span {n : Nat} : ∀ {K : List Rw} {x : Rw}, Kept n 0 K → Fit n 0 x → (∀ k, k ∈ keepF K x → Sp (vf (cat x) :: K.map fun k => vf (cat k)) (vf (cat k))) ∧ Sp ((keepF K x).map fun k => vf (cat k)) (vf (cat x)) ∧ (∀ k, k ∈ K → Sp ((keepF K x).map fun k => vf (cat k)) (vf (cat k))) := by
  intro K x h hx
  have hr := hx.rest (fun k hk => (h.rows k hk).1)
  have hred := rest_red h.rows hx
  have hspan := red_span (tri K) (vf (cat x))
  rw [tri_fst] at hspan
  unfold keepF
  split
  · rename_i hn
    have hz : ∀ j, red (tri K) (vf (cat x)) j = 0 := by
      intro j
      rw [← hred]
      have e : cat (restF K x) = (restF K x).1 := by unfold cat; rw [List.length_eq_zero_iff.1 hr.2, List.append_nil]
      rw [e]
      exact vf_zero (leadS_neg hn) j
    refine ⟨fun k hk => Sp.mem (List.mem_cons_of_mem _ (List.mem_map.2 ⟨k, hk, rfl⟩)), ?_, fun k hk => Sp.mem (List.mem_map.2 ⟨k, hk, rfl⟩)⟩
    have := (red_zero h.tri).1 hz
    rwa [tri_fst] at this
  · rename_i hn
    obtain ⟨l, c, hc, hl, hL, hF, hv⟩ := norm_row hr hn
    refine ⟨?_, ?_, fun k hk => Sp.mem (List.mem_map.2 ⟨k, by simp [hk], rfl⟩)⟩
    · intro k hk
      rcases List.mem_append.1 hk with h' | h'
      · exact Sp.mem (List.mem_cons_of_mem _ (List.mem_map.2 ⟨k, h', rfl⟩))
      · simp at h'; subst h'
        rw [hv, hred]
        refine Sp.scale c ?_
        have e : red (tri K) (vf (cat x)) = fun j => vf (cat x) j ^^^ (vf (cat x) j ^^^ red (tri K) (vf (cat x)) j) := by funext j; rw [← xor_assoc, xor_self, zero_xor]
        rw [e]
        exact Sp.add (Sp.mem (by simp)) (hspan.cons _)
    · have e : vf (cat x) = fun j => gmul (ginv c) (vf (cat (normS (restF K x))) j) ^^^ (vf (cat x) j ^^^ red (tri K) (vf (cat x)) j) := by
        funext j
        rw [hv, hred]
        show _ = gmul (ginv c) (gmul c _) ^^^ _
        rw [← gmul_assoc, ginv_gmul c hc, one_gmul, xor_comm (red _ _ _), xor_cancel]
      rw [e]
      refine Sp.add (Sp.scale _ (Sp.mem (by simp))) (Sp.sub (fun a ha => ?_) hspan)
      simp only [List.mem_map] at ha ⊢
      obtain ⟨k, hk, rfl⟩ := ha
      exact ⟨k, by simp [hk], rfl⟩
theorem fold_rank {n : Nat} (Inv : List Rw → Prop) (f : List Rw → Rw → List Rw) (h0 : Inv []) (hK : ∀ K, Inv K → Kept n 0 K) (hf : ∀ K x, Inv K → Fit n 0 x → Inv (f K x) ∧ (f K x).Perm (keepF K x)) (rows : List (List UInt8)) (hrows : ∀ r, r ∈ rows → r.length = n) :
    Rk (rows.map vf) (rows.foldl (fun K r => f K (r, [])) []).length := by
  have key : ∀ (todo : List (List UInt8)) (K : List Rw) (done : List V), (∀ r, r ∈ todo → r.length = n) → Inv K → (∀ k, k ∈ K → Sp done (vf (cat k))) → (∀ v, v ∈ done → Sp (K.map fun k => vf (cat k)) v) →
      Inv (todo.foldl (fun K r => f K (r, [])) K) ∧ (∀ k, k ∈ todo.foldl (fun K r => f K (r, [])) K → Sp (done ++ todo.map vf) (vf (cat k))) ∧ (∀ v, v ∈ done ++ todo.map vf → Sp ((todo.foldl (fun K r => f K (r, [])) K).map fun k => vf (cat k)) v) := by
    intro todo
    induction todo with
    | nil => intro K done _ h1 h2 h3; exact ⟨h1, fun k hk => by simpa using h2 k hk, fun v hv => h3 v (by simpa using hv)⟩
    | cons r todo ih =>
      intro K done hl h1 h2 h3
      have hx : Fit n 0 (r, []) := ⟨hl r (by simp), rfl⟩
      have ec : cat (r, []) = r := by simp [cat]
      obtain ⟨s1, s2, s3⟩ := kept_span (hK K h1) hx
      obtain ⟨i1, hp⟩ := hf K (r, []) h1 hx
      have hm : ∀ {v : V}, Sp ((keepF K (r, [])).map fun k => vf (cat k)) v → Sp ((f K (r, [])).map fun k => vf (cat k)) v := fun h => Sp.sub (fun a ha => by
        obtain ⟨k, hk, rfl⟩ := List.mem_map.1 ha
        exact List.mem_map.2 ⟨k, hp.mem_iff.2 hk, rfl⟩) h
      rw [ec] at s1 s2
      have := ih (f K (r, [])) (done ++ [vf r]) (fun a ha => hl a (by simp [ha])) i1 (fun k hk => by
        refine Sp.trans ?_ (s1 k (hp.mem_iff.1 hk))
        intro a ha
        rcases List.mem_cons.1 ha with rfl | ha
        · exact Sp.mem (by simp)
        · obtain ⟨k', hk', rfl⟩ := List.mem_map.1 ha
          exact Sp.sub (fun b hb => by simp [hb]) (h2 k' hk')) (fun v hv => by
        rcases List.mem_append.1 hv with hv | hv
        · refine Sp.trans ?_ (h3 v hv)
          intro a ha
          obtain ⟨k', hk', rfl⟩ := List.mem_map.1 ha
          exact hm (s3 k' hk')
        · simp at hv; subst hv; exact hm s2)
      simpa using this
  obtain ⟨k1, k2, k3⟩ := key rows [] [] hrows h0 (by simp) (by simp)
  simp only [List.nil_append] at k2 k3
  refine ⟨_, (hK _ k1).tri.ind, ?_, ?_, ?_⟩
  · rw [tri_fst, List.length_map]
  · intro b hb
    rw [tri_fst] at hb
    obtain ⟨k, hk, rfl⟩ := List.mem_map.1 hb
    exact k2 k hk
  · intro a ha
    rw [tri_fst]
    exact k3 a ha
theorem kept_rank {n : Nat} (rows : List (List UInt8)) (hrows : ∀ r, r ∈ rows → r.length = n) : Rk (rows.map vf) (rows.foldl (fun K r => keepF K (r, [])) []).length :=
  fold_rank (Kept n 0) keepF (Kept.nil n 0) (fun _ h => h) (fun K x h hx => ⟨h.step hx, List.Perm.refl _⟩) rows hrows
/-- a row more, or not, as the document keeps them: by the places where they lead -/
def insF (K : List Rw) (x : Rw) : List Rw :=
  if leadS (normS (restF K x)).1 < 0 then K else K.takeWhile (fun r => decide (leadS r.1 < leadS (normS (restF K x)).1)) ++ normS (restF K x) :: K.dropWhile (fun r => decide (leadS r.1 < leadS (normS (restF K x)).1))
theorem norm_leadS (r : Rw) : leadS (normS r).1 = leadS r.1 := by obtain ⟨v, d⟩ := r; exact norm_lead v d
theorem ins_perm (K : List Rw) (x : Rw) : (insF K x).Perm (keepF K x) := by
  unfold insF keepF
  rw [norm_leadS]
  split
  · exact List.Perm.refl _
  · refine (List.perm_middle).trans ?_
    rw [List.takeWhile_append_dropWhile]
    exact (List.perm_append_singleton _ _).symm
structure KeptS (n t : Nat) (K : List Rw) : Prop where
  rows : ∀ k, k ∈ K → Fit n t k ∧ Led k
  sorted : K.Pairwise (fun a b => leadN a < leadN b)
theorem vf_before {n t l : Nat} {r : Rw} (hf : Fit n t r) (h : Led r) (hl : l < leadN r) : vf (cat r) l = 0 := by
  have hL := h.at
  have := hL.lt hf
  rw [vf_at hf (by omega)]
  have hz := hL.2.2 l
  simp only [atS, Int.toNat_natCast, Int.natCast_nonneg, if_true, List.getD_eq_getElem?_getD]
  cases e : r.1[l]? with
  | none => rfl
  | some y => exact hz y hl e
theorem tri_of_sorted {n t : Nat} : ∀ {K : List Rw}, (∀ k, k ∈ K → Fit n t k ∧ Led k) → K.Pairwise (fun a b => leadN a < leadN b) → Tri (tri K)
  | [], _, _ => trivial
  | k :: K, h1, h2 => by
    obtain ⟨g1, g2⟩ := List.pairwise_cons.1 h2
    obtain ⟨hf, hl⟩ := h1 k (by simp)
    refine ⟨vf_lead hl.at hf, ?_, tri_of_sorted (fun a ha => h1 a (by simp [ha])) g2⟩
    intro p hp
    obtain ⟨k', hk', rfl⟩ := tri_mem hp
    exact vf_before (h1 k' (by simp [hk'])).1 (h1 k' (by simp [hk'])).2 (g1 k' hk')
theorem KeptS.kept {n t : Nat} {K : List Rw} (h : KeptS n t K) : Kept n t K := ⟨h.rows, tri_of_sorted h.rows h.sorted⟩
theorem KeptS.nil (n t : Nat) : KeptS n t [] := ⟨by simp, List.Pairwise.nil⟩
theorem mem_take {α : Type} {p : α → Bool} : ∀ {l : List α} {a : α}, a ∈ l.takeWhile p → p a = true
  | b :: l, a, h => by
    rw [List.takeWhile_cons] at h
    split at h
    · rename_i hb
      rcases List.mem_cons.1 h with rfl | h
      · exact hb
      · exact mem_take h
    · simp at h
theorem drop_head {α : Type} {p : α → Bool} : ∀ {l : List α} {a : α} {r : List α}, l.dropWhile p = a :: r → p a = false
  | b :: l, a, r, h => by
    rw [List.dropWhile_cons] at h
    split at h
    · exact drop_head h
    · rename_i hb
      simp at h
      rw [← h.1]; simpa using hb
theorem KeptS.step {n t : Nat} {K : List Rw} {x : Rw} (h : KeptS n t K) (hx : Fit n t x) : KeptS n t (insF K x) := by
  have hkk := h.kept.step hx
  have hp := ins_perm K x
  refine ⟨fun k hk => hkk.rows k (hp.mem_iff.1 hk), ?_⟩
  unfold insF
  split
  · exact h.sorted
  · rename_i hn
    rw [norm_leadS] at hn
    have hr := hx.rest (fun k hk => (h.rows k hk).1)
    obtain ⟨l, c, hc, hl, hL, hF, hv⟩ := norm_row hr hn
    have hln := leadN_of hL
    rw [hL.1]
    have hne : ∀ k, k ∈ K → leadN k ≠ l := by
      intro k hk e
      have h1 : vf (cat (normS (restF K x))) l = 1 := vf_lead hL hF
      have h2 : vf (cat (normS (restF K x))) (leadN k) = 0 := by
        rw [hv]
        show gmul c (vf (cat (restF K x)) (leadN k)) = 0
        rw [rest_red h.rows hx, red_at h.kept.tri (vf (cat k), leadN k) (List.mem_map.2 ⟨k, hk, rfl⟩), gmul_zero]
      rw [e, h1] at h2
      exact absurd h2 (by decide)
    have hlead : ∀ k, k ∈ K → leadS k.1 = (leadN k : Int) := fun k hk => (h.rows k hk).2.at.1
    have hs : (K.takeWhile (fun r => decide (leadS r.1 < (l : Int))) ++ K.dropWhile (fun r => decide (leadS r.1 < (l : Int)))).Pairwise (fun a b => leadN a < leadN b) := by
      rw [List.takeWhile_append_dropWhile]; exact h.sorted
    have mT : ∀ k, k ∈ K.takeWhile (fun r => decide (leadS r.1 < (l : Int))) → k ∈ K ∧ leadN k < l := by
      intro k hk
      have h1 := (List.takeWhile_sublist _).mem hk
      refine ⟨h1, ?_⟩
      have := mem_take hk
      rw [decide_eq_true_eq, hlead k h1] at this
      omega
    have mD : ∀ k, k ∈ K.dropWhile (fun r => decide (leadS r.1 < (l : Int))) → l < leadN k := by
      obtain ⟨h1, h2, h3⟩ := List.pairwise_append.1 hs
      cases e : K.dropWhile (fun r => decide (leadS r.1 < (l : Int))) with
      | nil => intro k hk; simp at hk
      | cons a r =>
        have ha : a ∈ K := (List.dropWhile_sublist _).mem (by rw [e]; simp)
        have hd := drop_head e
        rw [decide_eq_false_iff_not, hlead a ha] at hd
        have hla : l < leadN a := by have := hne a ha; omega
        rw [e] at h2
        intro k hk
        rcases List.mem_cons.1 hk with rfl | hk
        · exact hla
        · exact Nat.lt_trans hla ((List.pairwise_cons.1 h2).1 k hk)
    obtain ⟨h1, h2, h3⟩ := List.pairwise_append.1 hs
    refine List.pairwise_append.2 ⟨h1, List.pairwise_cons.2 ⟨fun k hk => by rw [hln]; exact mD k hk, h2⟩, ?_⟩
    intro a ha b hb
    rcases List.mem_cons.1 hb with rfl | hb
    · rw [hln]; exact (mT a ha).2
    · exact h3 a ha b hb
theorem ins_rank {n : Nat} (rows : List (List UInt8)) (hrows : ∀ r, r ∈ rows → r.length = n) : Rk (rows.map vf) (rows.foldl (fun K r => insF K (r, [])) []).length :=
  fold_rank (KeptS n 0) insF (KeptS.nil n 0) (fun _ h => h.kept) (fun K x h hx => ⟨h.step hx, ins_perm K x⟩) rows hrows
/-- both ranks are one -/
theorem rank_same {n : Nat} (rows : List (List UInt8)) (hrows : ∀ r, r ∈ rows → r.length = n) : (rows.foldl (fun K r => keepF K (r, [])) []).length = (rows.foldl (fun K r => insF K (r, [])) []).length :=
  (kept_rank rows hrows).unique (ins_rank rows hrows)
end Go.Proofs.Ytofhdakggapahaa
namespace Go.Proofs.Ytofhdakggapahaa
open Go.RowKit Go.By
theorem info_vrow : (Try.prog.info? 61).map (fun i => (i.zero, i.size, i.bytes)) = some (some (.agg #[.slice none 0 0, .slice none 0 0]), 2, 48) := by kernel_rfl
/-- the rows kept of the first k -/
def kF (wd : Nat) (cells : List UInt8) (k : Nat) : List Rw := ((List.range k).map (rowF wd cells)).foldl (fun K r => keepF K (r, [])) []
theorem kF_succ (wd : Nat) (cells : List UInt8) (k : Nat) : kF wd cells (k + 1) = keepF (kF wd cells k) (rowF wd cells k, []) := by
  unfold kF; rw [List.range_succ, List.map_append, List.foldl_append]; rfl
theorem keepF_len (K : List Rw) (x : Rw) : (keepF K x).length ≤ K.length + 1 := by unfold keepF; split <;> simp
theorem kF_len (wd : Nat) (cells : List UInt8) : ∀ k, (kF wd cells k).length ≤ k
  | 0 => by simp [kF]
  | k + 1 => by rw [kF_succ]; exact Nat.le_trans (keepF_len _ _) (Nat.succ_le_succ (kF_len wd cells k))
theorem rowF_len {h wd i : Nat} {cells : List UInt8} (hl : cells.length = h * wd) (hi : i < h) : (rowF wd cells i).length = wd := by
  have : (i + 1) * wd ≤ h * wd := Nat.mul_le_mul_right _ hi
  rw [Nat.add_mul, Nat.one_mul] at this
  unfold rowF; rw [List.length_take, List.length_drop]; omega
theorem kF_kept {h wd : Nat} {cells : List UInt8} (hl : cells.length = h * wd) : ∀ k, k ≤ h → Kept wd 0 (kF wd cells k)
  | 0, _ => Kept.nil wd 0
  | k + 1, hk => by rw [kF_succ]; exact (kF_kept hl k (by omega)).step ⟨rowF_len hl (by omega), rfl⟩
theorem restF_snoc (K : List Rw) (k x : Rw) : restF (K ++ [k]) x = lessF (restF K x) (atS (restF K x).1 (leadS k.1)) k := by unfold restF; rw [List.foldl_append]; rfl
theorem restF_take {K : List Rw} {j : Nat} {k x : Rw} (h : K[j]? = some k) : restF (K.take (j + 1)) x = lessF (restF (K.take j) x) (atS (restF (K.take j) x).1 (leadS k.1)) k := by
  have e : K.take (j + 1) = K.take j ++ [k] := by
    rw [List.take_add_one, h]; rfl
  rw [e, restF_snoc]
theorem lessS_fit {n t : Nat} {x k : Rw} {c : UInt8} (hx : Fit n t x) (hk : Fit n t k) : lessS x c k = (lessF x c k, 0) := by
  unfold lessS lessF
  rw [if_pos ⟨by rw [hx.1, hk.1], by rw [hx.2, hk.2]⟩]
set_option maxRecDepth 100000 in
set_option maxHeartbeats 4000000 in
theorem Rank_any (h wd : Nat) (p : Option Addr) (n c : Nat) (cells : List UInt8) (w : World) (hs : Sl B8 w p n c cells) (hn : n = h * wd) (hr : Room wd) (hh : h ≤ 65536) :
    Calls Try.prog 20 #[.agg #[.int .i64 h, .int .i64 wd, .slice p n c]] w fun e w' => e = .returned (.int .i64 (kF wd cells h).length) ∧ Below w.heap.size w w' := by
  obtain ⟨r0, hr0, hrz, hr1, hr2⟩ := info_parts info_vrow
  have HKK : Hid (∀ k, k ≤ h → Kept wd 0 (kF wd cells k)) := kF_kept (by rw [hs.len, hn])
  have HRL : Hid (∀ i, i < h → (rowF wd cells i).length = wd) := fun i hi => rowF_len (by rw [hs.len, hn]) hi
  have HS := Lib.hid hs; have HN := Lib.hid hn
  have HR := Lib.hid hr
  have HB : Hid (∀ o, Below w.heap.size w (w.alloc o)) := fun o => al (Below.refl _ _) (Nat.le_refl _)
  clear hs hn hr
  go_enter Try.func20, Try.ntmps20
  go_wp2
  go_loopw [3, 10] (fun kept i wr => ∃ (k nk : Nat) (qk : Option Addr) (ck : Nat), k ≤ h ∧ nk ≤ k ∧ i = .int .i64 k ∧ kept = .slice qk nk ck ∧ Hid (RwL 61 5 wr w.heap.size (.slice qk nk ck) nk (kF wd cells k)) ∧ Hid (Below w.heap.size w wr) ∧
    Hid (wr.heap[w.heap.size]? = some (.cells #[.int .i64 h, .int .i64 wd, .slice p n c] 27 (0, 0)))) (fun _ i _ => h - (intOf i).toNat)
  case atStart => exact ⟨0, 0, none, 0, Nat.zero_le _, Nat.zero_le _, rfl, rfl, RwL.nil _ _ _ _, HB.out _, hnew rfl⟩
  case round =>
    obtain ⟨k, nk, qk, ck, hk, hnk, rfl, rfl, hK, hBw, hX⟩ := hrel
    by_cases hlt : k < h
    · obtain ⟨x0, x1, x2⟩ := cells3 hX.out
      go_wp2_with fail
      refine Calls.mono (row_any h wd k p n c cells wr (HS.out.keep hBw.out) HN.out hlt (by omega)) ?_
      rintro e w2 ⟨q', c', rfl, hs', -, hb'⟩
      have HS' := Lib.hid hs'
      have HB2 := Lib.hid hb'
      clear x0 x1 x2 hs' hb'
      go_wp2_with fail
      refine Calls.mono (Of_any q' none wd c' 0 0 (rowF wd cells k) [] w2 HS'.out (Sl.nil0 _ _) HR.out (show Room 0 by unfold Room; omega)) ?_
      rintro e w3 ⟨q1, m1, g1, q2, m2, g2, l1, l2, rfl, o1, o2, hb3⟩
      have HB3 : Hid (Below wr.heap.size wr w3) := bl HB2.out hb3 HB2.out.size
      have S1 := Lib.hid (Sl.of_owns o1); have S2 := Lib.hid (Sl.of_owns o2)
      have K3 : Hid (RwL 61 5 w3 w.heap.size (.slice qk nk ck) nk (kF wd cells k)) := hK.out.keep HB3.out
      have BW3 : Hid (Below w.heap.size w w3) := bl hBw.out HB3.out hBw.out.size
      have X3 : Hid (w3.heap[w.heap.size]? = some (.cells #[.int .i64 h, .int .i64 wd, .slice p n c] 27 (0, 0))) := (HB3.out.block _ (blk_lt hX.out)).trans hX.out
      have hkb : nk ≤ 65536 := by omega
      have HKB : Hid (∀ kk, (Value.slice qk nk ck).ownBlock = some kk → kk < w3.heap.size) := fun kk hk => (K3.out.lt kk hk).2
      clear hK hBw hX o1 o2 hb3 HB2 HB3 HS'
      go_wp2
      go_loopw [19] (fun i wq => ∃ (j : Nat) (q1 : Option Addr) (m1 g1 : Nat) (q2 : Option Addr) (m2 g2 : Nat), j ≤ nk ∧ i = .int .i64 j ∧ Hid (wq.heap[w3.heap.size]? = some (.cells #[.slice q1 m1 g1, .slice q2 m2 g2] 61 (0, 0))) ∧
        Hid (Sl B8 wq q1 m1 g1 (restF ((kF wd cells k).take j) (rowF wd cells k, [])).1) ∧ Hid (Sl B8 wq q2 m2 g2 (restF ((kF wd cells k).take j) (rowF wd cells k, [])).2) ∧
        Hid (RwL 61 5 wq w.heap.size (.slice qk nk ck) nk (kF wd cells k)) ∧ Hid (Below w.heap.size w wq) ∧ Hid (wq.heap[w.heap.size]? = some (.cells #[.int .i64 h, .int .i64 wd, .slice p n c] 27 (0, 0)))) (fun i _ => nk - (intOf i).toNat)
      case atStart => exact ⟨0, q1, m1, g1, q2, m2, g2, Nat.zero_le _, rfl, hnew rfl, S1.out.keep (al (Below.refl _ _) (Nat.le_refl _)), S2.out.keep (al (Below.refl _ _) (Nat.le_refl _)), K3.out.keep (al (Below.refl _ _) (Nat.le_refl _)), al BW3.out BW3.out.size, hal X3.out⟩
      case round =>
        clear S1 S2 K3 X3 l1 l2
        obtain ⟨j, q1, m1, g1, q2, m2, g2, hj, rfl, hL, hS1, hS2, hK, hBw, hX⟩ := hrel
        by_cases hjl : j < nk
        · obtain ⟨gk, kk, a1, b1, d1, a2, b2, d2, rfl, e1, e2, hkk, t1, t2⟩ := hK.out.at hjl
          have T1 := Lib.hid t1; have T2 := Lib.hid t2
          have jn : (j : Int) < (nk : Int) := by omega
          obtain ⟨y0, y1⟩ := cells2 hL.out
          have E1 := Lib.hid e1; have E2 := Lib.hid e2
          have hx : Fit wd 0 (rowF wd cells k, []) := ⟨HRL.out k hlt, rfl⟩
          have hkept := HKK.out k (by omega)
          have fitK : Fit wd 0 kk := (hkept.rows kk (List.mem_of_getElem? hkk.out)).1
          obtain ⟨XJ, hXJ⟩ : ∃ XJ, XJ = restF ((kF wd cells k).take j) (rowF wd cells k, []) := ⟨_, rfl⟩
          have fitX : Fit wd 0 XJ := by rw [hXJ]; exact hx.rest (fun a ha => (hkept.rows a (List.mem_of_mem_take ha)).1)
          rw [← hXJ] at hS1 hS2
          obtain ⟨LJ, hLJ⟩ : ∃ LJ, LJ = leadS kk.1 := ⟨_, rfl⟩
          obtain ⟨CJ, hCJ⟩ : ∃ CJ, CJ = atS XJ.1 LJ := ⟨_, rfl⟩
          obtain ⟨YJ, hYJ⟩ : ∃ YJ, YJ = lessF XJ CJ kk := ⟨_, rfl⟩
          have hnext : Hid (restF ((kF wd cells k).take (j + 1)) (rowF wd cells k, []) = YJ) := by show _ = _; rw [restF_take hkk.out, ← hXJ, hYJ, hCJ, hLJ]
          have lm1 : m1 = wd := by have := hS1.out.len; rw [fitX.1] at this; exact this.symm
          have lm2 : m2 = 0 := by have := hS2.out.len; rw [fitX.2] at this; exact this.symm
          have HLD : Hid (∀ W, Sl B8 W a1 b1 d1 kk.1 → Calls Try.prog 62 #[.slice a1 b1 d1] W fun e w' => e = .returned (.int .i64 LJ) ∧ W = w') := fun W h => by rw [hLJ]; exact Lead_any _ _ _ _ W h
          have HAT : Hid (∀ W, Sl B8 W q1 m1 g1 XJ.1 → Calls Try.prog 61 #[.slice q1 m1 g1, .int .i64 LJ] W fun e w' => e = .returned (B8 CJ) ∧ W = w') := fun W h => by rw [hCJ]; exact At_any _ _ _ _ LJ W h
          have HLS : Hid (∀ W, Sl B8 W q1 m1 g1 XJ.1 → Sl B8 W q2 m2 g2 XJ.2 → Sl B8 W a1 b1 d1 kk.1 → Sl B8 W a2 b2 d2 kk.2 → Calls Try.prog 60 #[.agg #[.slice q1 m1 g1, .slice q2 m2 g2], B8 CJ, .agg #[.slice a1 b1 d1, .slice a2 b2 d2]] W (RetR2 5 W YJ 0)) := fun W h1 h2 h3 h4 => by
            have := Less_any q1 q2 a1 a2 m1 g1 m2 g2 b1 d1 b2 d2 XJ.1 XJ.2 kk.1 kk.2 CJ W h1 h2 h3 h4 (by rw [lm1]; exact HR.out) (by rw [lm2]; unfold Room; omega)
            rw [lessS_fit (n := wd) (t := 0) (x := XJ) (k := kk) fitX fitK, ← hYJ] at this
            exact this
          have AL : Hid (Below wr.heap.size wr (wr.alloc (.cells #[.slice a1 b1 d1, .slice a2 b2 d2] 61))) := al (Below.refl _ _) (Nat.le_refl _)
          have hsz3 : Hid (w.heap.size ≤ w3.heap.size) := BW3.out.size
          have hne3 : Hid (w.heap.size ≠ w3.heap.size) := fun e => by have h1 := hX.out; have h2 := hL.out; rw [e] at h1; rw [h1] at h2; injection h2 with h2; injection h2 with h2 h3; exact absurd (congrArg Array.size h2) (by simp)
          have hNX : Hid (∀ (w9 : World) (q5 : Option Addr) (m5 g5 : Nat) (q6 : Option Addr) (m6 g6 : Nat), Below wr.heap.size wr w9 → Sl B8 w9 q5 m5 g5 YJ.1 → Sl B8 w9 q6 m6 g6 YJ.2 → (∀ a, q5 = some a → wr.heap.size ≤ a.block) → (∀ a, q6 = some a → wr.heap.size ≤ a.block) →
              ((w9.setCell ⟨w3.heap.size, 0, none⟩ (.slice q5 m5 g5)).setCell ⟨w3.heap.size, 1, none⟩ (.slice q6 m6 g6)).heap[w3.heap.size]? = some (.cells #[.slice q5 m5 g5, .slice q6 m6 g6] 61 (0, 0)) ∧
              Sl B8 ((w9.setCell ⟨w3.heap.size, 0, none⟩ (.slice q5 m5 g5)).setCell ⟨w3.heap.size, 1, none⟩ (.slice q6 m6 g6)) q5 m5 g5 (restF ((kF wd cells k).take (j + 1)) (rowF wd cells k, [])).1 ∧
              Sl B8 ((w9.setCell ⟨w3.heap.size, 0, none⟩ (.slice q5 m5 g5)).setCell ⟨w3.heap.size, 1, none⟩ (.slice q6 m6 g6)) q6 m6 g6 (restF ((kF wd cells k).take (j + 1)) (rowF wd cells k, [])).2 ∧
              RwL 61 5 ((w9.setCell ⟨w3.heap.size, 0, none⟩ (.slice q5 m5 g5)).setCell ⟨w3.heap.size, 1, none⟩ (.slice q6 m6 g6)) w.heap.size (.slice (some ⟨gk, 0, none⟩) nk ck) nk (kF wd cells k) ∧
              Below w.heap.size w ((w9.setCell ⟨w3.heap.size, 0, none⟩ (.slice q5 m5 g5)).setCell ⟨w3.heap.size, 1, none⟩ (.slice q6 m6 g6)) ∧
              ((w9.setCell ⟨w3.heap.size, 0, none⟩ (.slice q5 m5 g5)).setCell ⟨w3.heap.size, 1, none⟩ (.slice q6 m6 g6)).heap[w.heap.size]? = some (.cells #[.int .i64 h, .int .i64 wd, .slice p n c] 27 (0, 0))) := by
            intro w9 q5 m5 g5 q6 m6 g6 b9 s5 s6 s7 s8
            have L9 : w9.heap[w3.heap.size]? = some (.cells #[.slice q1 m1 g1, .slice q2 m2 g2] 61 (0, 0)) := (b9.block _ (blk_lt hL.out)).trans hL.out
            have X9 : w9.heap[w.heap.size]? = some (.cells #[.int .i64 h, .int .i64 wd, .slice p n c] 27 (0, 0)) := (b9.block _ (blk_lt hX.out)).trans hX.out
            have K9 := hK.out.keep b9
            rw [hnext.out]
            have hl3 := blk_lt hL.out
            have ne5 : ∀ a, q5 = some a → a.block ≠ w3.heap.size := fun a ha => by have := s7 a ha; omega
            have ne6 : ∀ a, q6 = some a → a.block ≠ w3.heap.size := fun a ha => by have := s8 a ha; omega
            have gb := grown_trans (grownBy_setCell' w9 w3.heap.size 0 (.slice q5 m5 g5)) (grownBy_setCell' (w9.setCell ⟨w3.heap.size, 0, none⟩ (.slice q5 m5 g5)) w3.heap.size 1 (.slice q6 m6 g6))
            have hgk : (Value.slice (some ⟨gk, 0, none⟩) nk ck).ownBlock ≠ some w3.heap.size := fun e => Nat.lt_irrefl _ (HKB.out _ e)
            exact ⟨hss (hss L9), (s5.set ne5).set ne5, (s6.set ne6).set ne6, K9.set L9 (by decide) hgk gb, ((bl hBw.out b9 hBw.out.size).setCell hsz3.out _).setCell hsz3.out _, hsc (hsc X9 hne3.out) hne3.out⟩
          have z0 : (wr.alloc (.cells #[.slice a1 b1 d1, .slice a2 b2 d2] 61)).cell? ⟨wr.heap.size, 0, none⟩ = some (.slice a1 b1 d1) := cell_of_row _ _ 0 _ _ _ (hnew rfl)
          have z1 : (wr.alloc (.cells #[.slice a1 b1 d1, .slice a2 b2 d2] 61)).cell? ⟨wr.heap.size, 1, none⟩ = some (.slice a2 b2 d2) := cell_of_row _ _ 1 _ _ _ (hnew rfl)
          clear hXJ hLJ hCJ hYJ hx hkept fitK fitX lm1 lm2 t1 t2
          clear z0 z1 y0 y1
          go_wp2
          have z0 : (wr.alloc (.cells #[.slice a1 b1 d1, .slice a2 b2 d2] 61)).cell? ⟨wr.heap.size, 0, none⟩ = some (.slice a1 b1 d1) := cell_of_row _ _ 0 _ _ _ (hnew rfl)
          have z1 : (wr.alloc (.cells #[.slice a1 b1 d1, .slice a2 b2 d2] 61)).cell? ⟨wr.heap.size, 1, none⟩ = some (.slice a2 b2 d2) := cell_of_row _ _ 1 _ _ _ (hnew rfl)
          obtain ⟨y0, y1⟩ := cells2 (hal (o := .cells #[.slice a1 b1 d1, .slice a2 b2 d2] 61) hL.out)
          refine wp_region_late (fun ix => ([.val (.agg #[.slice q1 m1 g1, .slice q2 m2 g2]), .val (.pointer (some ⟨w3.heap.size, 0, none⟩)), .val (.slice q1 m1 g1), .val (.pointer (some ⟨wr.heap.size, 0, none⟩)), .val (.slice a1 b1 d1), .val (.int .i64 LJ), .val (B8 CJ), .val (.agg #[.slice a1 b1 d1, .slice a2 b2 d2]), .rowTN (wr.heap.size) (YJ) (0), .rowTN (wr.heap.size) (YJ) (0), .rowN (wr.heap.size) (YJ), .val (.int .i64 0), .any][ix]?).getD (.any)) 48 12 11 23 34 rfl (by kernel_rfl) (by decide) (by decide) (by decide) _ rfl rfl rfl (by decide) (fun a u x w h => run_extract1 _ rfl h) (by decide) ?_ ?_
          · refine ⟨?_, ?_, ?_, ?_, ?_, ?_, ?_, ?_, ?_, ?_, ?_, ?_, trivial⟩
            · intro a W hb0 hs hp hi; have hb := undrew hb0; clear hb0
              have tt : sl a 5 = .pointer (some ⟨w3.heap.size, 0, none⟩) := hi 5 (by decide)
              have dd0 := (hb.cell (p := ⟨w3.heap.size, 0, none⟩) (lt_of_cell y0)).trans y0
              have dd1 := (hb.cell (p := ⟨w3.heap.size, 1, none⟩) (lt_of_cell y1)).trans y1
              refine ite_y rfl (wp_val (.agg #[.slice q1 m1 g1, .slice q2 m2 g2]) ?_ ?_)
              · simp only [execOp, eval_tmp, tt]; simp [go_sem, dd0, dd1]
              · exact ⟨_, rfl, Below.refl _ _, rfl⟩
            · intro a W hb0 hs hp hi; have hb := undrew hb0; clear hb0
              have t5 : sl a 5 = .pointer (some ⟨w3.heap.size, 0, none⟩) := hi 5 (by decide)
              refine ite_y rfl (wp_val (.pointer (some ⟨w3.heap.size, 0, none⟩)) ?_ ?_)
              · simp only [execOp, eval_tmp, eval_const, t5]; simp [go_sem]
              · exact ⟨_, rfl, Below.refl _ _, rfl⟩
            · intro a W hb0 hs hp hi; have hb := undrew hb0; clear hb0
              have tt : sl a 25 = .pointer (some ⟨w3.heap.size, 0, none⟩) := hp 1 (by decide)
              have dd0 := (hb.cell (p := ⟨w3.heap.size, 0, none⟩) (lt_of_cell y0)).trans y0
              refine ite_y rfl (wp_val (.slice q1 m1 g1) ?_ ?_)
              · simp only [execOp, eval_tmp, tt]; simp [go_sem, dd0]
              · exact ⟨_, rfl, Below.refl _ _, rfl⟩
            · intro a W hb0 hs hp hi; have hb := undrew hb0; clear hb0
              have t7 : sl a 7 = .pointer (some ⟨wr.heap.size, 0, none⟩) := hi 7 (by decide)
              refine ite_y rfl (wp_val (.pointer (some ⟨wr.heap.size, 0, none⟩)) ?_ ?_)
              · simp only [execOp, eval_tmp, eval_const, t7]; simp [go_sem]
              · exact ⟨_, rfl, Below.refl _ _, rfl⟩
            · intro a W hb0 hs hp hi; have hb := undrew hb0; clear hb0
              have tt : sl a 27 = .pointer (some ⟨wr.heap.size, 0, none⟩) := hp 3 (by decide)
              have dd0 := (hb.cell (p := ⟨wr.heap.size, 0, none⟩) (lt_of_cell z0)).trans z0
              refine ite_y rfl (wp_val (.slice a1 b1 d1) ?_ ?_)
              · simp only [execOp, eval_tmp, tt]; simp [go_sem, dd0]
              · exact ⟨_, rfl, Below.refl _ _, rfl⟩
            · intro a W hb0 hs hp hi; have hb := undrew hb0; clear hb0
              have t28 : sl a 28 = .slice a1 b1 d1 := hp 4 (by decide)
              refine ite_y rfl (wp_enter 62 #[.slice a1 b1 d1] ?_ (HLD.out _ (T1.out.keep (AL.out.trans (hb.mono AL.out.size)))) ?_)
              · simp only [execOp, resolve, List.map_toArray, List.map, eval_tmp, eval_func, eval_const, t28]; simp [go_sem]
              · rintro e W' ⟨rfl, rfl⟩; exact ⟨_, rfl, _, rfl, Below.refl _ _, rfl⟩
            · intro a W hb0 hs hp hi; have hb := undrew hb0; clear hb0
              have t26 : sl a 26 = .slice q1 m1 g1 := hp 2 (by decide)
              have t29 : sl a 29 = .int .i64 LJ := hp 5 (by decide)
              refine ite_y rfl (wp_enter 61 #[.slice q1 m1 g1, .int .i64 LJ] ?_ (HAT.out _ (hS1.out.keep (AL.out.trans (hb.mono AL.out.size)))) ?_)
              · simp only [execOp, resolve, List.map_toArray, List.map, eval_tmp, eval_func, eval_const, t26, t29]; simp [go_sem]
              · rintro e W' ⟨rfl, rfl⟩; exact ⟨_, rfl, _, rfl, Below.refl _ _, rfl⟩
            · intro a W hb0 hs hp hi; have hb := undrew hb0; clear hb0
              have tt : sl a 7 = .pointer (some ⟨wr.heap.size, 0, none⟩) := hi 7 (by decide)
              have dd0 := (hb.cell (p := ⟨wr.heap.size, 0, none⟩) (lt_of_cell z0)).trans z0
              have dd1 := (hb.cell (p := ⟨wr.heap.size, 1, none⟩) (lt_of_cell z1)).trans z1
              refine ite_y rfl (wp_val (.agg #[.slice a1 b1 d1, .slice a2 b2 d2]) ?_ ?_)
              · simp only [execOp, eval_tmp, tt]; simp [go_sem, dd0, dd1]
              · exact ⟨_, rfl, Below.refl _ _, rfl⟩
            · intro a W hb0 hs hp hi; have hb := undrew hb0; clear hb0
              have t24 : sl a 24 = .agg #[.slice q1 m1 g1, .slice q2 m2 g2] := hp 0 (by decide)
              have t30 : sl a 30 = B8 CJ := hp 6 (by decide)
              have t31 : sl a 31 = .agg #[.slice a1 b1 d1, .slice a2 b2 d2] := hp 7 (by decide)
              refine ite_y rfl (wp_enter 60 #[.agg #[.slice q1 m1 g1, .slice q2 m2 g2], B8 CJ, .agg #[.slice a1 b1 d1, .slice a2 b2 d2]] ?_ (HLS.out _ (hS1.out.keep (AL.out.trans (hb.mono AL.out.size))) (hS2.out.keep (AL.out.trans (hb.mono AL.out.size))) (T1.out.keep (AL.out.trans (hb.mono AL.out.size))) (T2.out.keep (AL.out.trans (hb.mono AL.out.size)))) ?_)
              · simp only [execOp, resolve, List.map_toArray, List.map, eval_tmp, eval_func, eval_const, t24, t30, t31]; simp [go_sem]
              · rintro e W' ⟨q5, m5, g5, q6, m6, g6, e5, e6, rfl, o5, o6, hw⟩; have hbs := hb.size; simp at hbs; exact ⟨_, rfl, _, rfl, hw, _, rfl, q5, m5, g5, q6, m6, g6, rfl, Sl.of_owns o5, Sl.of_owns o6, fun a ha => Nat.le_trans (by omega) (owns_new o5 a ha).1, fun a ha => Nat.le_trans (by omega) (owns_new o6 a ha).1⟩
            · intro a W hb0 hs hp hi; have hb := undrew hb0; clear hb0
              have tt : RowTN (wr.heap.size) (YJ) (0) (sl a 32) W := hp 8 (by decide)
              exact ite_y rfl (wp_val (sl a 32) rfl ⟨_, rfl, Below.refl _ _, tt⟩)
            · intro a W hb0 hs hp hi; have hb := undrew hb0; clear hb0
              have tt : RowTN (wr.heap.size) (YJ) (0) (sl a 23) W := hp 9 (by decide)
              obtain ⟨u, tt, hr⟩ := tt
              exact ite_y rfl (wp_val u (by simp only [execOp, eval_tmp, tt]; rfl) ⟨_, rfl, Below.refl _ _, hr⟩)
            · intro a W hb0 hs hp hi; have hb := undrew hb0; clear hb0
              have tt : RowTN (wr.heap.size) (YJ) (0) (sl a 23) W := hp 9 (by decide)
              obtain ⟨u, tt, hr⟩ := tt
              exact ite_y rfl (wp_val (.int .i64 0) (by simp only [execOp, eval_tmp, tt]; rfl) ⟨_, rfl, Below.refl _ _, rfl⟩)
          · intro a w9 o ho hb hs hd hI ht
            simp at ho; subst ho
            have t5 : sl a 5 = .pointer (some ⟨w3.heap.size, 0, none⟩) := ht 5 (by decide)
            have t23 : RowTN (wr.heap.size) (YJ) (0) (sl a 23) w9 := hI 9 (by decide) (by decide)
            have t33 : RowN (wr.heap.size) (YJ) (sl a 33) w9 := hI 10 (by decide) (by decide)
            obtain ⟨uu, t23, -⟩ := t23
            obtain ⟨q5, m5, g5, q6, m6, g6, t33, s5, s6, s7, s8⟩ := t33
            have b9 : Below wr.heap.size wr w9 := AL.out.trans (hb.mono AL.out.size)
            have L9 : w9.heap[w3.heap.size]? = some (.cells #[.slice q1 m1 g1, .slice q2 m2 g2] 61 (0, 0)) := (b9.block _ (blk_lt hL.out)).trans hL.out
            obtain ⟨d0, d1⟩ := cells2 L9
            have f0 : w9.frozen? ⟨w3.heap.size, 0, none⟩ = false := frozen_of_row _ _ 0 _ _ L9
            have f1 : w9.frozen? ⟨w3.heap.size, 1, none⟩ = false := frozen_of_row _ _ 1 _ _ L9
            refine ⟨⟨_, _, t23⟩, wp_skipX (w' := (w9.setCell ⟨w3.heap.size, 0, none⟩ (.slice q5 m5 g5)).setCell ⟨w3.heap.size, 1, none⟩ (.slice q6 m6 g6)) ?_ ⟨rfl, fun b hbs hbd hbt => ?_⟩⟩
            · simp only [execOp, eval_tmp, t33, t5]; simp [go_sem, d0, d1, f0, f1]
            have ha := act_is [24, 25, 26, 27, 28, 29, 30, 31, 32, 23, 33, 34] hbs hbd (fun t h => (hbt t (fun e => by subst e; revert h; decide)).trans (ht t h)) (by decide)
            simp only [List.foldl] at ha
            generalize sl b 24 = u24 at ha
            generalize sl b 25 = u25 at ha
            generalize sl b 26 = u26 at ha
            generalize sl b 27 = u27 at ha
            generalize sl b 28 = u28 at ha
            generalize sl b 29 = u29 at ha
            generalize sl b 30 = u30 at ha
            generalize sl b 31 = u31 at ha
            generalize sl b 32 = u32 at ha
            generalize sl b 23 = u23 at ha
            generalize sl b 33 = u33 at ha
            generalize sl b 34 = u34 at ha
            simp only [Act.put, List.setIfInBounds_toArray, List.set_cons_zero, List.set_cons_succ] at ha
            rw [ha]; clear ha
            have NX := hNX.out w9 q5 m5 g5 q6 m6 g6 b9 s5 s6 s7 s8
            generalize (w9.setCell ⟨w3.heap.size, 0, none⟩ (.slice q5 m5 g5)).setCell ⟨w3.heap.size, 1, none⟩ (.slice q6 m6 g6) = wn at NX ⊢
            have NXH := Lib.hid NX
            clear NX s5 s6 s7 s8 hI ht hbt L9 d0 d1 f0 f1 b9 hb
            go_wp2
            go_roundw
            case rel => exact ⟨j + 1, q5, m5, g5, q6, m6, g6, by omega, by go_num, NXH.out.1, NXH.out.2.1, NXH.out.2.2.1, NXH.out.2.2.2.1, NXH.out.2.2.2.2.1, NXH.out.2.2.2.2.2⟩
            case measure => simp [intOf]; omega
        · have hjn : j = nk := by omega
          have hge : (nk : Int) ≤ (j : Int) := by omega
          obtain ⟨LF, hLF⟩ : ∃ LF, LF = restF (kF wd cells k) (rowF wd cells k, []) := ⟨_, rfl⟩
          have htk : (kF wd cells k).take j = kF wd cells k := List.take_of_length_le (by rw [hK.out.len]; omega)
          rw [htk, ← hLF] at hS1 hS2
          have hsucc : Hid (kF wd cells (k + 1) = if leadS LF.1 < 0 then kF wd cells k else kF wd cells k ++ [normS LF]) := by show _ = _; rw [kF_succ, hLF]; rfl
          have hx : Fit wd 0 (rowF wd cells k, []) := ⟨HRL.out k hlt, rfl⟩
          have hkept := HKK.out k (by omega)
          have fitX : Fit wd 0 LF := by rw [hLF]; exact hx.rest (fun a ha => (hkept.rows a ha).1)
          have lm1 : m1 = wd := by have := hS1.out.len; rw [fitX.1] at this; exact this.symm
          have lm2 : m2 = 0 := by have := hS2.out.len; rw [fitX.2] at this; exact this.symm
          have hzero : zeroS LF.1 = decide (leadS LF.1 < 0) := by
            rcases leadS_cases LF.1 with ⟨h1, _, h3⟩ | ⟨l, x, e, h1, h2, _⟩
            · rw [h1]; unfold zeroS; rw [List.all_eq_true.2 (fun x hx => decide_eq_true (h3 x hx))]; rfl
            · rw [e]
              have : zeroS LF.1 = false := by unfold zeroS; rw [List.all_eq_false]; exact ⟨x, List.mem_of_getElem? h1, by simpa using h2⟩
              rw [this]; exact (decide_eq_false (by omega)).symm
          have r1 : Hid (Room m1) := by rw [lm1]; exact HR
          have r2 : Hid (Room m2) := by show Room m2; rw [lm2]; unfold Room; omega
          have hsz3 : Hid (w.heap.size ≤ w3.heap.size) := BW3.out.size
          obtain ⟨y0, y1⟩ := cells2 hL.out
          have HJ := Lib.hid hjn
          clear hjn htk hLF hx hkept fitX lm1 lm2
          by_cases hneg : leadS LF.1 < 0
          · rw [decide_eq_true hneg] at hzero
            have HZ : Hid (∀ W, Sl B8 W q1 m1 g1 LF.1 → Calls Try.prog 63 #[.slice q1 m1 g1] W fun e w' => e = .returned (.bool true) ∧ W = w') := fun W h => by have := VZero_any _ _ _ LF.1 W h; rwa [hzero] at this
            have hs2 : Hid (kF wd cells (k + 1) = kF wd cells k) := by show _ = _; rw [hsucc.out, if_pos hneg]
            clear hzero hneg hsucc
            go_wp2_with fail
            refine Calls.mono (HZ.out _ hS1.out) ?_
            rintro e w' ⟨rfl, rfl⟩
            go_wp2
            go_roundw
            case rel => exact ⟨k + 1, nk, qk, ck, by omega, by omega, by go_num, rfl, by rw [hs2.out]; exact hK.out, hBw.out, hX.out⟩
            case measure => simp [intOf]; omega
          · rw [decide_eq_false hneg] at hzero
            have HZ : Hid (∀ W, Sl B8 W q1 m1 g1 LF.1 → Calls Try.prog 63 #[.slice q1 m1 g1] W fun e w' => e = .returned (.bool false) ∧ W = w') := fun W h => by have := VZero_any _ _ _ LF.1 W h; rwa [hzero] at this
            have hs2 : Hid (kF wd cells (k + 1) = kF wd cells k ++ [normS LF]) := by show _ = _; rw [hsucc.out, if_neg hneg]
            clear hzero hneg hsucc
            go_wp2_with fail
            refine Calls.mono (HZ.out _ hS1.out) ?_
            rintro e w' ⟨rfl, rfl⟩
            go_wp2_with fail
            refine Calls.mono (Norm_any q1 q2 m1 g1 m2 g2 LF.1 LF.2 _ hS1.out hS2.out r1.out r2.out) ?_
            rintro e w5 ⟨q5, m5, g5, q6, m6, g6, l5, l6, rfl, o5, o6, hb5⟩
            have s5 := hb5.size
            have K5 := hK.out.keep hb5
            have hB3 : ∀ o, Below w5.heap.size w5 (w5.alloc o) := fun o => al (Below.refl _ _) (Nat.le_refl _)
            have HB3 := Lib.hid hB3
            obtain ⟨vs, va, vb, vo, vr⟩ := K5
            have VO := Lib.hid vo; have VR := Lib.hid vr; have VA := Lib.hid va; have VB := Lib.hid vb
            have U1 : Hid (Bw 5 w5 w.heap.size (.slice q5 m5 g5) (normS LF).1) := ⟨q5, m5, g5, rfl, l5.out, owns_mono o5 hBw.out.size⟩
            have U2 : Hid (Bw 5 w5 w.heap.size (.slice q6 m6 g6) (normS LF).2) := ⟨q6, m6, g6, rfl, l6.out, owns_mono o6 hBw.out.size⟩
            have BW5 : Hid (Below w.heap.size w w5) := bl hBw.out hb5 hBw.out.size
            have X5 : Hid (w5.heap[w.heap.size]? = some (.cells #[.int .i64 h, .int .i64 wd, .slice p n c] 27 (0, 0))) := (hb5.block _ (blk_lt hX.out)).trans hX.out
            have nX : Hid (∀ kk, (Value.slice qk nk ck).ownBlock = some kk → kk ≠ w.heap.size) := fun kk hk e => by
              rcases vo.2 with ⟨hv, _⟩ | ⟨g', cap, cur, hv, _, hh, _⟩
              · simp at hv; rw [hv.1] at hk; simp [Value.ownBlock] at hk
              · simp at hv; rw [hv.1] at hk; simp [Value.ownBlock] at hk
                rw [hk, e, X5.out] at hh; injection hh with hh; injection hh with _ hh _; exact absurd hh (by decide)
            clear hK hBw hX hL hS1 hS2 o5 o6 hb5 vo vr va vb hB3 y0 y1 l5 l6 HZ r1 r2
            go_wp2_with (at_builtin; refine wpList_append_own _ rfl _ _ 79 rfl w.heap.size 61 r0 _ 2 48 Try.underlying79 hr0 hrz hr1 hr2 rfl (by omega) _ nk (fl2 vs) rfl (owns_keepv VO.out (HB3.out _)) ⟨w5.heap.size, 0, none⟩ 1 1 [.slice q5 m5 g5, .slice q6 m6 g6] rfl rfl ?c1 ?c2 ?c3 ?c4 ?c5 ?_)
            case c1 =>
              intro j x hj
              rw [Addr.add_lit, Nat.zero_add, cell_of_row _ _ j _ _ _ (hnew rfl)]
              match j with
              | 0 => simpa using hj
              | 1 => simpa using hj
              | j + 2 => simp at hj
            case c2 => intro x hx; simp at hx; rcases hx with rfl | rfl <;> rfl
            case c3 => unfold maxLen; omega
            case c4 => omega
            case c5 => have := BW5.out.size; simp; omega
            intro v' w6 ho6 hg6 _
            obtain ⟨qn, cn, rfl⟩ := owns_shape ho6
            have FIN : Hid (RwL 61 5 w6 w.heap.size (.slice qn (nk + 1) cn) (nk + 1) (kF wd cells (k + 1)) ∧ Below w.heap.size w w6 ∧ w6.heap[w.heap.size]? = some (.cells #[.int .i64 h, .int .i64 wd, .slice p n c] 27 (0, 0))) := by
              have hal := HB3.out (.cells #[.slice q5 m5 g5, .slice q6 m6 g6] 61)
              refine ⟨?_, ?_, ?_⟩
              · rw [hs2.out]
                exact RwL.push VA.out VB.out (owns_keepv VO.out hal) (fun j u hj => by obtain ⟨k', hk', g1, g2⟩ := VR.out j u hj; exact ⟨k', hk', g1.keep hal, g2.keep hal⟩) (by decide) (U1.out.keep hal) (U2.out.keep hal) ho6 hg6
              · exact (bl BW5.out hal BW5.out.size).grown hg6 (by have := BW5.out.size; simp; omega) (fun kk hk => (VO.out.lt kk hk).1)
              · rw [hg6.block _ (by have := BW5.out.size; simp; omega) (fun e => nX.out _ e.symm rfl), hal.block _ (blk_lt X5.out)]; exact X5.out
            clear ho6 hg6
            go_wp2
            go_roundw
            case rel => exact ⟨k + 1, nk + 1, qn, cn, by omega, by omega, by go_num, rfl, FIN.out.1, FIN.out.2.1, FIN.out.2.2⟩
            case measure => simp [intOf]; omega
    · have hkh : k = h := by omega
      have hge : (h : Int) ≤ (k : Int) := by omega
      have HL : Hid ((kF wd cells h).length = nk) := by show _ = _; rw [← hkh]; exact hK.out.len
      have HBF := Lib.hid hBw.out
      clear hkh hK hX hBw
      go_wp2
      go_ret
      exact ⟨by rw [HL.out]; rfl, HBF.out⟩
end Go.Proofs.Ytofhdakggapahaa
namespace Go.By
open Go.RowKit
/-- a slice of rows, as it reads -/
structure RwS (w : World) (p : Option Addr) (n c : Nat) (K : List (List UInt8 × List UInt8)) : Prop where
  len : K.length = n
  le : n ≤ c
  max : c ≤ maxLen
  nil : p = none → n = 0 ∧ c = 0
  row : ∀ (j : Nat) (k : List UInt8 × List UInt8), K[j]? = some k → ∃ b o q1 m1 c1 q2 m2 c2, p = some ⟨b, o, none⟩ ∧ w.cell? ⟨b, o + j * 2, none⟩ = some (.slice q1 m1 c1) ∧ w.cell? ⟨b, o + j * 2 + 1, none⟩ = some (.slice q2 m2 c2) ∧ Sl B8 w q1 m1 c1 k.1 ∧ Sl B8 w q2 m2 c2 k.2
theorem RwS.keep {w w' : World} {p : Option Addr} {n c : Nat} {K : List (List UInt8 × List UInt8)} (h : RwS w p n c K) (hb : Below w.heap.size w w') : RwS w' p n c K :=
  ⟨h.len, h.le, h.max, h.nil, fun j k hj => by
    obtain ⟨b, o, q1, m1, c1, q2, m2, c2, e, h1, h2, h3, h4⟩ := h.row j k hj
    exact ⟨b, o, q1, m1, c1, q2, m2, c2, e, (hb.cell (p := ⟨b, o + j * 2, none⟩) (lt_of_cell h1)).trans h1, (hb.cell (p := ⟨b, o + j * 2 + 1, none⟩) (lt_of_cell h2)).trans h2, h3.keep hb, h4.keep hb⟩⟩
theorem RwS.nil0 (w : World) : RwS w none 0 0 [] := ⟨rfl, Nat.le_refl _, by simp [maxLen], fun _ => ⟨rfl, rfl⟩, fun j k h => by simp at h⟩
theorem Sl.set2 {α : Type} {enc : α → Value} {w : World} {p : Option Addr} {n c g o : Nat} {v : Value} {xs : List α} (h : Sl enc w p n c xs) (hne : 0 < n → ∀ a, p = some a → a.block ≠ g) : Sl enc (w.setCell ⟨g, o, none⟩ v) p n c xs := by
  rcases Nat.eq_zero_or_pos n with h0 | h0
  · have hx : xs = [] := List.length_eq_zero_iff.1 (by rw [h.len, h0])
    subst hx
    exact ⟨h.len, h.le, h.max, h.nil, Rs.nil⟩
  · exact h.set (hne h0)
end Go.By
namespace Go.Proofs.Ytofhdakggapahaa
open Go.RowKit Go.By
set_option maxRecDepth 100000 in
set_option maxHeartbeats 4000000 in
theorem Rest_any (wd t : Nat) (pk : Option Addr) (nk ck : Nat) (K : List Rw) (p1 p2 : Option Addr) (n1 c1 n2 c2 : Nat) (x : Rw) (w : World) (hK : RwS w pk nk ck K) (s1 : Sl B8 w p1 n1 c1 x.1) (s2 : Sl B8 w p2 n2 c2 x.2)
    (hfit : ∀ k, k ∈ K → Fit wd t k ∧ Led k) (hx : Fit wd t x) (hr1 : Room wd) (hr2 : Room t) (hnk : nk ≤ 65536) :
    Calls Try.prog 92 #[.slice pk nk ck, .agg #[.slice p1 n1 c1, .slice p2 n2 c2]] w (RetS w (restF K x)) := by
  have hinfo := info_ref
  have HK := Lib.hid hK; have HFIT := Lib.hid hfit; have HX := Lib.hid hx; have HR1 := Lib.hid hr1; have HR2 := Lib.hid hr2; have HLEN := Lib.hid hK.len
  have S1 := Lib.hid s1; have S2 := Lib.hid s2
  have a1 : Hid (0 < n1 → ∀ a, p1 = some a → a.block ≠ w.heap.size ∧ a.block ≠ w.heap.size + 1) := fun h0 a ha => by
    obtain ⟨b, o, hp, hb⟩ := s1.rs.lt (by rw [s1.len]; exact h0)
    rw [hp] at ha; cases ha; show b ≠ _ ∧ b ≠ _; omega
  have a2 : Hid (0 < n2 → ∀ a, p2 = some a → a.block ≠ w.heap.size ∧ a.block ≠ w.heap.size + 1) := fun h0 a ha => by
    obtain ⟨b, o, hp, hb⟩ := s2.rs.lt (by rw [s2.len]; exact h0)
    rw [hp] at ha; cases ha; show b ≠ _ ∧ b ≠ _; omega
  have HB0 : Hid (∀ o1 o2, Below w.heap.size w ((w.alloc o1).alloc o2)) := fun o1 o2 => al (al (Below.refl _ _) (Nat.le_refl _)) (by simp)
  clear hK hfit hx hr1 hr2 s1 s2
  go_enter Try.func92, Try.ntmps92
  go_wp2
  go_loopw [10] (fun i wq => ∃ (j : Nat) (q1 : Option Addr) (m1 g1 : Nat) (q2 : Option Addr) (m2 g2 : Nat), j ≤ nk ∧ i = .int .i64 j ∧ Hid (wq.heap[w.heap.size]? = some (.cells #[.slice q1 m1 g1, .slice q2 m2 g2] 68 (0, 0))) ∧
    Hid (Sl B8 wq q1 m1 g1 (restF (K.take j) x).1) ∧ Hid (Sl B8 wq q2 m2 g2 (restF (K.take j) x).2) ∧ Hid (0 < m1 → ∀ a, q1 = some a → a.block ≠ w.heap.size ∧ a.block ≠ w.heap.size + 1) ∧ Hid (0 < m2 → ∀ a, q2 = some a → a.block ≠ w.heap.size ∧ a.block ≠ w.heap.size + 1) ∧
    Hid (Below w.heap.size w wq) ∧ Hid (wq.heap[w.heap.size + 1]? = some (.cells #[.slice none 0 0, .slice none 0 0] 68 (0, 0)))) (fun i _ => nk - (intOf i).toNat)
  case atStart => exact ⟨0, p1, n1, c1, p2, n2, c2, Nat.zero_le _, rfl, hal (hnew rfl), S1.out.keep (HB0.out _ _), S2.out.keep (HB0.out _ _), a1.out, a2.out, HB0.out _ _, hnew (by simp)⟩
  case round =>
    clear S1 S2 a1 a2
    obtain ⟨j, q1, m1, g1, q2, m2, g2, hj, rfl, hL, hS1, hS2, hA1, hA2, hBw, hZ⟩ := hrel
    by_cases hjl : j < nk
    · obtain ⟨kk, hkk⟩ : ∃ kk, K[j]? = some kk := ⟨_, List.getElem?_eq_getElem (by rw [HLEN.out]; exact hjl)⟩
      obtain ⟨bk, ok, a1, b1, d1, a2, b2, d2, rfl, e1, e2, t1, t2⟩ := HK.out.row j kk hkk
      have E1 := (hBw.out.cell (p := ⟨bk, ok + j * 2, none⟩) (lt_of_cell e1)).trans e1
      have E2 := (hBw.out.cell (p := ⟨bk, ok + j * 2 + 1, none⟩) (lt_of_cell e2)).trans e2
      have T1 := Lib.hid (t1.keep hBw.out); have T2 := Lib.hid (t2.keep hBw.out)
      have HKK := Lib.hid hkk
      have jn : (j : Int) < (nk : Int) := by omega
      have fk := HFIT.out kk (List.mem_of_getElem? hkk)
      obtain ⟨XJ, hXJ⟩ : ∃ XJ, XJ = restF (K.take j) x := ⟨_, rfl⟩
      have fitX : Fit wd t XJ := by rw [hXJ]; exact HX.out.rest (fun a ha => (HFIT.out a (List.mem_of_mem_take ha)).1)
      rw [← hXJ] at hS1 hS2
      obtain ⟨l, hl⟩ : ∃ l, l = leadN kk := ⟨_, rfl⟩
      have hLJ : leadS kk.1 = (l : Int) := by rw [hl]; exact fk.2.at.1
      have hlw : l < wd := by rw [hl]; exact fk.2.at.lt fk.1
      have lm1 : m1 = wd := by have := hS1.out.len; rw [fitX.1] at this; exact this.symm
      have lm2 : m2 = t := by have := hS2.out.len; rw [fitX.2] at this; exact this.symm
      have lb1 : b1 = wd := by have := t1.len; rw [fk.1.1] at this; exact this.symm
      have lb2 : b2 = t := by have := t2.len; rw [fk.1.2] at this; exact this.symm
      subst lm1
      obtain ⟨bx, ox, c, rfl, hcx, hxx⟩ := hS1.out.at l hlw
      have hcA : atS XJ.1 (leadS kk.1) = c := by rw [hLJ]; exact at_of hxx.out
      obtain ⟨YJ, hYJ⟩ : ∃ YJ, YJ = lessF XJ c kk := ⟨_, rfl⟩
      have hnext : Hid (restF (K.take (j + 1)) x = YJ) := by show _ = _; rw [restF_take hkk, ← hXJ, hYJ, hcA]
      have HLD : Hid (∀ W, Sl B8 W a1 b1 d1 kk.1 → Calls Try.prog 75 #[.slice a1 b1 d1] W fun e w' => e = .returned (.int .i64 (l : Nat)) ∧ W = w') := fun W h => by have := RLead_any _ _ _ _ W h; rwa [hLJ] at this
      have HLS : Hid (∀ W, Sl B8 W (some ⟨bx, ox, none⟩) m1 g1 XJ.1 → Sl B8 W q2 m2 g2 XJ.2 → Sl B8 W a1 b1 d1 kk.1 → Sl B8 W a2 b2 d2 kk.2 → Calls Try.prog 74 #[.agg #[.slice (some ⟨bx, ox, none⟩) m1 g1, .slice q2 m2 g2], B8 c, .agg #[.slice a1 b1 d1, .slice a2 b2 d2]] W (RetR2 5 W YJ 0)) := fun W h1 h2 h3 h4 => by
        have := RLess_any (some ⟨bx, ox, none⟩) q2 a1 a2 m1 g1 m2 g2 b1 d1 b2 d2 XJ.1 XJ.2 kk.1 kk.2 c W h1 h2 h3 h4 HR1.out (by rw [lm2]; exact HR2.out) (by rw [lb1]; exact HR1.out) (by rw [lb2]; exact HR2.out)
        rw [lessS_fit (n := m1) (t := t) (x := XJ) (k := kk) fitX fk.1, ← hYJ] at this
        exact this
      have hl1 := blk_lt hL.out; have hl2 := blk_lt hZ.out
      have hNX : Hid (∀ (w9 : World) (q5 : Option Addr) (m5 g5 : Nat) (q6 : Option Addr) (m6 g6 : Nat), Below wr.heap.size wr w9 → Sl B8 w9 q5 m5 g5 YJ.1 → Sl B8 w9 q6 m6 g6 YJ.2 → (∀ a, q5 = some a → wr.heap.size ≤ a.block) → (∀ a, q6 = some a → wr.heap.size ≤ a.block) →
          ((w9.setCell ⟨w.heap.size, 0, none⟩ (.slice q5 m5 g5)).setCell ⟨w.heap.size, 1, none⟩ (.slice q6 m6 g6)).heap[w.heap.size]? = some (.cells #[.slice q5 m5 g5, .slice q6 m6 g6] 68 (0, 0)) ∧
          Sl B8 ((w9.setCell ⟨w.heap.size, 0, none⟩ (.slice q5 m5 g5)).setCell ⟨w.heap.size, 1, none⟩ (.slice q6 m6 g6)) q5 m5 g5 (restF (K.take (j + 1)) x).1 ∧
          Sl B8 ((w9.setCell ⟨w.heap.size, 0, none⟩ (.slice q5 m5 g5)).setCell ⟨w.heap.size, 1, none⟩ (.slice q6 m6 g6)) q6 m6 g6 (restF (K.take (j + 1)) x).2 ∧
          (0 < m5 → ∀ a, q5 = some a → a.block ≠ w.heap.size ∧ a.block ≠ w.heap.size + 1) ∧ (0 < m6 → ∀ a, q6 = some a → a.block ≠ w.heap.size ∧ a.block ≠ w.heap.size + 1) ∧
          Below w.heap.size w ((w9.setCell ⟨w.heap.size, 0, none⟩ (.slice q5 m5 g5)).setCell ⟨w.heap.size, 1, none⟩ (.slice q6 m6 g6)) ∧
          ((w9.setCell ⟨w.heap.size, 0, none⟩ (.slice q5 m5 g5)).setCell ⟨w.heap.size, 1, none⟩ (.slice q6 m6 g6)).heap[w.heap.size + 1]? = some (.cells #[.slice none 0 0, .slice none 0 0] 68 (0, 0))) := by
        intro w9 q5 m5 g5 q6 m6 g6 b9 s5 s6 s7 s8
        have L9 := (b9.block _ hl1).trans hL.out
        have Z9 := (b9.block _ hl2).trans hZ.out
        rw [hnext.out]
        have ne5 : ∀ a, q5 = some a → a.block ≠ w.heap.size := fun a ha => by have := s7 a ha; omega
        have ne6 : ∀ a, q6 = some a → a.block ≠ w.heap.size := fun a ha => by have := s8 a ha; omega
        exact ⟨hss (hss L9), (s5.set ne5).set ne5, (s6.set ne6).set ne6, fun _ a ha => ⟨ne5 a ha, by have := s7 a ha; omega⟩, fun _ a ha => ⟨ne6 a ha, by have := s8 a ha; omega⟩, ((bl hBw.out b9 hBw.out.size).setCell (Nat.le_refl _) _).setCell (Nat.le_refl _) _, hsc (hsc Z9 (by show w.heap.size + 1 ≠ w.heap.size; omega)) (by show w.heap.size + 1 ≠ w.heap.size; omega)⟩
      have HCX := Lib.hid hcx
      have AL : Hid (Below wr.heap.size wr (wr.alloc (.cells #[.slice a1 b1 d1, .slice a2 b2 d2] 68))) := al (Below.refl _ _) (Nat.le_refl _)
      have lw : (l : Int) < (m1 : Int) := by omega
      clear hXJ hYJ fitX fk hkk e1 e2 t1 t2 hl hLJ hcA hxx hcx lm2 lb1 lb2 hl1 hl2
      go_wp2_with fail
      refine Calls.mono (HLD.out _ (T1.out.keep AL.out)) ?_
      rintro e w' ⟨rfl, rfl⟩
      have z0 : (wr.alloc (.cells #[.slice a1 b1 d1, .slice a2 b2 d2] 68)).cell? ⟨wr.heap.size, 0, none⟩ = some (.slice a1 b1 d1) := cell_of_row _ _ 0 _ _ _ (hnew rfl)
      have z1 : (wr.alloc (.cells #[.slice a1 b1 d1, .slice a2 b2 d2] 68)).cell? ⟨wr.heap.size, 1, none⟩ = some (.slice a2 b2 d2) := cell_of_row _ _ 1 _ _ _ (hnew rfl)
      obtain ⟨y0, y1⟩ := cells2 (hal (o := .cells #[.slice a1 b1 d1, .slice a2 b2 d2] 68) hL.out)
      have cl : (wr.alloc (.cells #[.slice a1 b1 d1, .slice a2 b2 d2] 68)).cell? ⟨bx, ox + l, none⟩ = some (B8 c) := (AL.out.cell (p := ⟨bx, ox + l, none⟩) (lt_of_cell HCX.out)).trans HCX.out
      clear E1 E2
      go_wp2
      refine wp_region_late (fun ix => ([.val (.agg #[.slice (some ⟨bx, ox, none⟩) m1 g1, .slice q2 m2 g2]), .val (.pointer (some ⟨w.heap.size, 0, none⟩)), .val (.slice (some ⟨bx, ox, none⟩) m1 g1), .val (.int .i64 (l : Nat)), .val (.pointer (some ⟨bx, ox + l, none⟩)), .val (B8 c), .val (.agg #[.slice a1 b1 d1, .slice a2 b2 d2]), .rowTN (wr.heap.size) (YJ) (0), .rowTN (wr.heap.size) (YJ) (0), .rowN (wr.heap.size) (YJ), .val (.int .i64 0), .any][ix]?).getD (.any)) 30 11 10 17 27 rfl (by kernel_rfl) (by decide) (by decide) (by decide) _ rfl rfl rfl (by decide) (fun a u x w h => run_extract1 _ rfl h) (by decide) ?_ ?_
      · refine ⟨?_, ?_, ?_, ?_, ?_, ?_, ?_, ?_, ?_, ?_, ?_, trivial⟩
        · intro a W hb0 hs hp hi; have hb := undrew hb0; clear hb0
          have tt : sl a 3 = .pointer (some ⟨w.heap.size, 0, none⟩) := hi 3 (by decide)
          have dd0 := (hb.cell (p := ⟨w.heap.size, 0, none⟩) (lt_of_cell y0)).trans y0
          have dd1 := (hb.cell (p := ⟨w.heap.size, 1, none⟩) (lt_of_cell y1)).trans y1
          refine ite_y rfl (wp_val (.agg #[.slice (some ⟨bx, ox, none⟩) m1 g1, .slice q2 m2 g2]) ?_ ?_)
          · simp only [execOp, eval_tmp, tt]; simp [go_sem, dd0, dd1]
          · exact ⟨_, rfl, Below.refl _ _, rfl⟩
        · intro a W hb0 hs hp hi; have hb := undrew hb0; clear hb0
          have t3 : sl a 3 = .pointer (some ⟨w.heap.size, 0, none⟩) := hi 3 (by decide)
          refine ite_y rfl (wp_val (.pointer (some ⟨w.heap.size, 0, none⟩)) ?_ ?_)
          · simp only [execOp, eval_tmp, eval_const, t3]; simp [go_sem]
          · exact ⟨_, rfl, Below.refl _ _, rfl⟩
        · intro a W hb0 hs hp hi; have hb := undrew hb0; clear hb0
          have tt : sl a 19 = .pointer (some ⟨w.heap.size, 0, none⟩) := hp 1 (by decide)
          have dd0 := (hb.cell (p := ⟨w.heap.size, 0, none⟩) (lt_of_cell y0)).trans y0
          refine ite_y rfl (wp_val (.slice (some ⟨bx, ox, none⟩) m1 g1) ?_ ?_)
          · simp only [execOp, eval_tmp, tt]; simp [go_sem, dd0]
          · exact ⟨_, rfl, Below.refl _ _, rfl⟩
        · intro a W hb0 hs hp hi; have hb := undrew hb0; clear hb0
          have t7 : sl a 7 = .int .i64 (l : Nat) := hi 7 (by decide)
          exact ite_y rfl (wp_val (sl a 7) rfl ⟨_, rfl, Below.refl _ _, t7⟩)
        · intro a W hb0 hs hp hi; have hb := undrew hb0; clear hb0
          have ti0 : sl a 20 = .slice (some ⟨bx, ox, none⟩) m1 g1 := hp 2 (by decide)
          have ti1 : sl a 21 = .int .i64 (l : Nat) := hp 3 (by decide)
          refine ite_y rfl (wp_val (.pointer (some ⟨bx, ox + l, none⟩)) ?_ ?_)
          · simp only [execOp, eval_tmp, eval_const, ti0, ti1]; simp [go_sem, lw, hlw]
          · exact ⟨_, rfl, Below.refl _ _, rfl⟩
        · intro a W hb0 hs hp hi; have hb := undrew hb0; clear hb0
          have tt : sl a 22 = .pointer (some ⟨bx, ox + l, none⟩) := hp 4 (by decide)
          have dd0 := (hb.cell (p := ⟨bx, ox + l, none⟩) (lt_of_cell cl)).trans cl
          refine ite_y rfl (wp_val (B8 c) ?_ ?_)
          · simp only [execOp, eval_tmp, tt]; simp [go_sem, dd0]
          · exact ⟨_, rfl, Below.refl _ _, rfl⟩
        · intro a W hb0 hs hp hi; have hb := undrew hb0; clear hb0
          have tt : sl a 6 = .pointer (some ⟨wr.heap.size, 0, none⟩) := hi 6 (by decide)
          have dd0 := (hb.cell (p := ⟨wr.heap.size, 0, none⟩) (lt_of_cell z0)).trans z0
          have dd1 := (hb.cell (p := ⟨wr.heap.size, 1, none⟩) (lt_of_cell z1)).trans z1
          refine ite_y rfl (wp_val (.agg #[.slice a1 b1 d1, .slice a2 b2 d2]) ?_ ?_)
          · simp only [execOp, eval_tmp, tt]; simp [go_sem, dd0, dd1]
          · exact ⟨_, rfl, Below.refl _ _, rfl⟩
        · intro a W hb0 hs hp hi; have hb := undrew hb0; clear hb0
          have t18 : sl a 18 = .agg #[.slice (some ⟨bx, ox, none⟩) m1 g1, .slice q2 m2 g2] := hp 0 (by decide)
          have t23 : sl a 23 = B8 c := hp 5 (by decide)
          have t24 : sl a 24 = .agg #[.slice a1 b1 d1, .slice a2 b2 d2] := hp 6 (by decide)
          refine ite_y rfl (wp_enter 74 #[.agg #[.slice (some ⟨bx, ox, none⟩) m1 g1, .slice q2 m2 g2], B8 c, .agg #[.slice a1 b1 d1, .slice a2 b2 d2]] ?_ (HLS.out _ (hS1.out.keep (AL.out.trans (hb.mono AL.out.size))) (hS2.out.keep (AL.out.trans (hb.mono AL.out.size))) (T1.out.keep (AL.out.trans (hb.mono AL.out.size))) (T2.out.keep (AL.out.trans (hb.mono AL.out.size)))) ?_)
          · simp only [execOp, resolve, List.map_toArray, List.map, eval_tmp, eval_func, eval_const, t18, t23, t24]; simp [go_sem]
          · rintro e W' ⟨q5, m5, g5, q6, m6, g6, e5, e6, rfl, o5, o6, hw⟩; have hbs := hb.size; simp at hbs; exact ⟨_, rfl, _, rfl, hw, _, rfl, q5, m5, g5, q6, m6, g6, rfl, Sl.of_owns o5, Sl.of_owns o6, fun a ha => Nat.le_trans (by omega) (owns_new o5 a ha).1, fun a ha => Nat.le_trans (by omega) (owns_new o6 a ha).1⟩
        · intro a W hb0 hs hp hi; have hb := undrew hb0; clear hb0
          have tt : RowTN (wr.heap.size) (YJ) (0) (sl a 25) W := hp 7 (by decide)
          exact ite_y rfl (wp_val (sl a 25) rfl ⟨_, rfl, Below.refl _ _, tt⟩)
        · intro a W hb0 hs hp hi; have hb := undrew hb0; clear hb0
          have tt : RowTN (wr.heap.size) (YJ) (0) (sl a 17) W := hp 8 (by decide)
          obtain ⟨u, tt, hr⟩ := tt
          exact ite_y rfl (wp_val u (by simp only [execOp, eval_tmp, tt]; rfl) ⟨_, rfl, Below.refl _ _, hr⟩)
        · intro a W hb0 hs hp hi; have hb := undrew hb0; clear hb0
          have tt : RowTN (wr.heap.size) (YJ) (0) (sl a 17) W := hp 8 (by decide)
          obtain ⟨u, tt, hr⟩ := tt
          exact ite_y rfl (wp_val (.int .i64 0) (by simp only [execOp, eval_tmp, tt]; rfl) ⟨_, rfl, Below.refl _ _, rfl⟩)
      · intro a w9 o ho hb hs hd hI ht
        simp at ho; subst ho
        have t3 : sl a 3 = .pointer (some ⟨w.heap.size, 0, none⟩) := ht 3 (by decide)
        have t17 : RowTN (wr.heap.size) (YJ) (0) (sl a 17) w9 := hI 8 (by decide) (by decide)
        have t26 : RowN (wr.heap.size) (YJ) (sl a 26) w9 := hI 9 (by decide) (by decide)
        obtain ⟨uu, t17, -⟩ := t17
        obtain ⟨q5, m5, g5, q6, m6, g6, t26, s5, s6, s7, s8⟩ := t26
        have b9 : Below wr.heap.size wr w9 := AL.out.trans (hb.mono AL.out.size)
        have L9 : w9.heap[w.heap.size]? = some (.cells #[.slice (some ⟨bx, ox, none⟩) m1 g1, .slice q2 m2 g2] 68 (0, 0)) := (b9.block _ (blk_lt hL.out)).trans hL.out
        obtain ⟨d0, d1'⟩ := cells2 L9
        have f0 : w9.frozen? ⟨w.heap.size, 0, none⟩ = false := frozen_of_row _ _ 0 _ _ L9
        have f1 : w9.frozen? ⟨w.heap.size, 1, none⟩ = false := frozen_of_row _ _ 1 _ _ L9
        refine ⟨⟨_, _, t17⟩, wp_skipX (w' := (w9.setCell ⟨w.heap.size, 0, none⟩ (.slice q5 m5 g5)).setCell ⟨w.heap.size, 1, none⟩ (.slice q6 m6 g6)) ?_ ⟨rfl, fun b hbs hbd hbt => ?_⟩⟩
        · simp only [execOp, eval_tmp, t26, t3]; simp [go_sem, d0, d1', f0, f1]
        have ha := act_is [18, 19, 20, 21, 22, 23, 24, 25, 17, 26, 27] hbs hbd (fun t h => (hbt t (fun e => by subst e; revert h; decide)).trans (ht t h)) (by decide)
        simp only [List.foldl] at ha
        generalize sl b 18 = u18 at ha
        generalize sl b 19 = u19 at ha
        generalize sl b 20 = u20 at ha
        generalize sl b 21 = u21 at ha
        generalize sl b 22 = u22 at ha
        generalize sl b 23 = u23 at ha
        generalize sl b 24 = u24 at ha
        generalize sl b 25 = u25 at ha
        generalize sl b 17 = u17 at ha
        generalize sl b 26 = u26 at ha
        generalize sl b 27 = u27 at ha
        simp only [Act.put, List.setIfInBounds_toArray, List.set_cons_zero, List.set_cons_succ] at ha
        rw [ha]; clear ha
        have NX := hNX.out w9 q5 m5 g5 q6 m6 g6 b9 s5 s6 s7 s8
        generalize (w9.setCell ⟨w.heap.size, 0, none⟩ (.slice q5 m5 g5)).setCell ⟨w.heap.size, 1, none⟩ (.slice q6 m6 g6) = wn at NX ⊢
        have NXH := Lib.hid NX
        clear NX s5 s6 s7 s8 hI ht hbt L9 d0 d1' f0 f1 b9 hb
        go_wp2
        go_roundw
        case rel => exact ⟨j + 1, q5, m5, g5, q6, m6, g6, by omega, by go_num, NXH.out.1, NXH.out.2.1, NXH.out.2.2.1, NXH.out.2.2.2.1, NXH.out.2.2.2.2.1, NXH.out.2.2.2.2.2.1, NXH.out.2.2.2.2.2.2⟩
        case measure => simp [intOf]; omega
    · have hjn : j = nk := by omega
      have hge : (nk : Int) ≤ (j : Int) := by omega
      rw [List.take_of_length_le (by rw [HLEN.out, hjn]; exact Nat.le_refl _)] at hS1 hS2
      obtain ⟨y0, y1⟩ := cells2 hL.out
      obtain ⟨f0, f1⟩ := cells2 hZ.out
      have z0 := frozen_of_row _ _ 0 _ _ hZ.out
      have z1 := frozen_of_row _ _ 1 _ _ hZ.out
      have hne1 : Hid (Sl B8 ((wr.setCell ⟨w.heap.size + 1, 0, none⟩ (.slice q1 m1 g1)).setCell ⟨w.heap.size + 1, 1, none⟩ (.slice q2 m2 g2)) q1 m1 g1 (restF K x).1) := (hS1.out.set2 (fun h a ha => (hA1.out h a ha).2)).set2 (fun h a ha => (hA1.out h a ha).2)
      have hne2 : Hid (Sl B8 ((wr.setCell ⟨w.heap.size + 1, 0, none⟩ (.slice q1 m1 g1)).setCell ⟨w.heap.size + 1, 1, none⟩ (.slice q2 m2 g2)) q2 m2 g2 (restF K x).2) := (hS2.out.set2 (fun h a ha => (hA2.out h a ha).2)).set2 (fun h a ha => (hA2.out h a ha).2)
      clear hjn hS1 hS2 hA1 hA2 hL
      go_wp2
      refine bodyPost_ret (results_cell_row rfl _ _ _ 68 #[.slice q1 m1 g1, .slice q2 m2 g2] (0, 0) _ rfl (hss (hss hZ.out)) Try.underlying68 rfl hinfo) rfl ⟨q1, m1, g1, q2, m2, g2, rfl, hne1.out, hne2.out, (hBw.out.setCell (by simp) _).setCell (by simp) _⟩
end Go.Proofs.Ytofhdakggapahaa
namespace Go.By
open Go.RowKit
/-- the values of rows -/
def RwP (w : World) (u : Value × Value) (k : List UInt8 × List UInt8) : Prop := ∃ q1 m1 c1 q2 m2 c2, u = (.slice q1 m1 c1, .slice q2 m2 c2) ∧ Sl B8 w q1 m1 c1 k.1 ∧ Sl B8 w q2 m2 c2 k.2
theorem RwP.keep {w w' : World} {u : Value × Value} {k : List UInt8 × List UInt8} (h : RwP w u k) (hb : Below w.heap.size w w') : RwP w' u k := by
  obtain ⟨q1, m1, c1, q2, m2, c2, e, h1, h2⟩ := h; exact ⟨q1, m1, c1, q2, m2, c2, e, h1.keep hb, h2.keep hb⟩
/-- a slice of rows as the values of its cells -/
structure RwV (w : World) (p : Option Addr) (n c : Nat) (vs : List (Value × Value)) : Prop where
  len : vs.length = n
  le : n ≤ c
  max : c ≤ maxLen
  nil : p = none → n = 0 ∧ c = 0
  cell : ∀ (j : Nat) (u : Value), (fl2 vs)[j]? = some u → ∃ b o, p = some ⟨b, o, none⟩ ∧ w.cell? ⟨b, o + j, none⟩ = some u
  one : ∀ u, u ∈ fl2 vs → u.oneCell' = true
theorem RwS.vals {w : World} {p : Option Addr} {n c : Nat} {K : List (List UInt8 × List UInt8)} (h : RwS w p n c K) : ∃ vs, RwV w p n c vs ∧ ∀ (j : Nat) (u : Value × Value), vs[j]? = some u → ∃ k, K[j]? = some k ∧ RwP w u k := by
  have each : ∀ j, j < n → ∃ (u : Value × Value), ∃ b o, p = some ⟨b, o, none⟩ ∧ w.cell? ⟨b, o + j * 2, none⟩ = some u.1 ∧ w.cell? ⟨b, o + j * 2 + 1, none⟩ = some u.2 ∧ (∃ k, K[j]? = some k ∧ RwP w u k) ∧ u.1.oneCell' = true ∧ u.2.oneCell' = true := by
    intro j hj
    obtain ⟨k, hk⟩ : ∃ k, K[j]? = some k := ⟨_, List.getElem?_eq_getElem (by rw [h.len]; exact hj)⟩
    obtain ⟨b, o, q1, m1, c1, q2, m2, c2, e, h1, h2, h3, h4⟩ := h.row j k hk
    exact ⟨(.slice q1 m1 c1, .slice q2 m2 c2), b, o, e, h1, h2, ⟨k, hk, q1, m1, c1, q2, m2, c2, rfl, h3, h4⟩, rfl, rfl⟩
  obtain ⟨f, hf⟩ : ∃ f : Nat → Value × Value, ∀ j, j < n → ∃ b o, p = some ⟨b, o, none⟩ ∧ w.cell? ⟨b, o + j * 2, none⟩ = some (f j).1 ∧ w.cell? ⟨b, o + j * 2 + 1, none⟩ = some (f j).2 ∧ (∃ k, K[j]? = some k ∧ RwP w (f j) k) ∧ (f j).1.oneCell' = true ∧ (f j).2.oneCell' = true :=
    ⟨fun j => if hj : j < n then Classical.choose (each j hj) else (undef, undef), fun j hj => by simp only [dif_pos hj]; exact Classical.choose_spec (each j hj)⟩
  have hat : ∀ (j : Nat) (u : Value × Value), ((List.range n).map f)[j]? = some u → j < n ∧ u = f j := by
    intro j u hj
    have hj' := (List.getElem?_eq_some_iff.1 hj).1
    simp at hj'
    rw [List.getElem?_map, List.getElem?_range hj'] at hj
    exact ⟨hj', by simpa using hj.symm⟩
  refine ⟨(List.range n).map f, ⟨by simp, h.le, h.max, h.nil, ?_, ?_⟩, ?_⟩
  · intro i u hi
    have hlen := (List.getElem?_eq_some_iff.1 hi).1
    rw [fl2_length] at hlen
    have hj : i / 2 < n := by simp at hlen; omega
    obtain ⟨b, o, e, h1, h2, _⟩ := hf (i / 2) hj
    have hv : ((List.range n).map f)[i / 2]? = some (f (i / 2)) := by rw [List.getElem?_map, List.getElem?_range hj]; rfl
    obtain ⟨g1, g2⟩ := fl2_at hv
    refine ⟨b, o, e, ?_⟩
    rcases Nat.mod_two_eq_zero_or_one i with hm | hm
    · have : i / 2 * 2 = i := by omega
      rw [this] at g1 h1
      rw [g1] at hi; rw [h1, ← hi]
    · have : i / 2 * 2 + 1 = i := by omega
      rw [this] at g2
      rw [g2] at hi
      rw [show o + i = o + i / 2 * 2 + 1 by omega, h2, ← hi]
  · intro u hu
    obtain ⟨i, hi, rfl⟩ := List.getElem_of_mem hu
    rw [fl2_length] at hi
    have hj : i / 2 < n := by simp at hi; omega
    obtain ⟨b, o, e, _, _, _, o1, o2⟩ := hf (i / 2) hj
    have hv : ((List.range n).map f)[i / 2]? = some (f (i / 2)) := by rw [List.getElem?_map, List.getElem?_range hj]; rfl
    obtain ⟨g1, g2⟩ := fl2_at hv
    rcases Nat.mod_two_eq_zero_or_one i with hm | hm
    · have : i / 2 * 2 = i := by omega
      rw [this] at g1
      have : (fl2 ((List.range n).map f))[i] = (f (i / 2)).1 := by
        rw [List.getElem?_eq_getElem (by rw [fl2_length]; exact hi)] at g1; injection g1
      rw [this]; exact o1
    · have : i / 2 * 2 + 1 = i := by omega
      rw [this] at g2
      have : (fl2 ((List.range n).map f))[i] = (f (i / 2)).2 := by
        rw [List.getElem?_eq_getElem (by rw [fl2_length]; exact hi)] at g2; injection g2
      rw [this]; exact o2
  · intro j u hj
    obtain ⟨hjn, rfl⟩ := hat j u hj
    obtain ⟨b, o, _, _, _, hk, _⟩ := hf j hjn
    exact hk
theorem RwV.keep {w w' : World} {p : Option Addr} {n c : Nat} {vs : List (Value × Value)} (h : RwV w p n c vs) (hb : Below w.heap.size w w') : RwV w' p n c vs :=
  ⟨h.len, h.le, h.max, h.nil, fun j u hj => by
    obtain ⟨b, o, e, h1⟩ := h.cell j u hj
    exact ⟨b, o, e, (hb.cell (p := ⟨b, o + j, none⟩) (lt_of_cell h1)).trans h1⟩, h.one⟩
theorem wpList_append_two {P : Program} (w : World) {ops : Array Oper} {rest : List Oper} {o : Oper} {a : Act} {Q : Exit → Act → World → Prop} (hgd : o.guard = none) (s x : Operand) (t : TypeId)
    (ho : o.op = .call { callee := .builtin .append, args := #[s, x], argTypes := #[t, t] })
    (base : Nat) (e : TypeId) (i : TypeInfo) (z : Value) (bytes : Nat) (ht : P.underlying t = some (.slice e)) (hi : P.info? e = some i) (hz : i.zero = some z)
    (hsize : i.size = 2) (hby : i.bytes = bytes) (hzs : z.cells.size = 2)
    (v : Value) (n : Nat) (ys : List Value) (hs : a.eval s = v) (hown : w.ownsRow base e 2 v n ys)
    (p : Option Addr) (m c : Nat) (us : List (Value × Value)) (hx : a.eval x = .slice p m c) (hrs : RwV w p m c us)
    (h63 : n + m ≤ maxLen) (hbytes : (n + m) * bytes ≤ 140737488355328) (hbase : base ≤ w.heap.size)
    (h : ∀ v' w', w'.ownsRow base e 2 v' (n + m) (ys ++ fl2 us) → w.grownBy w' v.ownBlock → wpList P ops Q rest (a.put o.dst v') w') : wpList P ops Q (o :: rest) a w := by
  cases p with
  | none =>
    obtain ⟨rfl, rfl⟩ := hrs.nil rfl
    have : us = [] := List.eq_nil_of_length_eq_zero hrs.len
    subst this
    refine wpList_append_own_none hgd s x t ho base e i 2 ht hi v n ys hs hown hx (h v w (by simpa [fl2] using hown) (World.grownBy.refl _ _))
  | some ad =>
    refine wpList_append_own w hgd s x t ho base e i z 2 bytes ht hi hz hsize hby hzs (by omega) v n ys hs hown ad m c (fl2 us) hx (by rw [fl2_length, hrs.len]) ?_ hrs.one h63 hbytes hbase (fun v' w' h1 h2 _ => h v' w' h1 h2)
    intro j u hj
    obtain ⟨b, o', e', hc⟩ := hrs.cell j u hj
    cases e'
    rw [Addr.add_lit]; exact hc
end Go.By
