/- The contracts of the kernel's functions: Sum, Comb. -/
import Derived.Test.YtofhdakggapahaaW7
namespace Go.Proofs.Ytofhdakggapahaa
open Go.RowKit Go.By
def combF (z : List UInt8) (cs : List UInt8) (xss : List (List UInt8)) : List UInt8 := (List.zip cs xss).foldl (fun s r => axpy r.1 r.2 s) z
def combS (cs : List UInt8) (xss : List (List UInt8)) : List UInt8 × Int :=
  if cs.length = xss.length then (if (noughtS xss).2 = 0 then (combF (noughtS xss).1 cs xss, 0) else ([], 4)) else ([], 4)
def sumS (xss : List (List UInt8)) : List UInt8 × Int :=
  if (noughtS xss).2 = 0 then (combF (noughtS xss).1 (List.replicate xss.length 1) xss, 0) else ([], 4)
theorem combF_len (cs : List UInt8) (xss : List (List UInt8)) (m : Nat) (h : ∀ xs, xs ∈ xss → xs.length = m) : ∀ z : List UInt8, z.length = m → (combF z cs xss).length = m := by
  induction xss generalizing cs with
  | nil => intro z hz; simpa [combF] using hz
  | cons x l ih =>
    intro z hz
    cases cs with
    | nil => simpa [combF] using hz
    | cons c cs =>
      have := ih cs (fun xs hx => h xs (List.mem_cons_of_mem _ hx)) (axpy c x z) (by rw [axpy_length _ _ _ ((h x List.mem_cons_self).trans hz.symm)]; exact hz)
      simpa [combF] using this
theorem combF_step {z : List UInt8} {cs : List UInt8} {xss : List (List UInt8)} {k : Nat} {c : UInt8} {x : List UInt8} (hc : cs[k]? = some c) (hx : xss[k]? = some x) :
    combF z (cs.take (k + 1)) (xss.take (k + 1)) = axpy c x (combF z (cs.take k) (xss.take k)) := by
  have e : ∀ j, List.zip (cs.take j) (xss.take j) = (List.zip cs xss).take j := fun j => by simp [List.zip, List.take_zipWith]
  have hz : (List.zip cs xss)[k]? = some (c, x) := by simp [List.zip, List.getElem?_zipWith, hc, hx]
  obtain ⟨hk, hz⟩ := List.getElem?_eq_some_iff.1 hz
  simp only [combF, e]
  rw [foldl_take_succ _ _ _ _ hk, hz]
set_option maxRecDepth 100000 in
set_option maxHeartbeats 400000 in
theorem Comb_any (p1 p2 : Option Addr) (n1 n2 c1 c2 : Nat) (cs : List UInt8) (xss : List (List UInt8)) (w : World) (h1 : Sl B8 w p1 n1 c1 cs) (h2 : Sl2 w p2 n2 c2 xss) (hr : ∀ xs, xs ∈ xss → Room xs.length) :
    Calls Try.prog 50 #[.slice p1 n1 c1, .slice p2 n2 c2] w (RetB 5 w (combS cs xss).1 (combS cs xss).2) := by
  have b1 := h1.bound; have b2 := h2.bound
  by_cases he : n1 = n2
  · obtain rfl := he
    have HC := Lib.hid (noughtS_code xss)
    have HR : Hid (combS cs xss = if (noughtS xss).2 = 0 then (combF (noughtS xss).1 cs xss, 0) else ([], 4)) := by unfold combS; rw [if_pos (h1.len.trans h2.len.symm)]; rfl
    have H1 := Lib.hid h1; have H2 := Lib.hid h2; have HM := Lib.hid hr; clear h1 h2 hr
    go_enter Try.func50, Try.ntmps50
    go_wp2_with fail
    refine (nought_any _ _ _ xss _ H2.out HM.out).mono ?_; rintro e w1 ⟨q, m, c', hm, rfl, ho, hb⟩
    have HO := Lib.hid ho; clear ho
    rcases HC.out with h0 | ⟨h0, _⟩
    · have HL := Lib.hid (noughtS_len h0)
      rw [h0]
      rw [if_pos h0] at HR
      have HZ := Lib.hid h0
      clear h0
      go_wp2_with fail
      go_loopw [25] (fun i wr => ∃ k : Nat, k ≤ n1 ∧ i = .int .i64 k ∧ wr.ownsRow w.heap.size 5 1 (.slice q m c') m ((combF (noughtS xss).1 (cs.take k) (xss.take k)).map B8) ∧ Below w.heap.size w wr) (fun i _ => n1 - (intOf i).toNat)
      case atStart => exact ⟨0, Nat.zero_le _, rfl, by simpa [combF] using HO.out, hb⟩
      case round =>
        obtain ⟨k, hk, rfl, ho, hw⟩ := hrel
        have HOk := Lib.hid ho; clear ho
        by_cases hlt : k < n1
        · obtain ⟨b, o, x, rfl, hc, hx⟩ := (H1.out.keep hw).at k hlt
          obtain ⟨b', o', q', m', c'', row, rfl, hc0, hs', hy⟩ := H2.out.at k hlt
          have hc' := (hw.cell (p := ⟨b', o' + k, none⟩) (lt_of_cell hc0)).trans hc0
          clear hc0
          have hml : m' = m := by rw [← hs'.len, HL.out row (List.mem_of_getElem? hy.out)]; exact hm.out
          subst hml
          have HS' := Lib.hid hs'; clear hs'
          have hold : 0 < m' → ∀ a, q' = some a → a.block < w.heap.size := fun h0 a ha => by
            obtain ⟨b3, o3, hp3, hlt3⟩ := HS'.out.rs.lt (by rw [HS'.out.len]; exact h0)
            rw [hp3] at ha; cases ha; exact hlt3
          go_wp2_with fail
          refine (put_any w.heap.size m' q q' c' c'' x row (combF (noughtS xss).1 (cs.take k) (xss.take k)) wr HS'.out.len (combF_len _ _ m' (fun xs hx => (HL.out xs (List.mem_of_mem_take hx)).trans hm.out) _ hm.out) HS'.out.bound HOk.out (HS'.out.keep hw).rs (fun h0 a ha a' ha' => by
            have := hold h0 a ha
            have := (owns_new HOk.out a' ha').1
            omega)).mono ?_
          rintro e w2 ⟨rfl, ho2, hg⟩
          have HO2 := Lib.hid ho2; clear ho2
          go_wp2
          go_roundw
          case rel =>
            refine ⟨k + 1, by omega, by go_num, ?_, hw.grown hg hw.size (fun j hj => ?_)⟩
            · rw [combF_step hx.out hy.out]; exact HO2.out
            · cases q with
              | none => simp at hj
              | some a => simp at hj; have := (owns_new HOk.out a rfl).1; omega
          case measure => simp [intOf]; omega
        · go_wp2
          go_ret2
          rw [HR.out]
          have e1 : cs.take k = cs := List.take_of_length_le (by have := H1.out.len; omega)
          have e2 : xss.take k = xss := List.take_of_length_le (by have := H2.out.len; omega)
          have := HOk.out
          rw [e1, e2] at this
          exact ⟨q, m, c', combF_len _ _ m (fun xs hx => (HL.out xs hx).trans hm.out) _ hm.out, rfl, this, hw⟩
    · rw [if_neg (by rw [h0]; decide)] at HR
      rw [h0]
      clear h0
      go_wp2
      go_ret2
      rw [HR.out]
      exact RetB.nil _ _ _ _ hb
  · have HR := Lib.hid (show combS cs xss = ([], 4) by simp [combS, h1.len, h2.len, he])
    have hne : ((n1 : Int) != (n2 : Int)) = true := by simp; omega
    clear h1 h2 hr
    go_enter Try.func50, Try.ntmps50
    go_wp2
    go_ret2
    rw [HR.out]
    exact RetB.nil _ _ _ _ (Below.refl _ _)
theorem rep_at {n k : Nat} (h : k < n) : (List.replicate n (1 : UInt8))[k]? = some 1 := by simp [h]
end Go.Proofs.Ytofhdakggapahaa
