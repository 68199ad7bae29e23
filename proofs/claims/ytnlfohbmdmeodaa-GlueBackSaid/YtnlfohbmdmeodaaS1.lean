/- Contracts alike to those of other seats: IndexFunc and ContainsFunc of bytes and rows, Same and Zero of the reference, Zero of the kernel and of vectors. -/
import Derived.Test.YtnlfohbmdmeodaaProg
import Derived.Test.YtnlfohbmdmeodaaB4
import Derived.BigQuiet
import Derived.Deep.QuietTactic
import Derived.WalkKit
import Derived.WalkLawsBesides
import Derived.WalkSpells
import Derived.Lib.Hide
import Derived.Shelf.Abstract
namespace Go.Proofs.Ytnlfohbmdmeodaa
open Go.RowKit Go.By
theorem info_u8 : (Try.prog.info? 5).map (fun i => (i.zero, i.size, i.bytes)) = some (some (.int .u8 0), 1, 1) := by kernel_rfl
set_option maxHeartbeats 400000 in
theorem IndexFuncB_any {α : Type} (enc : α → Value) (f : α → Bool) (g : Nat) (lb : Array Value) (eg : Enters Try.prog g) (p : Option Addr) (n c : Nat) (xs : List α) (w : World) (h : Sl enc w p n c xs)
    (hf : ∀ (x : α), x ∈ xs → Calls Try.prog g (#[enc x] ++ lb) w fun e w' => e = .returned (.bool (f x)) ∧ w = w') :
    Calls Try.prog 42 #[.slice p n c, .func (.func g) #[] lb] w fun e w' => e = .returned (.int .i64 (idxf f xs)) ∧ w = w' := by
  have hn := h.bound
  have H := Lib.hid h; clear h
  have HF := Lib.hid hf; clear hf
  have eg' : ∀ args w, (callFunc g args).run Try.prog w = .ok (.enter g args) w := eg
  clear eg
  go_enter Try.func42, Try.ntmps42
  go_wp2
  go_loop [8] (fun i => ∃ k : Nat, k ≤ n ∧ i = .int .i64 k ∧ Hid (∀ j y, j < k → xs[j]? = some y → f y = false)) (fun i => n - (intOf i).toNat)
  case atStart => exact ⟨0, Nat.zero_le _, rfl, fun j y hj => by omega⟩
  case round =>
    obtain ⟨k, hk, rfl, hr⟩ := hrel
    by_cases hlt : k < n
    · obtain ⟨b, o, x, rfl, hc, hx⟩ := H.out.at k hlt
      have hm : x ∈ xs := List.mem_of_getElem? hx.out
      cases hfx : f x with
      | false =>
        have HQ := Lib.hid hfx; clear hfx
        go_wp2_with fail
        refine (HF.out x hm).mono ?_; rintro e w' ⟨rfl, rfl⟩
        rw [HQ.out]
        go_wp2
        go_round
        case rel =>
          refine ⟨k + 1, by omega, by go_num, fun j y hj hy => ?_⟩
          by_cases e : j = k
          · subst e; have := hx.out.symm.trans hy; cases this; exact HQ.out
          · exact hr.out j y (by omega) hy
        case measure => simp [intOf]; omega
      | true =>
        have HQ := Lib.hid hfx; clear hfx
        go_wp2_with fail
        refine (HF.out x hm).mono ?_; rintro e w' ⟨rfl, rfl⟩
        rw [HQ.out]
        go_wp2
        go_ret
        exact ⟨by rw [idxf_found hx.out HQ.out hr.out]; rfl, rfl⟩
    · go_wp2
      go_ret
      exact ⟨by rw [idxf_none (k := k) (by have := H.out.len; omega) hr.out]; rfl, rfl⟩
set_option maxHeartbeats 400000 in
theorem ContainsFuncB_any {α : Type} (enc : α → Value) (f : α → Bool) (g : Nat) (lb : Array Value) (eg : Enters Try.prog g) (p : Option Addr) (n c : Nat) (xs : List α) (w : World) (h : Sl enc w p n c xs)
    (hf : ∀ (x : α), x ∈ xs → Calls Try.prog g (#[enc x] ++ lb) w fun e w' => e = .returned (.bool (f x)) ∧ w = w') :
    Calls Try.prog 38 #[.slice p n c, .func (.func g) #[] lb] w fun e w' => e = .returned (.bool (xs.any f)) ∧ w = w' := by
  have H := Lib.hid h; clear h
  have HF := Lib.hid hf; clear hf
  have HE := Lib.hid eg; clear eg
  go_enter Try.func38, Try.ntmps38
  go_wp2_with fail
  refine (IndexFuncB_any enc f g lb HE.out p n c xs w H.out HF.out).mono ?_; rintro e w' ⟨rfl, rfl⟩
  go_wp2
  go_ret
  exact ⟨by rw [← idxf_ge]; rfl, rfl⟩
set_option maxHeartbeats 400000 in
theorem IndexFuncBB_any {α : Type} (enc : α → Value) (f : α → Bool) (g : Nat) (lb : Array Value) (eg : Enters Try.prog g) (p : Option Addr) (n c : Nat) (xs : List α) (w : World) (h : Sl enc w p n c xs)
    (hf : ∀ (x : α), x ∈ xs → Calls Try.prog g (#[enc x] ++ lb) w fun e w' => e = .returned (.bool (f x)) ∧ w = w') :
    Calls Try.prog 35 #[.slice p n c, .func (.func g) #[] lb] w fun e w' => e = .returned (.int .i64 (idxf f xs)) ∧ w = w' := by
  have hn := h.bound
  have H := Lib.hid h; clear h
  have HF := Lib.hid hf; clear hf
  have eg' : ∀ args w, (callFunc g args).run Try.prog w = .ok (.enter g args) w := eg
  clear eg
  go_enter Try.func35, Try.ntmps35
  go_wp2
  go_loop [8] (fun i => ∃ k : Nat, k ≤ n ∧ i = .int .i64 k ∧ Hid (∀ j y, j < k → xs[j]? = some y → f y = false)) (fun i => n - (intOf i).toNat)
  case atStart => exact ⟨0, Nat.zero_le _, rfl, fun j y hj => by omega⟩
  case round =>
    obtain ⟨k, hk, rfl, hr⟩ := hrel
    by_cases hlt : k < n
    · obtain ⟨b, o, x, rfl, hc, hx⟩ := H.out.at k hlt
      have hm : x ∈ xs := List.mem_of_getElem? hx.out
      cases hfx : f x with
      | false =>
        have HQ := Lib.hid hfx; clear hfx
        go_wp2_with fail
        refine (HF.out x hm).mono ?_; rintro e w' ⟨rfl, rfl⟩
        rw [HQ.out]
        go_wp2
        go_round
        case rel =>
          refine ⟨k + 1, by omega, by go_num, fun j y hj hy => ?_⟩
          by_cases e : j = k
          · subst e; have := hx.out.symm.trans hy; cases this; exact HQ.out
          · exact hr.out j y (by omega) hy
        case measure => simp [intOf]; omega
      | true =>
        have HQ := Lib.hid hfx; clear hfx
        go_wp2_with fail
        refine (HF.out x hm).mono ?_; rintro e w' ⟨rfl, rfl⟩
        rw [HQ.out]
        go_wp2
        go_ret
        exact ⟨by rw [idxf_found hx.out HQ.out hr.out]; rfl, rfl⟩
    · go_wp2
      go_ret
      exact ⟨by rw [idxf_none (k := k) (by have := H.out.len; omega) hr.out]; rfl, rfl⟩
set_option maxHeartbeats 400000 in
theorem ContainsFuncBB_any {α : Type} (enc : α → Value) (f : α → Bool) (g : Nat) (lb : Array Value) (eg : Enters Try.prog g) (p : Option Addr) (n c : Nat) (xs : List α) (w : World) (h : Sl enc w p n c xs)
    (hf : ∀ (x : α), x ∈ xs → Calls Try.prog g (#[enc x] ++ lb) w fun e w' => e = .returned (.bool (f x)) ∧ w = w') :
    Calls Try.prog 28 #[.slice p n c, .func (.func g) #[] lb] w fun e w' => e = .returned (.bool (xs.any f)) ∧ w = w' := by
  have H := Lib.hid h; clear h
  have HF := Lib.hid hf; clear hf
  have HE := Lib.hid eg; clear eg
  go_enter Try.func28, Try.ntmps28
  go_wp2_with fail
  refine (IndexFuncBB_any enc f g lb HE.out p n c xs w H.out HF.out).mono ?_; rintro e w' ⟨rfl, rfl⟩
  go_wp2
  go_ret
  exact ⟨by rw [← idxf_ge]; rfl, rfl⟩
def lenNe (n : Nat) : Value → Bool
  | .slice _ m _ => (m : Int) != n
  | _ => false
theorem any_vals {w : World} {n : Nat} {vs : List Value} {xss : List (List UInt8)} (hl : vs.length = xss.length)
    (hv : ∀ (i : Nat) (v : Value), vs[i]? = some v → ∃ xs q c', xss[i]? = some xs ∧ v = Value.slice q xs.length c' ∧ Sl B8 w q xs.length c' xs) :
    vs.any (lenNe n) = !(xss.all (fun y => decide (y.length = n))) := by
  rw [List.all_eq_not_any_not, Bool.not_not, Bool.eq_iff_iff]
  simp only [List.any_eq_true]
  constructor
  · rintro ⟨v, hm, h⟩
    obtain ⟨i, hi, e⟩ := List.getElem_of_mem hm
    obtain ⟨xs, q, c', hx, rfl, _⟩ := hv i v (by rw [List.getElem?_eq_getElem hi, e])
    refine ⟨xs, List.mem_of_getElem? hx, ?_⟩
    simp [lenNe] at h ⊢; omega
  · rintro ⟨xs, hm, h⟩
    obtain ⟨i, hi, e⟩ := List.getElem_of_mem hm
    have hi' : i < vs.length := by omega
    obtain ⟨ys, q, c', hx, hv', _⟩ := hv i _ (List.getElem?_eq_getElem hi')
    refine ⟨_, List.getElem_mem hi', ?_⟩
    rw [hv']
    rw [List.getElem?_eq_getElem hi, e] at hx
    cases hx
    simp [lenNe] at h ⊢; omega
theorem enters_zero : Enters Try.prog 37 := enters_of Try.func37 (by kernel_rfl) rfl
set_option maxHeartbeats 400000 in
theorem Zero1_any (x : UInt8) (w : World) : Calls Try.prog 37 #[B8 x] w fun e w' => e = .returned (.bool (decide (x ≠ 0))) ∧ w = w' := by
  have hz := nat_ne_zero x
  generalize decide (x ≠ 0) = d at *
  go_enter Try.func37, Try.ntmps37
  go_wp2
  go_ret
  exact ⟨rfl, rfl⟩
def zeroS (xs : List UInt8) : Bool := xs.all (fun x => decide (x = 0))
set_option maxHeartbeats 400000 in
theorem Zero_any (p : Option Addr) (n c : Nat) (xs : List UInt8) (w : World) (h : Sl B8 w p n c xs) :
    Calls Try.prog 31 #[.slice p n c] w fun e w' => e = .returned (.bool (zeroS xs)) ∧ w = w' := by
  have HR := Lib.hid (show (!(xs.any fun x => decide (x ≠ 0))) = zeroS xs by simp [zeroS, List.any_eq_not_all_not])
  have H := Lib.hid h; clear h
  go_enter Try.func31, Try.ntmps31
  go_wp2_with fail
  refine (ContainsFuncB_any B8 (fun x => decide (x ≠ 0)) 37 #[] enters_zero p n c xs w H.out (fun x _ => Zero1_any x w)).mono ?_; rintro e w' ⟨rfl, rfl⟩
  generalize (xs.any fun x => decide (x ≠ 0)) = d at HR
  go_wp2
  go_ret
  exact ⟨by rw [← HR.out]; rfl, rfl⟩
set_option maxHeartbeats 400000 in
theorem VZero_any (p : Option Addr) (n c : Nat) (v : List UInt8) (w : World) (h : Sl B8 w p n c v) :
    Calls Try.prog 20 #[.slice p n c] w fun e w' => e = .returned (.bool (zeroS v)) ∧ w = w' := by
  have H := Lib.hid h; clear h
  go_enter Try.func20, Try.ntmps20
  go_wp2_with fail
  refine (Zero_any p n c v w H.out).mono ?_; rintro e w' ⟨rfl, rfl⟩
  go_wp2
  go_ret
  exact ⟨rfl, rfl⟩
theorem eq_of_pref {xs ys : List UInt8} {k : Nat} (h1 : xs.length = k) (h2 : ys.length = k) (h : ∀ j : Nat, j < k → xs[j]? = ys[j]?) : xs = ys := by
  apply List.ext_getElem?
  intro j
  by_cases hj : j < k
  · exact h j hj
  · rw [List.getElem?_eq_none (by omega), List.getElem?_eq_none (by omega)]
theorem u8_ne {x y : UInt8} (h : x ≠ y) : (((x.toNat : Int) != (y.toNat : Int)) = true) := by
  rw [bne_iff_ne]; intro e; exact h (UInt8.toNat_inj.1 (by omega))
theorem u8_eq (x : UInt8) : (((x.toNat : Int) != (x.toNat : Int)) = false) := by simp
set_option maxHeartbeats 400000 in
theorem Same_d (p1 p2 : Option Addr) (n1 n2 c1 c2 : Nat) (xs ys : List UInt8) (w : World) (h1 : Sl B8 w p1 n1 c1 xs) (h2 : Sl B8 w p2 n2 c2 ys) :
    Calls Try.prog 10 #[.slice p1 n1 c1, .slice p2 n2 c2] w fun e w' => e = .returned (.bool (decide (xs = ys))) ∧ ∃ q, w' = w.drewN q := by
  have b1 := h1.bound; have b2 := h2.bound
  by_cases he : n1 = n2
  · obtain rfl := he
    have H1 := Lib.hid h1; have H2 := Lib.hid h2; clear h1 h2
    go_enter Try.func10, Try.ntmps10
    go_wp2
    go_loopw [5] (fun i wr => ∃ k q : Nat, k ≤ n1 ∧ i = .int .i64 k ∧ wr = w.drewN q ∧ Hid (∀ j : Nat, j < k → xs[j]? = ys[j]?)) (fun i _ => n1 - (intOf i).toNat)
    case atStart => exact ⟨0, 0, Nat.zero_le _, rfl, rfl, fun j hj => by omega⟩
    case round =>
      obtain ⟨k, q, hk, rfl, rfl, hj⟩ := hrel
      by_cases hlt : k < n1
      · obtain ⟨b, o, x, rfl, hc, hx⟩ := H1.out.at k hlt
        obtain ⟨b', o', y, rfl, hc', hy⟩ := H2.out.at k hlt
        have i1 : (k : Int) < (n1 : Int) := by omega
        by_cases hxy : x = y
        · subst hxy
          have ht := u8_eq x
          go_wp2
          go_quiet (fail)
          go_wp2
          go_roundw
          case rel => exact ⟨k + 1, _, by omega, by go_num, rfl, fun j hj' => by
            by_cases e : j = k
            · subst e; exact hx.out.trans hy.out.symm
            · exact hj.out j (by omega)⟩
          case measure => simp [intOf]; omega
        · have ht := u8_ne hxy
          have HN := Lib.hid hxy; clear hxy
          go_wp2
          go_quiet (fail)
          go_wp2
          go_ret
          refine ⟨?_, _, by rw [World.drewN_drewN]⟩
          have : ¬ xs = ys := by rintro rfl; exact HN.out (Option.some.inj (hx.out.symm.trans hy.out))
          simp [this]
      · go_wp2
        go_ret
        refine ⟨?_, q, rfl⟩
        have : xs = ys := eq_of_pref (k := k) (by have := H1.out.len; omega) (by have := H2.out.len; omega) hj.out
        simp [this]
  · have hne : ((n1 : Int) != (n2 : Int)) = true := by simp; omega
    have HN : Hid (decide (xs = ys) = false) := by
      simp only [Hid, decide_eq_false_iff_not]; rintro rfl; exact he (h1.len.symm.trans h2.len)
    clear h1 h2
    go_enter Try.func10, Try.ntmps10
    go_wp2
    go_ret
    exact ⟨by rw [HN.out]; rfl, 0, rfl⟩
theorem below_drewN (w : World) (q : Nat) : Below w.heap.size w (w.drewN q) := ⟨rfl, rfl, rfl, Nat.le_refl _, fun _ _ => rfl⟩
theorem Same_any (p1 p2 : Option Addr) (n1 n2 c1 c2 : Nat) (xs ys : List UInt8) (w : World) (h1 : Sl B8 w p1 n1 c1 xs) (h2 : Sl B8 w p2 n2 c2 ys) :
    Calls Try.prog 10 #[.slice p1 n1 c1, .slice p2 n2 c2] w fun e w' => e = .returned (.bool (decide (xs = ys))) ∧ Below w.heap.size w w' :=
  (Same_d p1 p2 n1 n2 c1 c2 xs ys w h1 h2).mono fun e w' ⟨he, q, hq⟩ => ⟨he, by rw [hq]; exact below_drewN _ _⟩
set_option maxHeartbeats 400000 in
theorem RZero_any (p : Option Addr) (n c : Nat) (xs : List UInt8) (w : World) (h : Sl B8 w p n c xs) :
    Calls Try.prog 11 #[.slice p n c] w fun e w' => e = .returned (.bool (zeroS xs)) ∧ w = w' := by
  have b1 := h.bound
  have H1 := Lib.hid h; clear h
  go_enter Try.func11, Try.ntmps11
  go_wp2
  go_loop [3] (fun i => ∃ k : Nat, k ≤ n ∧ i = .int .i64 k ∧ Hid (∀ j x, j < k → xs[j]? = some x → x = 0)) (fun i => n - (intOf i).toNat)
  case atStart => exact ⟨0, Nat.zero_le _, rfl, fun j x hj => by omega⟩
  case round =>
    obtain ⟨k, hk, rfl, hj⟩ := hrel
    by_cases hlt : k < n
    · obtain ⟨b, o, x, rfl, hc, hx⟩ := H1.out.at k hlt
      have ht := nat_ne_zero x
      by_cases h0 : x = 0
      · rw [decide_eq_false (by simpa using h0)] at ht
        have H0 := Lib.hid h0; clear h0
        go_wp2
        go_round
        case rel => exact ⟨k + 1, by omega, by go_num, fun j y hj' hy => by
          by_cases e : j = k
          · subst e; have := hx.out.symm.trans hy; cases this; exact H0.out
          · exact hj.out j y (by omega) hy⟩
        case measure => simp [intOf]; omega
      · rw [decide_eq_true (by simpa using h0)] at ht
        have H0 := Lib.hid h0; clear h0
        go_wp2
        go_ret
        refine ⟨?_, rfl⟩
        have : zeroS xs = false := by
          unfold zeroS
          rw [List.all_eq_false]
          exact ⟨x, List.mem_of_getElem? hx.out, by simpa using H0.out⟩
        rw [this]; rfl
    · go_wp2
      go_ret
      refine ⟨?_, rfl⟩
      have : zeroS xs = true := by
        unfold zeroS
        rw [List.all_eq_true]
        intro x hx
        obtain ⟨j, hj', e⟩ := List.getElem_of_mem hx
        exact decide_eq_true (hj.out j x (by have := H1.out.len; omega) (by rw [List.getElem?_eq_getElem hj', e]))
      rw [this]; rfl
theorem dr {α : Type} {enc : α → Value} {w : World} {p : Option Addr} {n c : Nat} {xs : List α} (h : Sl enc w p n c xs) (k : Nat) : Sl enc (w.drewN k) p n c xs := h.keep (below_drewN w k)
theorem bdn {B : Nat} {a w : World} (h : Below B a w) {n : Nat} : Below B a (w.drewN n) := ⟨h.os, h.tape, h.output, h.size, h.block⟩
end Go.Proofs.Ytnlfohbmdmeodaa
