/- The contracts of slices.Clone, IndexFunc, ContainsFunc at bytes and rows. -/
import Derived.Test.YtofhdakggapahaaProg
import Derived.Test.YtofhdakggapahaaB2
import Derived.WalkKit
import Derived.WalkLawsBesides
import Derived.WalkSpells
import Derived.Lib.Hide
import Derived.Shelf.Abstract
namespace Go.Proofs.Ytofhdakggapahaa
open Go.RowKit Go.By
theorem info_u8 : (Try.prog.info? 5).map (fun i => (i.zero, i.size, i.bytes)) = some (some (.int .u8 0), 1, 1) := by kernel_rfl
set_option maxHeartbeats 400000 in
theorem CloneB_any (p : Option Addr) (n c : Nat) (xs : List UInt8) (w : World) (h : Sl B8 w p n c xs) (hn : Room n) :
    Calls Try.prog 58 #[.slice p n c] w fun e w' => ∃ q c', e = .returned (.slice q n c') ∧ w'.ownsRow w.heap.size 5 1 (.slice q n c') n (xs.map B8) ∧ Below w.heap.size w w' := by
  obtain ⟨i0, hi, hz0, hz1, hz2⟩ := info_parts info_u8
  cases hp : p with
  | none =>
    subst hp
    obtain ⟨rfl, rfl⟩ := h.nil rfl
    have : xs = [] := List.eq_nil_of_length_eq_zero h.len
    subst this
    have hq := fun w => Lib.run_eql_slice_nil (P := Try.prog) w 25 5 none 0 0 0 0 Try.underlying25
    go_enter Try.func58, Try.ntmps58
    go_wp2
    go_ret
    exact ⟨none, 0, rfl, World.ownsRow_nil _ _ _ _, Below.refl _ _⟩
  | some ad =>
    subst hp
    have hq := fun w => Lib.run_eql_slice_nil (P := Try.prog) w 25 5 (some ad) n c 0 0 Try.underlying25
    have H := Lib.hid h
    clear h
    go_enter Try.func58, Try.ntmps58
    go_wp2_with (at_builtin; refine wpList_append_rs _ rfl _ _ 25 rfl w.heap.size 5 i0 (.int .u8 0) 1 Try.underlying25 hi hz0 hz1 hz2 rfl _ 0 [] rfl (World.ownsRow_lit w #[] 0 (Nat.le_refl _) (by simp [maxLen]) rfl) B8 _ _ _ xs (fun _ _ => rfl) rfl (H.out.keep ((Below.refl _ _).alloc (Nat.le_refl _) _)) ?c1 ?c2 ?c3 ?_)
    case c1 => have := H.out.le; have := H.out.max; omega
    case c2 => unfold Room at hn; omega
    case c3 => simp
    intro v' w' ho hg
    obtain ⟨q, c', rfl⟩ := owns_shape ho
    go_wp2
    go_ret
    exact ⟨q, c', rfl, ho, ((Below.refl _ _).alloc (Nat.le_refl _) _).grown hg (by simp) (by simp [Value.ownBlock])⟩
set_option maxHeartbeats 400000 in
theorem IndexFuncB_any {α : Type} (enc : α → Value) (f : α → Bool) (g : Nat) (lb : Array Value) (eg : Enters Try.prog g) (p : Option Addr) (n c : Nat) (xs : List α) (w : World) (h : Sl enc w p n c xs)
    (hf : ∀ (x : α), x ∈ xs → Calls Try.prog g (#[enc x] ++ lb) w fun e w' => e = .returned (.bool (f x)) ∧ w = w') :
    Calls Try.prog 105 #[.slice p n c, .func (.func g) #[] lb] w fun e w' => e = .returned (.int .i64 (idxf f xs)) ∧ w = w' := by
  have hn := h.bound
  have H := Lib.hid h; clear h
  have HF := Lib.hid hf; clear hf
  have eg' : ∀ args w, (callFunc g args).run Try.prog w = .ok (.enter g args) w := eg
  clear eg
  go_enter Try.func105, Try.ntmps105
  go_wp2
  go_loop [8] (fun i => ∃ k : Nat, k ≤ n ∧ i = .int .i64 k ∧ Hid (∀ j y, j < k → xs[j]? = some y → f y = false)) (fun i => n - (intOf i).toNat)
  case atStart => exact ⟨0, Nat.zero_le _, rfl, fun j y hj => by omega⟩
  case round =>
    obtain ⟨k, hk, rfl, hr⟩ := hrel
    by_cases hlt : k < n
    · obtain ⟨b, o, x, rfl, hc, hx⟩ := H.out.at k hlt
      have hm : x ∈ xs := List.mem_of_getElem? hx.out
      cases hfx : f x with
      | false =>
        have HQ := Lib.hid hfx; clear hfx
        go_wp2_with fail
        refine (HF.out x hm).mono ?_; rintro e w' ⟨rfl, rfl⟩
        rw [HQ.out]
        go_wp2
        go_round
        case rel =>
          refine ⟨k + 1, by omega, by go_num, fun j y hj hy => ?_⟩
          by_cases e : j = k
          · subst e; have := hx.out.symm.trans hy; cases this; exact HQ.out
          · exact hr.out j y (by omega) hy
        case measure => simp [intOf]; omega
      | true =>
        have HQ := Lib.hid hfx; clear hfx
        go_wp2_with fail
        refine (HF.out x hm).mono ?_; rintro e w' ⟨rfl, rfl⟩
        rw [HQ.out]
        go_wp2
        go_ret
        exact ⟨by rw [idxf_found hx.out HQ.out hr.out]; rfl, rfl⟩
    · go_wp2
      go_ret
      exact ⟨by rw [idxf_none (k := k) (by have := H.out.len; omega) hr.out]; rfl, rfl⟩
set_option maxHeartbeats 400000 in
theorem ContainsFuncB_any {α : Type} (enc : α → Value) (f : α → Bool) (g : Nat) (lb : Array Value) (eg : Enters Try.prog g) (p : Option Addr) (n c : Nat) (xs : List α) (w : World) (h : Sl enc w p n c xs)
    (hf : ∀ (x : α), x ∈ xs → Calls Try.prog g (#[enc x] ++ lb) w fun e w' => e = .returned (.bool (f x)) ∧ w = w') :
    Calls Try.prog 99 #[.slice p n c, .func (.func g) #[] lb] w fun e w' => e = .returned (.bool (xs.any f)) ∧ w = w' := by
  have H := Lib.hid h; clear h
  have HF := Lib.hid hf; clear hf
  have HE := Lib.hid eg; clear eg
  go_enter Try.func99, Try.ntmps99
  go_wp2_with fail
  refine (IndexFuncB_any enc f g lb HE.out p n c xs w H.out HF.out).mono ?_; rintro e w' ⟨rfl, rfl⟩
  go_wp2
  go_ret
  exact ⟨by rw [← idxf_ge]; rfl, rfl⟩
set_option maxHeartbeats 400000 in
theorem IndexFuncBB_any {α : Type} (enc : α → Value) (f : α → Bool) (g : Nat) (lb : Array Value) (eg : Enters Try.prog g) (p : Option Addr) (n c : Nat) (xs : List α) (w : World) (h : Sl enc w p n c xs)
    (hf : ∀ (x : α), x ∈ xs → Calls Try.prog g (#[enc x] ++ lb) w fun e w' => e = .returned (.bool (f x)) ∧ w = w') :
    Calls Try.prog 83 #[.slice p n c, .func (.func g) #[] lb] w fun e w' => e = .returned (.int .i64 (idxf f xs)) ∧ w = w' := by
  have hn := h.bound
  have H := Lib.hid h; clear h
  have HF := Lib.hid hf; clear hf
  have eg' : ∀ args w, (callFunc g args).run Try.prog w = .ok (.enter g args) w := eg
  clear eg
  go_enter Try.func83, Try.ntmps83
  go_wp2
  go_loop [8] (fun i => ∃ k : Nat, k ≤ n ∧ i = .int .i64 k ∧ Hid (∀ j y, j < k → xs[j]? = some y → f y = false)) (fun i => n - (intOf i).toNat)
  case atStart => exact ⟨0, Nat.zero_le _, rfl, fun j y hj => by omega⟩
  case round =>
    obtain ⟨k, hk, rfl, hr⟩ := hrel
    by_cases hlt : k < n
    · obtain ⟨b, o, x, rfl, hc, hx⟩ := H.out.at k hlt
      have hm : x ∈ xs := List.mem_of_getElem? hx.out
      cases hfx : f x with
      | false =>
        have HQ := Lib.hid hfx; clear hfx
        go_wp2_with fail
        refine (HF.out x hm).mono ?_; rintro e w' ⟨rfl, rfl⟩
        rw [HQ.out]
        go_wp2
        go_round
        case rel =>
          refine ⟨k + 1, by omega, by go_num, fun j y hj hy => ?_⟩
          by_cases e : j = k
          · subst e; have := hx.out.symm.trans hy; cases this; exact HQ.out
          · exact hr.out j y (by omega) hy
        case measure => simp [intOf]; omega
      | true =>
        have HQ := Lib.hid hfx; clear hfx
        go_wp2_with fail
        refine (HF.out x hm).mono ?_; rintro e w' ⟨rfl, rfl⟩
        rw [HQ.out]
        go_wp2
        go_ret
        exact ⟨by rw [idxf_found hx.out HQ.out hr.out]; rfl, rfl⟩
    · go_wp2
      go_ret
      exact ⟨by rw [idxf_none (k := k) (by have := H.out.len; omega) hr.out]; rfl, rfl⟩
set_option maxHeartbeats 400000 in
theorem ContainsFuncBB_any {α : Type} (enc : α → Value) (f : α → Bool) (g : Nat) (lb : Array Value) (eg : Enters Try.prog g) (p : Option Addr) (n c : Nat) (xs : List α) (w : World) (h : Sl enc w p n c xs)
    (hf : ∀ (x : α), x ∈ xs → Calls Try.prog g (#[enc x] ++ lb) w fun e w' => e = .returned (.bool (f x)) ∧ w = w') :
    Calls Try.prog 54 #[.slice p n c, .func (.func g) #[] lb] w fun e w' => e = .returned (.bool (xs.any f)) ∧ w = w' := by
  have H := Lib.hid h; clear h
  have HF := Lib.hid hf; clear hf
  have HE := Lib.hid eg; clear eg
  go_enter Try.func54, Try.ntmps54
  go_wp2_with fail
  refine (IndexFuncBB_any enc f g lb HE.out p n c xs w H.out HF.out).mono ?_; rintro e w' ⟨rfl, rfl⟩
  go_wp2
  go_ret
  exact ⟨by rw [← idxf_ge]; rfl, rfl⟩
end Go.Proofs.Ytofhdakggapahaa
