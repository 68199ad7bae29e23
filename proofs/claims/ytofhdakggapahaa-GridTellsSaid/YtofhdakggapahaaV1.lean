/- The contracts of the vectors' functions: Lead, At, Zero, Unit, Of, Clone. -/
import Derived.Test.YtofhdakggapahaaW8
import Derived.Test.YtofhdakggapahaaB4
namespace Go.Proofs.Ytofhdakggapahaa
open Go.RowKit Go.By
set_option maxHeartbeats 400000 in
theorem IndexFuncV_any {α : Type} (enc : α → Value) (f : α → Bool) (g : Nat) (lb : Array Value) (eg : Enters Try.prog g) (p : Option Addr) (n c : Nat) (xs : List α) (w : World) (h : Sl enc w p n c xs)
    (hf : ∀ (x : α), x ∈ xs → Calls Try.prog g (#[enc x] ++ lb) w fun e w' => e = .returned (.bool (f x)) ∧ w = w') :
    Calls Try.prog 86 #[.slice p n c, .func (.func g) #[] lb] w fun e w' => e = .returned (.int .i64 (idxf f xs)) ∧ w = w' := by
  have hn := h.bound
  have H := Lib.hid h; clear h
  have HF := Lib.hid hf; clear hf
  have eg' : ∀ args w, (callFunc g args).run Try.prog w = .ok (.enter g args) w := eg
  clear eg
  go_enter Try.func86, Try.ntmps86
  go_wp2
  go_loop [8] (fun i => ∃ k : Nat, k ≤ n ∧ i = .int .i64 k ∧ Hid (∀ j y, j < k → xs[j]? = some y → f y = false)) (fun i => n - (intOf i).toNat)
  case atStart => exact ⟨0, Nat.zero_le _, rfl, fun j y hj => by omega⟩
  case round =>
    obtain ⟨k, hk, rfl, hr⟩ := hrel
    by_cases hlt : k < n
    · obtain ⟨b, o, x, rfl, hc, hx⟩ := H.out.at k hlt
      have hm : x ∈ xs := List.mem_of_getElem? hx.out
      cases hfx : f x with
      | false =>
        have HQ := Lib.hid hfx; clear hfx
        go_wp2_with fail
        refine (HF.out x hm).mono ?_; rintro e w' ⟨rfl, rfl⟩
        rw [HQ.out]
        go_wp2
        go_round
        case rel =>
          refine ⟨k + 1, by omega, by go_num, fun j y hj hy => ?_⟩
          by_cases e : j = k
          · subst e; have := hx.out.symm.trans hy; cases this; exact HQ.out
          · exact hr.out j y (by omega) hy
        case measure => simp [intOf]; omega
      | true =>
        have HQ := Lib.hid hfx; clear hfx
        go_wp2_with fail
        refine (HF.out x hm).mono ?_; rintro e w' ⟨rfl, rfl⟩
        rw [HQ.out]
        go_wp2
        go_ret
        exact ⟨by rw [idxf_found hx.out HQ.out hr.out]; rfl, rfl⟩
    · go_wp2
      go_ret
      exact ⟨by rw [idxf_none (k := k) (by have := H.out.len; omega) hr.out]; rfl, rfl⟩
set_option maxHeartbeats 400000 in
theorem CloneV_any (p : Option Addr) (n c : Nat) (xs : List UInt8) (w : World) (h : Sl B8 w p n c xs) (hn : Room n) :
    Calls Try.prog 82 #[.slice p n c] w fun e w' => ∃ q c', e = .returned (.slice q n c') ∧ w'.ownsRow w.heap.size 5 1 (.slice q n c') n (xs.map B8) ∧ Below w.heap.size w w' := by
  obtain ⟨i0, hi, hz0, hz1, hz2⟩ := info_parts info_u8
  cases hp : p with
  | none =>
    subst hp
    obtain ⟨rfl, rfl⟩ := h.nil rfl
    have : xs = [] := List.eq_nil_of_length_eq_zero h.len
    subst this
    have hq := fun w => Lib.run_eql_slice_nil (P := Try.prog) w 59 5 none 0 0 0 0 Try.underlying59
    go_enter Try.func82, Try.ntmps82
    go_wp2
    go_ret
    exact ⟨none, 0, rfl, World.ownsRow_nil _ _ _ _, Below.refl _ _⟩
  | some ad =>
    subst hp
    have hq := fun w => Lib.run_eql_slice_nil (P := Try.prog) w 59 5 (some ad) n c 0 0 Try.underlying59
    have H := Lib.hid h
    clear h
    go_enter Try.func82, Try.ntmps82
    go_wp2_with (at_builtin; refine wpList_append_rs _ rfl _ _ 59 rfl w.heap.size 5 i0 (.int .u8 0) 1 Try.underlying59 hi hz0 hz1 hz2 rfl _ 0 [] rfl (World.ownsRow_lit w #[] 0 (Nat.le_refl _) (by simp [maxLen]) rfl) B8 _ _ _ xs (fun _ _ => rfl) rfl (H.out.keep ((Below.refl _ _).alloc (Nat.le_refl _) _)) ?c1 ?c2 ?c3 ?_)
    case c1 => have := H.out.le; have := H.out.max; omega
    case c2 => unfold Room at hn; omega
    case c3 => simp
    intro v' w' ho hg
    obtain ⟨q, c', rfl⟩ := owns_shape ho
    go_wp2
    go_ret
    exact ⟨q, c', rfl, ho, ((Below.refl _ _).alloc (Nat.le_refl _) _).grown hg (by simp) (by simp [Value.ownBlock])⟩
def leadS (v : List UInt8) : Int := idxf (fun b => decide (b ≠ 0)) v
def atS (v : List UInt8) (i : Int) : UInt8 := if 0 ≤ i then v.getD i.toNat 0 else 0
theorem enters_lead : Enters Try.prog 87 := enters_of Try.func87 (by kernel_rfl) rfl
set_option maxHeartbeats 400000 in
theorem Lead1_any (x : UInt8) (w : World) : Calls Try.prog 87 #[B8 x] w fun e w' => e = .returned (.bool (decide (x ≠ 0))) ∧ w = w' := by
  have hz := nat_ne_zero x
  generalize decide (x ≠ 0) = d at *
  go_enter Try.func87, Try.ntmps87
  go_wp2
  go_ret
  exact ⟨rfl, rfl⟩
set_option maxHeartbeats 400000 in
theorem Lead_any (p : Option Addr) (n c : Nat) (v : List UInt8) (w : World) (h : Sl B8 w p n c v) :
    Calls Try.prog 62 #[.slice p n c] w fun e w' => e = .returned (.int .i64 (leadS v)) ∧ w = w' := by
  have H := Lib.hid h; clear h
  go_enter Try.func62, Try.ntmps62
  go_wp2_with fail
  refine (IndexFuncV_any B8 (fun x => decide (x ≠ 0)) 87 #[] enters_lead p n c v w H.out (fun x _ => Lead1_any x w)).mono ?_; rintro e w' ⟨rfl, rfl⟩
  generalize hL : idxf (fun x => decide (x ≠ 0)) v = L
  have HL := Lib.hid hL; clear hL
  go_wp2
  go_ret
  exact ⟨by rw [leadS, HL.out]; rfl, rfl⟩
set_option maxHeartbeats 400000 in
theorem At_any (p : Option Addr) (n c : Nat) (v : List UInt8) (i : Int) (w : World) (h : Sl B8 w p n c v) :
    Calls Try.prog 61 #[.slice p n c, .int .i64 i] w fun e w' => e = .returned (B8 (atS v i)) ∧ w = w' := by
  have hb := h.bound
  by_cases h0 : 0 ≤ i
  · by_cases h1 : i < n
    · obtain ⟨k, rfl⟩ := Int.eq_ofNat_of_zero_le h0
      obtain ⟨b, o, x, rfl, hc, hx⟩ := h.at k (by omega)
      have HR : Hid (atS v (k : Int) = x) := by simp [Hid, atS, List.getD, hx.out]
      have h0' : ¬ ((k : Int) < 0) := by omega
      clear h h0
      go_enter Try.func61, Try.ntmps61
      go_wp2
      go_ret
      exact ⟨by rw [HR.out]; rfl, rfl⟩
    · have HR : Hid (atS v i = 0) := by
        simp only [Hid, atS, if_pos h0, List.getD]
        rw [List.getElem?_eq_none (by have := h.len; omega)]; rfl
      have h0' : ¬ (i < 0) := by omega
      have h1' : (n : Int) ≤ i := by omega
      clear h
      go_enter Try.func61, Try.ntmps61
      go_wp2
      go_ret
      exact ⟨by rw [HR.out]; rfl, rfl⟩
  · have HR : Hid (atS v i = 0) := by simp only [Hid, atS, if_neg h0]
    have h0' : i < 0 := by omega
    clear h
    go_enter Try.func61, Try.ntmps61
    go_wp2
    go_ret
    exact ⟨by rw [HR.out]; rfl, rfl⟩
set_option maxHeartbeats 400000 in
theorem VZero_any (p : Option Addr) (n c : Nat) (v : List UInt8) (w : World) (h : Sl B8 w p n c v) :
    Calls Try.prog 63 #[.slice p n c] w fun e w' => e = .returned (.bool (zeroS v)) ∧ w = w' := by
  have H := Lib.hid h; clear h
  go_enter Try.func63, Try.ntmps63
  go_wp2_with fail
  refine (Zero_any p n c v w H.out).mono ?_; rintro e w' ⟨rfl, rfl⟩
  go_wp2
  go_ret
  exact ⟨rfl, rfl⟩
/-- one result: a row in new memory -/
def RetR (T : TypeId) (w : World) (r : List UInt8 × List UInt8) (e : Ending) (w' : World) : Prop :=
  ∃ q1 m1 c1 q2 m2 c2, Hid (r.1.length = m1) ∧ Hid (r.2.length = m2) ∧ e = .returned (.agg #[.slice q1 m1 c1, .slice q2 m2 c2]) ∧
    w'.ownsRow w.heap.size T 1 (.slice q1 m1 c1) m1 (r.1.map B8) ∧ w'.ownsRow w.heap.size T 1 (.slice q2 m2 c2) m2 (r.2.map B8) ∧ Below w.heap.size w w'
set_option maxHeartbeats 400000 in
theorem Of_any (p1 p2 : Option Addr) (n1 c1 n2 c2 : Nat) (v d : List UInt8) (w : World) (h1 : Sl B8 w p1 n1 c1 v) (h2 : Sl B8 w p2 n2 c2 d) (r1 : Room n1) (r2 : Room n2) :
    Calls Try.prog 51 #[.slice p1 n1 c1, .slice p2 n2 c2] w (RetR 5 w (v, d)) := by
  have H1 := Lib.hid h1; have H2 := Lib.hid h2; clear h1 h2
  go_enter Try.func51, Try.ntmps51
  go_wp2_with fail
  refine (CloneV_any _ _ _ v _ (H1.out.keep ((Below.refl _ _).alloc (Nat.le_refl _) _)) r1).mono ?_; rintro e w1 ⟨q1, c1', rfl, ho1, hb1⟩
  have HO1 := Lib.hid ho1; clear ho1
  go_wp2_with fail
  refine Calls.mono (CloneB_any _ _ _ d _ (H2.out.keep (bl (al (Below.refl _ _) (Nat.le_refl _)) hb1 (by simp))) r2) ?_; rintro e w2 ⟨q2, c2', rfl, ho2, hb2⟩
  have HO2 := Lib.hid ho2; clear ho2
  have e2 : w2.heap[w.heap.size]? = some (.cells #[.slice none 0 0, .slice none 0 0] 61 (0, 0)) := by
    rw [hb2.block _ (by have := hb1.size; simp at this; omega), hb1.block _ (by simp)]; exact hnew rfl
  have f0 : w2.cell? ⟨w.heap.size, 0, none⟩ = some (.slice none 0 0) := cell_of_row _ _ 0 _ _ _ e2
  have f1 : w2.cell? ⟨w.heap.size, 1, none⟩ = some (.slice none 0 0) := cell_of_row _ _ 1 _ _ _ e2
  have g0 : w2.frozen? ⟨w.heap.size, 0, none⟩ = false := frozen_of_row _ _ 0 _ _ e2
  have g1 : w2.frozen? ⟨w.heap.size, 1, none⟩ = false := frozen_of_row _ _ 1 _ _ e2
  have E2 := Lib.hid e2; clear e2
  have hi : (Try.prog.info? 61).map (·.size) = some 2 := by kernel_rfl
  go_wp2
  have k2 : Below w.heap.size w w2 := bl (bl (al (Below.refl _ _) (Nat.le_refl _)) hb1 (by simp)) hb2 (by have := hb1.size; simp at this; omega)
  refine bodyPost_ret (results_cell_row rfl _ _ _ 61 #[.slice q1 n1 c1', .slice q2 n2 c2'] (0, 0) _ rfl (hss (hss E2.out)) Try.underlying61 rfl hi) rfl ⟨q1, n1, c1', q2, n2, c2', H1.out.len, H2.out.len, rfl, ?_, ?_, (k2.setCell (Nat.le_refl _) _).setCell (Nat.le_refl _) _⟩
  · exact owns_mono (owns_set (owns_set (owns_keep HO1.out hb2) (by simp)) (by simp)) (by simp)
  · have hs := hb1.size
    exact owns_mono (owns_set (owns_set HO2.out (by simp at hs; omega)) (by simp at hs; omega)) (by simp at hs; omega)
end Go.Proofs.Ytofhdakggapahaa
