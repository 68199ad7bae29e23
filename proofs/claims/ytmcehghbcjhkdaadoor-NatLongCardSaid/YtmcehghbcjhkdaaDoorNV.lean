/- The reference's numbers: Parse. -/
import Derived.Test.YtmcehghbcjhkdaaDoorNU
namespace Go.By
open Go.RowKit
theorem valT_cons (c : UInt8) (s : List UInt8) : valT (c :: s) = valT s + 16 ^ s.length * hexd c := by
  have := valT_append [c] s
  rw [show [c] ++ s = c :: s from rfl] at this
  rw [this, show valT [c] = hexd c from by simp [valT, valD]]
theorem valB_snoc (O : List UInt8) (d : UInt8) : valB (O ++ [d]) = valB O + 256 ^ O.length * d.toNat := by
  unfold valB
  rw [List.map_append, List.map_cons, List.map_nil, valD_snoc, List.length_map]
theorem valB_set {O : List UInt8} {k : Nat} {s p : UInt8} (h : O[k]? = some p) : valB (O.set k s) + 256 ^ k * p.toNat = valB O + 256 ^ k * s.toNat := by
  unfold valB
  rw [List.map_set]
  exact valD_set _ _ _ _ (by rw [List.getElem?_map, h]; rfl)
/-- what the document reads of a text: the bytes, a code -/
def RetPT (w : World) (l : List UInt8) (e : Ending) (w' : World) : Prop :=
  (goodT l = true ∧ ∃ q n c, e = .returned (.tuple #[.slice q n c, .int .i64 0]) ∧ Sl B8 w' q n c (bytesN (valT l)) ∧ Below w.heap.size w w') ∨ (goodT l = false ∧ e = .returned (.tuple #[.slice none 0 0, .int .i64 14]) ∧ Below w.heap.size w w')
end Go.By
namespace Go.Proofs.YtmcehghbcjhkdaaDoor
open Go.RowKit Go.By
theorem Parse_ref_head (l : List UInt8) (hl : l = [] ∨ ∃ r, l = 48 :: r ∧ r ≠ []) (w : World) :
    Calls Tryd.prog 15 #[.string (strB l)] w fun e w' => e = .returned (.tuple #[.slice none 0 0, .int .i64 14]) ∧ Below w.heap.size w w' := by
  rcases hl with rfl | ⟨r, rfl, hr⟩
  · have hemp : (strB []).toList.isEmpty = true := empty_strB (l := [])
    obtain ⟨S, hS⟩ : ∃ S, S = strB [] := ⟨_, rfl⟩
    rw [← hS] at hemp ⊢
    clear hS
    go_enter Tryd.func15, Tryd.ntmps15
    go_wp2
    go_ret2
    exact ⟨rfl, Below.refl _ _⟩
  · have hemp : (strB (48 :: r)).toList.isEmpty = false := empty_strB (l := 48 :: r)
    have hix0 : ∀ w, (Instr.index 9 (.string (strB (48 :: r))) (.int .i64 0)).run Tryd.prog w = .ok (.int .u8 48) w := fun w => idx_strB _ Tryd.underlying9 (l := 48 :: r) (k := 0) (c := 48) rfl _ _ rfl w
    have hsz := strB_size (48 :: r)
    have hlen : ((1 : Int) < (((48 : UInt8) :: r).length : Nat)) := by
      cases r with
      | nil => exact absurd rfl hr
      | cons _ _ => simp; omega
    obtain ⟨n, hn⟩ : ∃ n, n = ((48 : UInt8) :: r).length := ⟨_, rfl⟩
    rw [← hn] at hsz hlen
    obtain ⟨S, hS⟩ : ∃ S, S = strB (48 :: r) := ⟨_, rfl⟩
    rw [← hS] at hemp hix0 hsz ⊢
    clear hS hn hr
    go_enter Tryd.func15, Tryd.ntmps15
    go_wp2_with (simp only [hix0])
    go_ret2
    exact ⟨rfl, Below.refl _ _⟩
set_option maxRecDepth 100000 in
set_option maxHeartbeats 8000000 in
theorem Parse_ref_rest (c : UInt8) (r : List UInt8) (l : List UInt8) (hl : l = c :: r) (h8 : l.length ≤ 4000) (hhead : c ≠ 48 ∨ r = []) (hg : goodT l = l.all isHex) (w : World) :
    Calls Tryd.prog 15 #[.string (strB l)] w (RetPT w l) := by
  obtain ⟨i0, hi, hz0, hz1, hz2⟩ := info_parts info_u8
  have hemp : (strB l).toList.isEmpty = false := by rw [empty_strB, hl]; rfl
  obtain ⟨n, hn⟩ : ∃ n, n = l.length := ⟨_, rfl⟩
  have hsz : (strB l).size = n := by rw [strB_size, hn]
  have hixk : Hid (∀ (k : Nat) (d : UInt8), l[k]? = some d → ∀ w, (Instr.index 9 (.string (strB l)) (.int .i64 (k : Int))).run Tryd.prog w = .ok (B8 d) w) := fun k d hd w => idx_strB _ Tryd.underlying9 hd _ _ rfl w
  have hh : (∃ v : Int, (∀ w, (Instr.index 9 (.string (strB l)) (.int .i64 0)).run Tryd.prog w = .ok (.int .u8 v) w) ∧ (v == 48) = false ∧ (1 : Int) < (n : Int)) ∨ ¬ (1 : Int) < (n : Int) := by
    by_cases hn1 : 1 < n
    · have h0 : ∀ w, (Instr.index 9 (.string (strB l)) (.int .i64 0)).run Tryd.prog w = .ok (B8 c) w := fun w => idx_strB _ Tryd.underlying9 (k := 0) (by rw [hl]; rfl) _ _ rfl w
      refine Or.inl ⟨_, h0, ?_, by omega⟩
      have hc : c ≠ 48 := by
        rcases hhead with h | h
        · exact h
        · rw [hn, hl, h] at hn1; simp at hn1
      have : c.toNat ≠ 48 := fun e => hc (UInt8.toNat_inj.1 (by simpa using e))
      rw [beq_eq_false_iff_ne]; omega
    · exact Or.inr (by omega)
  have hn0 : 0 < n := by rw [hn, hl]; simp
  have HN := Lib.hid hn
  have HG := Lib.hid hg
  have h81 : n ≤ 4000 := by omega
  obtain ⟨S, hS⟩ : ∃ S, S = strB l := ⟨_, rfl⟩
  rw [← hS] at hemp hsz hixk hh ⊢
  clear hS hl hhead hn h8 hg
  rcases hh with ⟨v, hix0, hv, hn1⟩ | hn1
  all_goals
    go_enter Tryd.func15, Tryd.ntmps15
    first | go_wp2_with (simp only [hix0]) | go_wp2
    clear hn1
    go_loopw [4, 5] (fun ov iv wr => ∃ (r m : Nat) (q : Option Addr) (cq : Nat) (O : List UInt8), r ≤ n ∧ iv = .int .i64 ((n : Int) - 1 - (r : Int)) ∧ ov = .slice q m cq ∧ Hid (r = 2 * m ∨ r + 1 = 2 * m) ∧ Hid (O.length = m) ∧ Hid (wr.ownsRow w.heap.size 5 1 (.slice q m cq) m (O.map B8)) ∧ Hid (valB O = valT (l.drop (n - r)) ∧ ∀ x, x ∈ l.drop (n - r) → isHex x = true) ∧ Hid (∀ j o, r + 1 = 2 * m → j + 1 = m → O[j]? = some o → o.toNat < 16) ∧ Hid (Below w.heap.size w wr)) (fun _ iv _ => (intOf iv + 1).toNat)
    case atStart => exact ⟨0, 0, none, 0, [], Nat.zero_le _, by go_num, rfl, Or.inl rfl, rfl, World.ownsRow_nil _ _ _ _, by
      show valB [] = _ ∧ _
      rw [List.drop_of_length_le (by have := HN.out; omega)]
      exact ⟨rfl, fun x hx => by cases hx⟩, fun j o h1 h2 => by omega, Below.refl _ _⟩
    case round =>
      obtain ⟨r, m, q, cq, O, hr, rfl, rfl, hrm', hOl, hO, hV, hlast, hB⟩ := hrel
      have hsz0 := hB.out.size
      have hrm := hrm'.out
      clear hrm'
      by_cases hlt : r < n
      · obtain ⟨j, hj⟩ : ∃ j, n = j + r + 1 := ⟨n - 1 - r, by omega⟩
        obtain ⟨d, hd⟩ : ∃ d, l[j]? = some d := ⟨l[j]'(by have := HN.out; omega), List.getElem?_eq_getElem _⟩
        have hix := hixk.out j d hd
        have hidx : (n : Int) - 1 - (r : Int) = (j : Int) := by omega
        have hidx2 : (n : Int) - 1 - (j : Int) = (r : Int) := by omega
        have hdrop : l.drop (n - (r + 1)) = d :: l.drop (n - r) := by
          rw [show n - (r + 1) = j by omega, show n - r = j + 1 by omega]; exact drop_cons hd
        have hsl : (l.drop (n - r)).length = r := by rw [List.length_drop]; have := HN.out; omega
        have hd256 := d.toNat_lt
        rcases Nat.lt_or_ge d.toNat 48 with h1 | h1
        · have HQ : Hid (goodT l = false) := by
            show _ = _
            rw [HG.out, List.all_eq_false]
            refine ⟨d, List.mem_of_getElem? hd, fun e => ?_⟩
            rcases isHex_iff.1 e with h | h <;> omega
          have g1 : ¬ (48 : Int) ≤ (d.toNat : Int) := by omega
          have g3 : ¬ (97 : Int) ≤ (d.toNat : Int) := by omega
          have HB2 := Lib.hid hB.out
          clear hd hdrop hsl hO hOl hV hlast hB hj hlt
          go_wp2_with (simp only [hix])
          go_ret2
          exact Or.inr ⟨HQ.out, rfl, HB2.out⟩
        rcases Nat.lt_or_ge 102 d.toNat with h2 | h2
        · have HQ : Hid (goodT l = false) := by
            show _ = _
            rw [HG.out, List.all_eq_false]
            refine ⟨d, List.mem_of_getElem? hd, fun e => ?_⟩
            rcases isHex_iff.1 e with h | h <;> omega
          have g1 : (48 : Int) ≤ (d.toNat : Int) := by omega
          have g2 : ¬ (d.toNat : Int) ≤ 57 := by omega
          have g3 : (97 : Int) ≤ (d.toNat : Int) := by omega
          have g4 : ¬ (d.toNat : Int) ≤ 102 := by omega
          have HB2 := Lib.hid hB.out
          clear hd hdrop hsl hO hOl hV hlast hB hj hlt
          go_wp2_with (simp only [hix])
          go_ret2
          exact Or.inr ⟨HQ.out, rfl, HB2.out⟩
        rcases Nat.lt_or_ge 57 d.toNat with h3 | h3
        · rcases Nat.lt_or_ge d.toNat 97 with h4 | h4
          · have gb : True := trivial
            clear gb
            have HQ : Hid (goodT l = false) := by
              show _ = _
              rw [HG.out, List.all_eq_false]
              refine ⟨d, List.mem_of_getElem? hd, fun e => ?_⟩
              rcases isHex_iff.1 e with h | h <;> omega
            have g1 : (48 : Int) ≤ (d.toNat : Int) := by omega
            have g2 : ¬ (d.toNat : Int) ≤ 57 := by omega
            have g3 : ¬ (97 : Int) ≤ (d.toNat : Int) := by omega
            have HB2 := Lib.hid hB.out
            clear hd hdrop hsl hO hOl hV hlast hB hj hlt
            go_wp2_with (simp only [hix])
            go_ret2
            exact Or.inr ⟨HQ.out, rfl, HB2.out⟩
          have hHex : isHex d = true := isHex_iff.2 (by omega)
          have hD : hexd d = d.toNat - 87 := by unfold hexd; rw [if_neg (by omega)]
          obtain ⟨z, hz, hz16⟩ : ∃ z : UInt8, z.toNat = hexd d ∧ z.toNat < 16 := ⟨UInt8.ofNat (hexd d), by have := hexd_lt hHex; simp; omega, by have := hexd_lt hHex; simp; omega⟩
          have hv : (d.toNat : Int) - 97 + 10 = (z.toNat : Int) := by rw [hz, hD]; omega
          have g1 : (48 : Int) ≤ (d.toNat : Int) := by omega
          have g2 : (57 : Int) < (d.toNat : Int) := by omega
          have g3 : (97 : Int) ≤ (d.toNat : Int) := by omega
          have g4 : (d.toNat : Int) ≤ 102 := by omega
          have HVS : Hid (valT (l.drop (n - (r + 1))) = valT (l.drop (n - r)) + 16 ^ r * z.toNat ∧ ∀ x, x ∈ l.drop (n - (r + 1)) → isHex x = true) := by
            rw [hdrop]
            refine ⟨by rw [valT_cons, hsl, hz], fun x hx => ?_⟩
            rcases List.mem_cons.1 hx with rfl | hx
            · exact hHex
            · exact hV.out.2 x hx
          have HJ := Lib.hid hj
          clear hd hdrop hsl hHex hD hz hj
          rcases hrm with hrm | hrm
          · have hp0 : (r : Int) % 2 = 0 := by omega
            have HRM := Lib.hid hrm
            have hOA : Hid (∀ o, (wr.alloc o).ownsRow w.heap.size 5 1 (.slice q m cq) m (O.map B8)) := fun o => owns_keep hO.out (al (Below.refl _ _) (Nat.le_refl _))
            have hm : m ≤ 4000 := by omega
            clear hrm hlt
            go_wp2_with (first | simp only [hix] | (at_builtin; refine wpList_append_own _ rfl _ _ 34 rfl w.heap.size 5 i0 (.int .u8 0) 1 1 Tryd.underlying34 hi hz0 hz1 hz2 rfl (by omega) _ m (O.map B8) rfl (hOA.out _) ⟨wr.heap.size, 0, none⟩ 1 1 [B8 z] rfl rfl (one_cell rfl) ?c2 ?c3 ?c4 ?c5 ?_))
            case c2 => first | rfl | (intro y hy; simp at hy; subst hy; rfl)
            case c3 => unfold maxLen; omega
            case c4 => omega
            case c5 => first | omega | (simp; omega)
            intro v' w' ho' hg' _
            obtain ⟨q', cq', rfl⟩ := owns_shape ho'
            have FIN : Hid (w'.ownsRow w.heap.size 5 1 (.slice q' (m + 1) cq') (m + 1) ((O ++ [z]).map B8) ∧ (O ++ [z]).length = m + 1 ∧ valB (O ++ [z]) = valT (l.drop (n - (r + 1))) ∧ (∀ j o, r + 1 + 1 = 2 * (m + 1) → j + 1 = m + 1 → (O ++ [z])[j]? = some o → o.toNat < 16) ∧ Below w.heap.size w w') := by
              refine ⟨?_, by rw [List.length_append, hOl.out]; rfl, ?_, ?_, ?_⟩
              · rw [List.map_append]; exact ho'
              · rw [valB_snoc, HVS.out.1, hV.out.1, hOl.out, HRM.out, show (256 : Nat) = 16 ^ 2 from rfl, ← Nat.pow_mul]
              · intro j' o' _ hj2 ho2
                rw [List.getElem?_append_right (by rw [hOl.out]; omega), hOl.out, show j' - m = 0 by omega] at ho2
                cases ho2; exact hz16
              · exact (al hB.out hsz0).grown hg' (by simp; omega) (fun rr hrr => (hO.out.lt rr hrr).1)
            clear ho' hg' hO hOl hV hlast hB hOA
            go_wp2
            go_roundw
            case rel => exact ⟨r + 1, m + 1, q', cq', O ++ [z], by have := HJ.out; omega, by go_num, rfl, (by have := HRM.out; show _ ∨ _; omega), FIN.out.2.1, FIN.out.1, ⟨FIN.out.2.2.1, HVS.out.2⟩, FIN.out.2.2.2.1, FIN.out.2.2.2.2⟩
            case measure => simp [intOf]; have := HJ.out; omega
          · have hp0 : (r : Int) % 2 = 1 := by omega
            obtain ⟨k, rfl⟩ : ∃ k, m = k + 1 := ⟨m - 1, by omega⟩
            obtain ⟨o, ho⟩ : ∃ o, O[k]? = some o := ⟨O[k]'(by rw [hOl.out]; omega), List.getElem?_eq_getElem _⟩
            have ho16 := hlast.out k o hrm rfl ho
            obtain ⟨g, rfl, hg1, hg2⟩ := owns_at hO.out (by omega)
            have cO : wr.cell? ⟨g, k, none⟩ = some (B8 o) := by
              rw [hO.out.cellAt _ (by omega), List.getElem?_map, ho]; rfl
            have zO : wr.frozen? ⟨g, k, none⟩ = false := hO.out.frozenAt _
            obtain ⟨y, hy⟩ : ∃ y : UInt8, y.toNat = o.toNat + 16 * z.toNat := ⟨UInt8.ofNat (o.toNat + 16 * z.toNat), by simp; omega⟩
            have hyv : (o.toNat : Int) + 16 * (z.toNat : Int) = (y.toNat : Int) := by rw [hy]; omega
            have hmul : (16 : Int) * (z.toNat : Int) < 256 := by omega
            have hadd : (o.toNat : Int) + 16 * (z.toNat : Int) < 256 := by omega
            have FIN : Hid ((wr.setCell ⟨g, k, none⟩ (B8 y)).ownsRow w.heap.size 5 1 (.slice (some ⟨g, 0, none⟩) (k + 1) cq) (k + 1) ((O.set k y).map B8) ∧ (O.set k y).length = k + 1 ∧ valB (O.set k y) = valT (l.drop (n - (r + 1))) ∧ (∀ j o, r + 1 + 1 = 2 * (k + 1) → j + 1 = k + 1 → (O.set k y)[j]? = some o → o.toNat < 16) ∧ Below w.heap.size w (wr.setCell ⟨g, k, none⟩ (B8 y))) := by
              refine ⟨?_, by rw [List.length_set]; exact hOl.out, ?_, fun j' o' h1 => by omega, hB.out.setCell hg1 _⟩
              · rw [List.map_set]; exact (hO.out.stored k (B8 y)).1
              · have h1 := valB_set (s := y) ho
                have h2 : 16 ^ r * z.toNat = 256 ^ k * (16 * z.toNat) := by
                  rw [show r = 2 * k + 1 by omega, Nat.pow_succ, show (256 : Nat) = 16 ^ 2 from rfl, ← Nat.pow_mul, Nat.mul_assoc]
                have h3 : 256 ^ k * y.toNat = 256 ^ k * o.toNat + 256 ^ k * (16 * z.toNat) := by rw [hy, Nat.mul_add]
                have h4 := hV.out.1
                rw [HVS.out.1, h2]
                omega
            have hk4 : k ≤ 4000 := by omega
            have HRM := Lib.hid hrm
            obtain ⟨zi, hzi⟩ : ∃ zi : Int, (z.toNat : Int) = zi := ⟨_, rfl⟩
            rw [hzi] at hv hyv hmul hadd
            have zi0 : 0 ≤ zi := by omega
            have zi16 : zi < 16 := by omega
            clear h1 h2 h3 hz16 hzi
            clear hrm hlt ho ho16 hO hOl hV hlast hB hy hg1
            go_wp2_with (simp only [hix])
            go_roundw
            case rel => exact ⟨r + 1, k + 1, some ⟨g, 0, none⟩, cq, O.set k y, by have := HJ.out; omega, by go_num, rfl, (by have := HRM.out; show _ ∨ _; omega), FIN.out.2.1, FIN.out.1, ⟨FIN.out.2.2.1, HVS.out.2⟩, FIN.out.2.2.2.1, FIN.out.2.2.2.2⟩
            case measure =>
              have := HJ.out
              clear hidx hidx2
              simp only [intOf]; omega
        · have hHex : isHex d = true := isHex_iff.2 (by omega)
          have hD : hexd d = d.toNat - 48 := by unfold hexd; rw [if_pos (by omega)]
          obtain ⟨z, hz, hz16⟩ : ∃ z : UInt8, z.toNat = hexd d ∧ z.toNat < 16 := ⟨UInt8.ofNat (hexd d), by have := hexd_lt hHex; simp; omega, by have := hexd_lt hHex; simp; omega⟩
          have hv : (d.toNat : Int) - 48 = (z.toNat : Int) := by rw [hz, hD]; omega
          have g1 : (48 : Int) ≤ (d.toNat : Int) := by omega
          have g2 : (d.toNat : Int) ≤ 57 := by omega
          have HVS : Hid (valT (l.drop (n - (r + 1))) = valT (l.drop (n - r)) + 16 ^ r * z.toNat ∧ ∀ x, x ∈ l.drop (n - (r + 1)) → isHex x = true) := by
            rw [hdrop]
            refine ⟨by rw [valT_cons, hsl, hz], fun x hx => ?_⟩
            rcases List.mem_cons.1 hx with rfl | hx
            · exact hHex
            · exact hV.out.2 x hx
          have HJ := Lib.hid hj
          clear hd hdrop hsl hHex hD hz hj
          rcases hrm with hrm | hrm
          · have hp0 : (r : Int) % 2 = 0 := by omega
            have HRM := Lib.hid hrm
            have hOA : Hid (∀ o, (wr.alloc o).ownsRow w.heap.size 5 1 (.slice q m cq) m (O.map B8)) := fun o => owns_keep hO.out (al (Below.refl _ _) (Nat.le_refl _))
            have hm : m ≤ 4000 := by omega
            clear hrm hlt
            go_wp2_with (first | simp only [hix] | (at_builtin; refine wpList_append_own _ rfl _ _ 34 rfl w.heap.size 5 i0 (.int .u8 0) 1 1 Tryd.underlying34 hi hz0 hz1 hz2 rfl (by omega) _ m (O.map B8) rfl (hOA.out _) ⟨wr.heap.size, 0, none⟩ 1 1 [B8 z] rfl rfl (one_cell rfl) ?c2 ?c3 ?c4 ?c5 ?_))
            case c2 => first | rfl | (intro y hy; simp at hy; subst hy; rfl)
            case c3 => unfold maxLen; omega
            case c4 => omega
            case c5 => first | omega | (simp; omega)
            intro v' w' ho' hg' _
            obtain ⟨q', cq', rfl⟩ := owns_shape ho'
            have FIN : Hid (w'.ownsRow w.heap.size 5 1 (.slice q' (m + 1) cq') (m + 1) ((O ++ [z]).map B8) ∧ (O ++ [z]).length = m + 1 ∧ valB (O ++ [z]) = valT (l.drop (n - (r + 1))) ∧ (∀ j o, r + 1 + 1 = 2 * (m + 1) → j + 1 = m + 1 → (O ++ [z])[j]? = some o → o.toNat < 16) ∧ Below w.heap.size w w') := by
              refine ⟨?_, by rw [List.length_append, hOl.out]; rfl, ?_, ?_, ?_⟩
              · rw [List.map_append]; exact ho'
              · rw [valB_snoc, HVS.out.1, hV.out.1, hOl.out, HRM.out, show (256 : Nat) = 16 ^ 2 from rfl, ← Nat.pow_mul]
              · intro j' o' _ hj2 ho2
                rw [List.getElem?_append_right (by rw [hOl.out]; omega), hOl.out, show j' - m = 0 by omega] at ho2
                cases ho2; exact hz16
              · exact (al hB.out hsz0).grown hg' (by simp; omega) (fun rr hrr => (hO.out.lt rr hrr).1)
            clear ho' hg' hO hOl hV hlast hB hOA
            go_wp2
            go_roundw
            case rel => exact ⟨r + 1, m + 1, q', cq', O ++ [z], by have := HJ.out; omega, by go_num, rfl, (by have := HRM.out; show _ ∨ _; omega), FIN.out.2.1, FIN.out.1, ⟨FIN.out.2.2.1, HVS.out.2⟩, FIN.out.2.2.2.1, FIN.out.2.2.2.2⟩
            case measure => simp [intOf]; have := HJ.out; omega
          · have hp0 : (r : Int) % 2 = 1 := by omega
            obtain ⟨k, rfl⟩ : ∃ k, m = k + 1 := ⟨m - 1, by omega⟩
            obtain ⟨o, ho⟩ : ∃ o, O[k]? = some o := ⟨O[k]'(by rw [hOl.out]; omega), List.getElem?_eq_getElem _⟩
            have ho16 := hlast.out k o hrm rfl ho
            obtain ⟨g, rfl, hg1, hg2⟩ := owns_at hO.out (by omega)
            have cO : wr.cell? ⟨g, k, none⟩ = some (B8 o) := by
              rw [hO.out.cellAt _ (by omega), List.getElem?_map, ho]; rfl
            have zO : wr.frozen? ⟨g, k, none⟩ = false := hO.out.frozenAt _
            obtain ⟨y, hy⟩ : ∃ y : UInt8, y.toNat = o.toNat + 16 * z.toNat := ⟨UInt8.ofNat (o.toNat + 16 * z.toNat), by simp; omega⟩
            have hyv : (o.toNat : Int) + 16 * (z.toNat : Int) = (y.toNat : Int) := by rw [hy]; omega
            have hmul : (16 : Int) * (z.toNat : Int) < 256 := by omega
            have hadd : (o.toNat : Int) + 16 * (z.toNat : Int) < 256 := by omega
            have FIN : Hid ((wr.setCell ⟨g, k, none⟩ (B8 y)).ownsRow w.heap.size 5 1 (.slice (some ⟨g, 0, none⟩) (k + 1) cq) (k + 1) ((O.set k y).map B8) ∧ (O.set k y).length = k + 1 ∧ valB (O.set k y) = valT (l.drop (n - (r + 1))) ∧ (∀ j o, r + 1 + 1 = 2 * (k + 1) → j + 1 = k + 1 → (O.set k y)[j]? = some o → o.toNat < 16) ∧ Below w.heap.size w (wr.setCell ⟨g, k, none⟩ (B8 y))) := by
              refine ⟨?_, by rw [List.length_set]; exact hOl.out, ?_, fun j' o' h1 => by omega, hB.out.setCell hg1 _⟩
              · rw [List.map_set]; exact (hO.out.stored k (B8 y)).1
              · have h1 := valB_set (s := y) ho
                have h2 : 16 ^ r * z.toNat = 256 ^ k * (16 * z.toNat) := by
                  rw [show r = 2 * k + 1 by omega, Nat.pow_succ, show (256 : Nat) = 16 ^ 2 from rfl, ← Nat.pow_mul, Nat.mul_assoc]
                have h3 : 256 ^ k * y.toNat = 256 ^ k * o.toNat + 256 ^ k * (16 * z.toNat) := by rw [hy, Nat.mul_add]
                have h4 := hV.out.1
                rw [HVS.out.1, h2]
                omega
            have hk4 : k ≤ 4000 := by omega
            have HRM := Lib.hid hrm
            obtain ⟨zi, hzi⟩ : ∃ zi : Int, (z.toNat : Int) = zi := ⟨_, rfl⟩
            rw [hzi] at hv hyv hmul hadd
            have zi0 : 0 ≤ zi := by omega
            have zi16 : zi < 16 := by omega
            clear h1 h2 h3 hz16 hzi
            clear hrm hlt ho ho16 hO hOl hV hlast hB hy hg1
            go_wp2_with (simp only [hix])
            go_roundw
            case rel => exact ⟨r + 1, k + 1, some ⟨g, 0, none⟩, cq, O.set k y, by have := HJ.out; omega, by go_num, rfl, (by have := HRM.out; show _ ∨ _; omega), FIN.out.2.1, FIN.out.1, ⟨FIN.out.2.2.1, HVS.out.2⟩, FIN.out.2.2.2.1, FIN.out.2.2.2.2⟩
            case measure =>
              have := HJ.out
              clear hidx hidx2
              simp only [intOf]; omega
      · obtain rfl : r = n := by omega
        have HV : Hid (valB O = valT l ∧ goodT l = true) := by
          have := hV.out
          rw [Nat.sub_self, List.drop_zero] at this
          exact ⟨this.1, by rw [HG.out, List.all_eq_true]; exact this.2⟩
        have hO1 := Lib.hid (Sl.of_owns hO.out)
        have HB2 := Lib.hid hB.out
        have hm : m ≤ 4000 := by omega
        have HOL := Lib.hid hOl.out
        have hidx : (r : Int) - 1 - (r : Int) = -1 := by omega
        clear hlt hV hlast hO hB hOl
        go_wp2_with fail
        refine Calls.mono (Trim_ref _ _ _ O wr hO1.out) ?_
        rintro e w1 ⟨q1, n1, c1, rfl, hs1, rfl⟩
        have hn1 : n1 ≤ m := by rw [← hs1.len, ← HOL.out]; exact bytesN_len_le O
        have hn2 : ¬ (4096 : Int) < (n1 : Int) := by omega
        clear hs1
        go_wp2_with fail
        refine Calls.mono (Trim_ref _ _ _ O wr hO1.out) ?_
        rintro e w1 ⟨q2, n2, c2, rfl, hs2, rfl⟩
        have HS : Hid (Sl B8 wr q2 n2 c2 (bytesN (valT l))) := by rw [← HV.out.1]; exact hs2
        clear hs2
        go_wp2
        go_ret2
        exact Or.inl ⟨HV.out.2, _, _, _, rfl, HS.out, HB2.out⟩
theorem Parse_ref (l : List UInt8) (h8 : l.length ≤ 4000) (w : World) : Calls Tryd.prog 15 #[.string (strB l)] w (RetPT w l) := by
  cases hl : l with
  | nil => exact (Parse_ref_head [] (Or.inl rfl) w).mono fun e w' h => Or.inr ⟨rfl, h⟩
  | cons c r =>
    by_cases h : c = 48 ∧ r ≠ []
    · obtain ⟨rfl, hr⟩ := h
      refine (Parse_ref_head (48 :: r) (Or.inr ⟨r, rfl, hr⟩) w).mono fun e w' h => Or.inr ⟨?_, h⟩
      cases r with
      | nil => exact absurd rfl hr
      | cons _ _ => simp [goodT]
    · have hh : c ≠ 48 ∨ r = [] := by
        by_cases hc : c = 48
        · exact Or.inr (Classical.byContradiction fun hr => h ⟨hc, hr⟩)
        · exact Or.inl hc
      have hg : goodT (c :: r) = (c :: r).all isHex := by
        show ((decide (c ≠ 48) || r.isEmpty) && (c :: r).all isHex) = _
        rcases hh with hc | hr
        · rw [decide_eq_true hc]; rfl
        · rw [hr]; simp
      exact Parse_ref_rest c r (c :: r) rfl (by rw [← hl]; exact h8) hh hg w
end Go.Proofs.YtmcehghbcjhkdaaDoor
