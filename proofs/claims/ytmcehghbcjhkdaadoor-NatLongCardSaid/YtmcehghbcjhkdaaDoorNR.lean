/- Numbers: Parse. -/
import Derived.Test.YtmcehghbcjhkdaaDoorNQ
namespace Go.By
open Go.RowKit
theorem idx_strB {P : Program} (t : TypeId) (ht : P.underlying t = some .string) {l : List UInt8} {k : Nat} {c : UInt8} (h : l[k]? = some c) (K : IntKind) (z : Int) (hz : z = (k : Int)) (w : World) :
    (Instr.index t (.string (strB l)) (.int K z)).run P w = .ok (B8 c) w := by
  subst hz
  obtain ⟨hk, e⟩ := List.getElem?_eq_some_iff.1 h
  rw [run_index_string w t (strB l) _ _ ht, dif_pos ⟨by omega, by rw [strB_size]; omega⟩]
  have e1 : ((k : Int)).toNat = k := by omega
  simp only [e1]
  have hsz : k < (strB l).size := by rw [strB_size]; exact hk
  have h2 : (strB l).data[k]? = some ((strB l)[k]'hsz) := Array.getElem?_eq_getElem hsz
  rw [← Array.getElem?_toList, strB_data, h] at h2
  rw [← Option.some.inj h2]
theorem extract_strB (l : List UInt8) (i j : Nat) : (strB l).extract i j = strB ((l.take j).drop i) := by
  rw [strB_of ((strB l).extract _ _)]
  congr 1
  rw [Lib.extract_data, strB_data]
  simp [List.extract_eq_take_drop, List.drop_take]
theorem empty_strB {l : List UInt8} : (strB l).toList.isEmpty = l.isEmpty := by
  rw [← decide_eq_emptyBytes]
  cases l with
  | nil => exact decide_eq_true rfl
  | cons c r => exact decide_eq_false (fun h => by have := congrArg (fun s : ByteArray => s.data.toList) h; rw [show (strB (c :: r)).data.toList = c :: r from strB_data _] at this; cases this)
/-- is a text a number's? -/
def goodT (l : List UInt8) : Bool := match l with
  | [] => false
  | c :: r => (decide (c ≠ 48) || r.isEmpty) && (c :: r).all isHex
theorem one_cell {w : World} {v : Value} {T g : Nat} (hg : g = w.heap.size) : ∀ (j : Nat) (u : Value), [v][j]? = some u → (w.alloc (.cells #[v] T)).cell? ((⟨g, 0, none⟩ : Addr).add j) = some u := by
  intro j u hj
  rw [Addr.add_lit, Nat.zero_add, cell_of_row _ _ j _ _ _ (hnew hg)]
  match j with
  | 0 => simpa using hj
  | j + 1 => simp at hj
end Go.By
namespace Go.Proofs.YtmcehghbcjhkdaaDoor
open Go.RowKit Go.By
theorem digit_any (c : UInt8) (w : World) : Calls Tryd.prog 31 #[B8 c] w fun e w' => e = .returned (.bool (isHex c)) ∧ w' = w := by
  have hc := c.toNat_lt
  rcases Nat.lt_or_ge c.toNat 48 with h1 | h1
  · have e : isHex c = false := by
      cases h : isHex c with
      | false => rfl
      | true => rcases isHex_iff.1 h with h | h <;> omega
    rw [e]
    have a1 : ¬ (48 : Int) ≤ (c.toNat : Int) := by omega
    have a2 : ¬ (97 : Int) ≤ (c.toNat : Int) := by omega
    clear e h1
    go_enter Tryd.func31, Tryd.ntmps31
    go_wp2
    go_ret
    exact ⟨rfl, rfl⟩
  rcases Nat.lt_or_ge 57 c.toNat with h2 | h2
  · rcases Nat.lt_or_ge c.toNat 97 with h3 | h3
    · have e : isHex c = false := by
        cases h : isHex c with
        | false => rfl
        | true => rcases isHex_iff.1 h with h | h <;> omega
      rw [e]
      have a1 : (48 : Int) ≤ (c.toNat : Int) := by omega
      have a2 : ¬ (c.toNat : Int) ≤ 57 := by omega
      have a3 : ¬ (97 : Int) ≤ (c.toNat : Int) := by omega
      clear e h1 h2 h3
      go_enter Tryd.func31, Tryd.ntmps31
      go_wp2
      go_ret
      exact ⟨rfl, rfl⟩
    · have a1 : (48 : Int) ≤ (c.toNat : Int) := by omega
      have a2 : ¬ (c.toNat : Int) ≤ 57 := by omega
      have a3 : (97 : Int) ≤ (c.toNat : Int) := by omega
      rcases Nat.lt_or_ge 102 c.toNat with h4 | h4
      · have e : isHex c = false := by
          cases h : isHex c with
          | false => rfl
          | true => rcases isHex_iff.1 h with h | h <;> omega
        rw [e]
        have a4 : ¬ (c.toNat : Int) ≤ 102 := by omega
        clear e h1 h2 h3 h4
        go_enter Tryd.func31, Tryd.ntmps31
        go_wp2
        go_ret
        exact ⟨rfl, rfl⟩
      · have e : isHex c = true := isHex_iff.2 (by omega)
        rw [e]
        have a4 : (c.toNat : Int) ≤ 102 := by omega
        clear e h1 h2 h3 h4
        go_enter Tryd.func31, Tryd.ntmps31
        go_wp2
        go_ret
        exact ⟨rfl, rfl⟩
  · have e : isHex c = true := isHex_iff.2 (by omega)
    rw [e]
    have a1 : (48 : Int) ≤ (c.toNat : Int) := by omega
    have a2 : (c.toNat : Int) ≤ 57 := by omega
    clear e h1 h2
    go_enter Tryd.func31, Tryd.ntmps31
    go_wp2
    go_ret
    exact ⟨rfl, rfl⟩
/-- what Parse says of a text whose beginning is in order -/
def RetT (w : World) (l : List UInt8) (e : Ending) (w' : World) : Prop := (l.all isHex = true ∧ RetN 28 w (valT l) e w') ∨ (l.all isHex = false ∧ Ret0 w 14 e w')
set_option maxRecDepth 100000 in
set_option maxHeartbeats 4000000 in
theorem Parse_rest (c : UInt8) (r : List UInt8) (l : List UInt8) (hl : l = c :: r) (h8 : l.length ≤ 8192) (hhead : c ≠ 48 ∨ r = []) (w : World) :
    Calls Tryd.prog 14 #[.string (strB l)] w (RetT w l) := by
  have hinfo := info_nat
  obtain ⟨i0, hi, hz0, hz1, hz2⟩ := info_parts info_u64
  have HB : Hid (∀ o, Below w.heap.size w (w.alloc o)) := fun o => al (Below.refl _ _) (Nat.le_refl _)
  have HX : Hid (∀ o, (w.alloc o).heap[w.heap.size]? = some o) := fun o => hnew rfl
  have hemp : (strB l).toList.isEmpty = false := by rw [empty_strB, hl]; rfl
  obtain ⟨n, hn⟩ : ∃ n, n = l.length := ⟨_, rfl⟩
  have hsz : (strB l).size = n := by rw [strB_size, hn]
  have hixk : Hid (∀ (k : Nat) (d : UInt8), l[k]? = some d → ∀ w, (Instr.index 9 (.string (strB l)) (.int .i64 (k : Int))).run Tryd.prog w = .ok (B8 d) w) := fun k d hd w => idx_strB _ Tryd.underlying9 hd _ _ rfl w
  have hsl : Hid (∀ (i j : Nat), (strB l).extract i j = strB ((l.take j).drop i)) := fun i j => extract_strB l i j
  have hh : (∃ v : Int, (∀ w, (Instr.index 9 (.string (strB l)) (.int .i64 0)).run Tryd.prog w = .ok (.int .u8 v) w) ∧ (v == 48) = false) ∨ ((∀ w, (Instr.index 9 (.string (strB l)) (.int .i64 0)).run Tryd.prog w = .ok (.int .u8 48) w) ∧ ¬ (1 : Int) < (n : Int)) := by
    have h0 : ∀ w, (Instr.index 9 (.string (strB l)) (.int .i64 0)).run Tryd.prog w = .ok (B8 c) w := fun w => idx_strB _ Tryd.underlying9 (k := 0) (by rw [hl]; rfl) _ _ rfl w
    by_cases hc : c = 48
    · subst hc
      refine Or.inr ⟨h0, ?_⟩
      rcases hhead with h | h
      · exact absurd rfl h
      · rw [hn, hl, h]; decide
    · refine Or.inl ⟨_, h0, ?_⟩
      have : c.toNat ≠ 48 := fun e => hc (UInt8.toNat_inj.1 (by simpa using e))
      rw [beq_eq_false_iff_ne]; omega
  have hn0 : 0 < n := by rw [hn, hl]; simp
  have HN := Lib.hid hn
  have h81 : n ≤ 8192 := by omega
  obtain ⟨S, hS⟩ : ∃ S, S = strB l := ⟨_, rfl⟩
  rw [← hS] at hemp hsz hixk hsl hh ⊢
  clear hS hl hhead hn h8
  rcases hh with ⟨v, hix0, hv⟩ | ⟨hix0, hn1⟩
  all_goals
    go_enter Tryd.func14, Tryd.ntmps14
    go_wp2_with (simp only [hix0])
    clear hix0
    go_loop [24] (fun i => ∃ k : Nat, k ≤ n ∧ i = .int .i64 k ∧ Hid (∀ j d, j < k → l[j]? = some d → isHex d = true)) (fun i => n - (intOf i).toNat)
    case atStart => exact ⟨0, Nat.zero_le _, rfl, fun j d hj => by omega⟩
    case round =>
      obtain ⟨k, hk, rfl, hr⟩ := hrel
      by_cases hlt : k < n
      · obtain ⟨d, hd⟩ : ∃ d, l[k]? = some d := ⟨l[k]'(by have := HN.out; omega), List.getElem?_eq_getElem _⟩
        have hix := hixk.out k d hd
        have HD := Lib.hid hd
        have hlt' : (k : Int) < (n : Int) := by omega
        clear hd hlt
        cases hdx : isHex d with
        | true =>
          have HQ := Lib.hid hdx
          have hdg : ∀ w, Calls Tryd.prog 31 #[B8 d] w fun e w' => e = .returned (.bool true) ∧ w' = w := fun w => by have := digit_any d w; rwa [hdx] at this
          clear hdx
          go_wp2_with (simp only [hix])
          refine Calls.mono (hdg _) ?_
          rintro e w' ⟨rfl, rfl⟩
          go_wp2
          go_round
          case rel => exact ⟨k + 1, by omega, by go_num, fun j d' hj hd' => by
            rcases Nat.lt_or_ge j k with h | h
            · exact hr.out j d' h hd'
            · obtain rfl : j = k := by omega
              have := HD.out; rw [hd'] at this; cases this; exact HQ.out⟩
          case measure => simp [intOf]; omega
        | false =>
          have HQ : Hid (l.all isHex = false) := by
            show _ = _
            rw [List.all_eq_false]
            exact ⟨d, List.mem_of_getElem? HD.out, by rw [hdx]; decide⟩
          have hdg : ∀ w, Calls Tryd.prog 31 #[B8 d] w fun e w' => e = .returned (.bool false) ∧ w' = w := fun w => by have := digit_any d w; rwa [hdx] at this
          clear hdx
          go_wp2_with (simp only [hix])
          refine Calls.mono (hdg _) ?_
          rintro e w' ⟨rfl, rfl⟩
          go_wp2
          exact bodyPost_ret (res_cell_tmp rfl _ _ _ 24 #[.slice none 0 0] (0, 0) _ (.int .i64 14) rfl (HX.out _) rfl Tryd.underlying24 rfl hinfo) rfl (Or.inr ⟨HQ.out, rfl, HB.out _⟩)
      · obtain rfl : k = n := by omega
        have HALL : Hid (∀ d, d ∈ l → isHex d = true) := fun d hd => by
          obtain ⟨j, hj, e⟩ := List.getElem_of_mem hd
          exact hr.out j d (by have := HN.out; omega) (by rw [List.getElem?_eq_getElem hj, e])
        clear hlt hr
        have hval0 : Hid (∀ (wr : World) (r : Nat) (E : Int), True) := fun _ _ _ => trivial
        clear hval0
        go_wp2
        go_loopw [5, 6] (fun sv ev wr => ∃ (r : Nat) (E : Int) (q : Option Addr) (cq : Nat) (ws : List UInt64), sv = .slice q r cq ∧ ev = .int .i64 E ∧ -16 < E ∧ 16 * (r : Int) + E = (k : Int) ∧ Hid (wr.ownsRow (w.heap.size + 1) 28 1 (.slice q r cq) r (ws.map W64)) ∧ Hid (ws.length = r) ∧ Hid (valW ws + 18446744073709551616 ^ r * valT (l.take E.toNat) = valT l) ∧ Hid (wr.heap[w.heap.size]? = some (.cells #[.slice none 0 0] 24 (0, 0))) ∧ Hid (Below w.heap.size w wr)) (fun _ ev _ => (intOf ev).toNat)
        case atStart => exact ⟨0, k, none, 0, [], rfl, rfl, by omega, by omega, World.ownsRow_nil _ _ _ _, rfl, by
          show valW [] + _ = _
          rw [show valW [] = 0 from rfl, Int.toNat_natCast, List.take_of_length_le (by have := HN.out; omega)]; simp, HX.out _, HB.out _⟩
        case round =>
          obtain ⟨r, E, q, cq, ws, rfl, rfl, hE1, hE2, hO, hwl, hV, h0, hBw⟩ := hrel
          have hr512 : r ≤ 1000 := by omega
          by_cases hpos : 0 < E
          · obtain ⟨e, rfl⟩ : ∃ e : Nat, E = e := ⟨E.toNat, by omega⟩
            have he : e ≤ k := by omega
            obtain ⟨f, hf, hfe⟩ : ∃ f : Nat, (e < 16 ∧ f = 0 ∨ e = f + 16) ∧ f < e := by
              rcases Nat.lt_or_ge e 16 with h | h
              · exact ⟨0, Or.inl ⟨h, rfl⟩, by omega⟩
              · exact ⟨e - 16, Or.inr (by omega), by omega⟩
            have hslice := hsl.out f e
            obtain ⟨pc, hpc⟩ : ∃ pc, pc = (l.take e).drop f := ⟨_, rfl⟩
            rw [← hpc] at hslice
            have hpl : pc.length = e - f := by rw [hpc, List.length_drop, List.length_take]; have := HN.out; omega
            have hpm : ∀ d, d ∈ pc → isHex d = true := fun d hd => HALL.out d (List.mem_of_mem_take (List.mem_of_mem_drop (by rw [hpc] at hd; exact hd)))
            have hpu := ParseUint_s pc (fun h => by rw [h] at hpl; simp at hpl; omega) (by rw [hpl]; omega) hpm
            have hplt : valT pc < 18446744073709551616 := by
              have h1 := valT_lt hpm
              have h2 : 16 ^ pc.length ≤ 16 ^ 16 := Nat.pow_le_pow_right (by decide) (by rw [hpl]; omega)
              omega
            have hsplit : l.take e = l.take f ++ pc := by
              rw [hpc]
              conv => lhs; rw [← List.take_append_drop f (l.take e), List.take_take, Nat.min_eq_left (by omega : f ≤ e)]
            have hNV : Hid (valW (ws ++ [UInt64.ofNat (valT pc)]) + 18446744073709551616 ^ (r + 1) * valT (l.take (((e : Int) - 16).toNat)) = valT l) := by
              have e1 : (UInt64.ofNat (valT pc)).toNat = valT pc := by simp; omega
              have e2 : valW (ws ++ [UInt64.ofNat (valT pc)]) = valW ws + 18446744073709551616 ^ r * valT pc := by
                unfold valW
                rw [List.map_append, List.map_cons, List.map_nil, valD_snoc, List.length_map, hwl.out, e1]
              have hv := hV.out
              rw [Int.toNat_natCast] at hv
              rcases hf with ⟨h16, rfl⟩ | h16
              · rw [show ((e : Int) - 16).toNat = 0 by omega, List.take_zero]
                rw [List.take_zero, List.nil_append] at hsplit
                rw [hsplit] at hv
                rw [show valW (ws ++ [UInt64.ofNat (valT pc)]) = valW ws + 18446744073709551616 ^ r * valT pc from e2]
                exact parse_last hv
              · rw [show ((e : Int) - 16).toNat = f by omega]
                rw [hsplit] at hv
                rw [show valW (ws ++ [UInt64.ofNat (valT pc)]) = valW ws + 18446744073709551616 ^ r * valT pc from e2]
                exact parse_step hv (by rw [hpl]; omega)
            have hW64 : Hid (Value.int .u64 (valT pc : Nat) = W64 (UInt64.ofNat (valT pc))) := by
              have e1 : (UInt64.ofNat (valT pc)).toNat = valT pc := by simp; omega
              exact W64_eq (by rw [e1])
            have HPU := Lib.hid hpu
            have hszr := hBw.out.size
            obtain ⟨x, hx⟩ : ∃ x, x = valT pc := ⟨_, rfl⟩
            rw [← hx] at hNV hW64 HPU
            have hlen2 := hwl
            clear hpu hpm hpl hplt hsplit hpc hV hx
            have hext : S.extract (max ((e : Int) - 16) 0).toNat e = strB pc := by
              have : (max ((e : Int) - 16) 0).toNat = f := by omega
              rw [this]; exact hslice
            have HEXT := Lib.hid hext
            have hpe : (0 : Int) < (e : Int) := by omega
            clear hslice hext hf hfe
            go_wp2_with fail
            rw [HEXT.out]
            refine Calls.mono (HPU.out _) ?_
            rintro e' w1 ⟨rfl, hb1⟩
            have hO1 : Hid (∀ o, (w1.alloc o).ownsRow (w.heap.size + 1) 28 1 (.slice q r cq) r (ws.map W64)) := fun o => owns_keep (owns_keep hO.out hb1) (al (Below.refl _ _) (Nat.le_refl _))
            have h01 : w1.heap[w.heap.size]? = some (.cells #[.slice none 0 0] 24 (0, 0)) := (hb1.block _ (blk_lt h0.out)).trans h0.out
            have H01 := Lib.hid h01
            have HB1 : Hid (Below w.heap.size w w1) := hBw.out.trans (hb1.mono hszr)
            have hsz1 := HB1.out.size
            have hsz2 := blk_lt h01
            clear hb1 h01
            go_wp2_with (at_builtin; refine wpList_append_own _ rfl _ _ 22 rfl (w.heap.size + 1) 28 i0 (.int .u64 0) 1 8 Tryd.underlying22 hi hz0 hz1 hz2 rfl (by omega) _ r (ws.map W64) rfl (hO1.out _) ⟨w1.heap.size, 0, none⟩ 1 1 [.int .u64 (x : Nat)] rfl rfl (one_cell rfl) ?c2 ?c3 ?c4 ?c5 ?_)
            case c2 => intro y hy; simp at hy; subst hy; rfl
            case c3 => unfold maxLen; omega
            case c4 => omega
            case c5 => simp; omega
            intro v' w' ho' hg' _
            obtain ⟨q', cq', rfl⟩ := owns_shape ho'
            have FIN : Hid (w'.ownsRow (w.heap.size + 1) 28 1 (.slice q' (r + 1) cq') (r + 1) ((ws ++ [UInt64.ofNat x]).map W64) ∧ (ws ++ [UInt64.ofNat x]).length = r + 1 ∧ w'.heap[w.heap.size]? = some (.cells #[.slice none 0 0] 24 (0, 0)) ∧ Below w.heap.size w w') := by
              refine ⟨?_, by rw [List.length_append, hwl.out]; rfl, ?_, ?_⟩
              · rw [List.map_append, List.map_cons, List.map_nil, ← hW64.out]; exact ho'
              · rw [hg'.block _ (by simp; omega) (fun e9 => by have := (hO.out.lt _ e9.symm).1; omega)]
                exact hal H01.out
              · exact (al HB1.out hsz1).grown hg' (by simp; omega) (fun rr hrr => by have := (hO.out.lt rr hrr).1; omega)
            clear ho' hg' hO hwl h0 hBw
            go_wp2
            go_roundw
            case rel => exact ⟨r + 1, (e : Int) - 16, q', cq', _, rfl, rfl, by omega, by omega, FIN.out.1, FIN.out.2.1, hNV.out, FIN.out.2.2.1, FIN.out.2.2.2⟩
            case measure => simp [intOf]; omega
          · have HVF : Hid (valW ws = valT l) := by
              have := hV.out
              rw [show E.toNat = 0 by omega, List.take_zero] at this
              rw [show valT [] = 0 from rfl, Nat.mul_zero, Nat.add_zero] at this
              exact this
            have hpe : ¬ (0 : Int) < E := hpos
            have hmade := made_any _ _ _ ws wr (Sl.of_owns hO.out) (lies_of_owns hO.out)
            rw [HVF.out] at hmade
            have HM := Lib.hid hmade
            have HCap : Hid (valT l < capN) := by
              have := powW_lt ws
              rw [hwl.out, HVF.out] at this
              exact Nat.lt_of_lt_of_le this (powW_mono (by omega))
            have HALL2 : Hid (l.all isHex = true) := by show _ = _; rw [List.all_eq_true]; exact HALL.out
            have hszr := hBw.out.size
            clear hmade hpos hV hO hwl
            go_wp2_with fail
            refine Calls.mono HM.out ?_
            rintro e w5 hr
            obtain ⟨q5, n5, c5, rfl, hw5, hb5⟩ := hr.ok HCap.out
            have k2 : w5.heap[w.heap.size]? = some (.cells #[.slice none 0 0] 24 (0, 0)) := (hb5.block _ (blk_lt h0.out)).trans h0.out
            obtain ⟨_, x1, x2, x3, x4⟩ := One.of k2
            have F : Hid ((w5.setCell ⟨w.heap.size, 0, none⟩ (.slice q5 n5 c5)).heap[w.heap.size]? = some (.cells #[.slice q5 n5 c5] 24 (0, 0)) ∧ Ws 28 (w5.setCell ⟨w.heap.size, 0, none⟩ (.slice q5 n5 c5)) q5 n5 c5 (valT l) ∧ Below w.heap.size w (w5.setCell ⟨w.heap.size, 0, none⟩ (.slice q5 n5 c5))) := ⟨hss k2, hw5.set k2 (by decide), (hBw.out.trans (hb5.mono hszr)).setCell (Nat.le_refl _) _⟩
            clear hr hw5 hb5 k2 h0 hBw
            go_wp2
            exact bodyPost_ret (res_cell_tmp rfl _ _ _ 24 #[.slice q5 n5 c5] (0, 0) _ (.int .i64 0) rfl F.out.1 rfl Tryd.underlying24 rfl hinfo) rfl (Or.inl ⟨HALL2.out, _, _, _, rfl, F.out.2.1, F.out.2.2⟩)
set_option maxRecDepth 100000 in
set_option maxHeartbeats 2000000 in
theorem Parse_head (l : List UInt8) (hl : l = [] ∨ ∃ r, l = 48 :: r ∧ r ≠ []) (w : World) :
    Calls Tryd.prog 14 #[.string (strB l)] w (Ret0 w 14) := by
  have hinfo := info_nat
  have HB : Hid (∀ o, Below w.heap.size w (w.alloc o)) := fun o => al (Below.refl _ _) (Nat.le_refl _)
  have HX : Hid (∀ o, (w.alloc o).heap[w.heap.size]? = some o) := fun o => hnew rfl
  rcases hl with rfl | ⟨r, rfl, hr⟩
  · have hemp : (strB []).toList.isEmpty = true := empty_strB (l := [])
    obtain ⟨S, hS⟩ : ∃ S, S = strB [] := ⟨_, rfl⟩
    rw [← hS] at hemp ⊢
    clear hS
    go_enter Tryd.func14, Tryd.ntmps14
    go_wp2
    exact bodyPost_ret (res_cell_tmp rfl _ _ _ 24 #[.slice none 0 0] (0, 0) _ (.int .i64 14) rfl (HX.out _) rfl Tryd.underlying24 rfl hinfo) rfl ⟨rfl, HB.out _⟩
  · have hemp : (strB (48 :: r)).toList.isEmpty = false := empty_strB (l := 48 :: r)
    have hix0 : ∀ w, (Instr.index 9 (.string (strB (48 :: r))) (.int .i64 0)).run Tryd.prog w = .ok (.int .u8 48) w := fun w => idx_strB _ Tryd.underlying9 (l := 48 :: r) (k := 0) (c := 48) rfl _ _ rfl w
    have hsz := strB_size (48 :: r)
    have hlen : ((1 : Int) < (((48 : UInt8) :: r).length : Nat)) := by
      cases r with
      | nil => exact absurd rfl hr
      | cons _ _ => simp; omega
    obtain ⟨n, hn⟩ : ∃ n, n = ((48 : UInt8) :: r).length := ⟨_, rfl⟩
    rw [← hn] at hsz hlen
    obtain ⟨S, hS⟩ : ∃ S, S = strB (48 :: r) := ⟨_, rfl⟩
    rw [← hS] at hemp hix0 hsz ⊢
    clear hS hn hr
    go_enter Tryd.func14, Tryd.ntmps14
    go_wp2_with (simp only [hix0])
    exact bodyPost_ret (res_cell_tmp rfl _ _ _ 24 #[.slice none 0 0] (0, 0) _ (.int .i64 14) rfl (HX.out _) rfl Tryd.underlying24 rfl hinfo) rfl ⟨rfl, HB.out _⟩
/-- what Parse says of any text that isn't too long -/
def RetParse (w : World) (l : List UInt8) (e : Ending) (w' : World) : Prop := (goodT l = true ∧ RetN 28 w (valT l) e w') ∨ (goodT l = false ∧ Ret0 w 14 e w')
theorem Parse_any (l : List UInt8) (h8 : l.length ≤ 8192) (w : World) : Calls Tryd.prog 14 #[.string (strB l)] w (RetParse w l) := by
  cases hl : l with
  | nil => exact (Parse_head [] (Or.inl rfl) w).mono fun e w' h => Or.inr ⟨rfl, h⟩
  | cons c r =>
    by_cases h : c = 48 ∧ r ≠ []
    · obtain ⟨rfl, hr⟩ := h
      refine (Parse_head (48 :: r) (Or.inr ⟨r, rfl, hr⟩) w).mono fun e w' h => Or.inr ⟨?_, h⟩
      cases r with
      | nil => exact absurd rfl hr
      | cons _ _ => simp [goodT]
    · have hh : c ≠ 48 ∨ r = [] := by
        by_cases hc : c = 48
        · exact Or.inr (Classical.byContradiction fun hr => h ⟨hc, hr⟩)
        · exact Or.inl hc
      have hg : goodT (c :: r) = (c :: r).all isHex := by
        show ((decide (c ≠ 48) || r.isEmpty) && (c :: r).all isHex) = _
        rcases hh with hc | hr
        · rw [decide_eq_true hc]; rfl
        · rw [hr]; simp
      refine (Parse_rest c r (c :: r) rfl (by rw [← hl]; exact h8) hh w).mono fun e w' h => ?_
      rcases h with ⟨h1, h2⟩ | ⟨h1, h2⟩
      · exact Or.inl ⟨hg.trans h1, h2⟩
      · exact Or.inr ⟨hg.trans h1, h2⟩
theorem goodT_hexText (n : Nat) : goodT (hexText n) = true := by
  cases h : hexText n with
  | nil => exact absurd h (hexText_ne n)
  | cons c r =>
    show ((decide (c ≠ 48) || r.isEmpty) && (c :: r).all isHex) = true
    have h1 : (c :: r).all isHex = true := by rw [← h, List.all_eq_true]; exact hexText_hex n
    rw [h1, Bool.and_true]
    rcases hexText_head h with hc | hr
    · rw [decide_eq_true hc]; rfl
    · rw [hr]; simp
end Go.Proofs.YtmcehghbcjhkdaaDoor
