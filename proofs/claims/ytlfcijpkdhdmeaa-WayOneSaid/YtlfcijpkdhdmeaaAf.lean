/- The contracts of Whole, of slices.Equal at ints, of Harms; of the law's Few; the chapter's example. -/
import Derived.Test.YtlfcijpkdhdmeaaAe
namespace Go.Proofs.Ytlfcijpkdhdmeaa
open Go.RowKit Go.By
set_option maxRecDepth 100000 in
set_option maxHeartbeats 2000000 in
theorem Whole_any (p1 p2 : Option Addr) (n1 c1 n2 c2 : Nat) (xss : List (List UInt8)) (acs : List ActD) (w : World) (h1 : Sl2 w p1 n1 c1 xss) (h2 : SlA w p2 n2 c2 acs) (hr : ∀ xs, xs ∈ xss → Room xs.length) (hra : ∀ a, a ∈ acs → Room a.bs.length) (hlen : n1 + n2 < 4096) :
    Calls Try.prog 20 #[.slice p1 n1 c1, .slice p2 n2 c2] w (RetInts w ((playS (initS xss) acs).map (·.2))) := by
  obtain ⟨i0, hi0, hz0, hz1, hz2⟩ := info_parts info_int
  have HC := Lib.hid (play_any p1 p2 n1 c1 n2 c2 xss acs w h1 h2 hr hra hlen)
  have HL : Hid ((playS (initS xss) acs).length < 4096) := by
    have := playS_len (initS xss) acs
    rw [initS_len, h1.len, h2.len] at this; show _ < _; omega
  clear h1 h2 hr hra hlen
  generalize playS (initS xss) acs = PS at *
  go_enter Try.func20, Try.ntmps20
  go_wp2_with fail
  refine Calls.mono HC.out ?_; rintro e w1 ⟨u, ss, rfl, hP, hS, hB⟩
  obtain ⟨q, c, rfl⟩ := Pl.shape hP
  have HP := Lib.hid hP; have HS := Lib.hid hS; have HB := Lib.hid hB
  have hl4 := HL.out
  have hsl : Hid (ss.length = PS.length) := hP.len
  clear hP hS hB
  obtain ⟨n, hn⟩ : ∃ n, n = PS.length := ⟨_, rfl⟩
  rw [← hn] at HP hl4 hsl ⊢
  have HN := Lib.hid hn; clear hn
  go_wp2
  go_loopw [5, 12] (fun v i wr => ∃ (k : Nat) (vs : List Value) (uq : Option Addr) (uc : Nat), k ≤ n ∧ i = .int .i64 k ∧ v = .slice uq k uc ∧ Hid (wr.ownsRow w.heap.size 3 1 (.slice uq k uc) k vs) ∧ Hid (vs = (ss.take k).map (fun t => Value.int .i64 t.2.1)) ∧ Hid (Below w.heap.size w wr) ∧
    Hid (PL wr w.heap.size (.slice q n c) n ss)) (fun _ i _ => n - (intOf i).toNat)
  case atStart => exact ⟨0, [], none, 0, Nat.zero_le _, rfl, rfl, World.ownsRow_nil _ _ _ _, rfl, HB.out, HP.out⟩
  case round =>
    obtain ⟨k, vs, uq, uc, hk, rfl, rfl, hO, hV, hBw, hPw⟩ := hrel
    by_cases hlt : k < n
    · obtain ⟨t, ht⟩ : ∃ t, ss[k]? = some t := ⟨_, List.getElem?_eq_getElem (by rw [hsl.out]; exact hlt)⟩
      obtain ⟨g, cur, rfl, hg, -⟩ := owns2_open hPw.out.own (by omega)
      obtain ⟨y0, y1⟩ := par_cells hPw.out ht
      obtain ⟨q1, m1, c1', e1, hrow⟩ := hPw.out.row t (List.mem_of_getElem? ht)
      rw [e1] at y0
      have i1 : (k : Int) < (n : Int) := by omega
      have hsz := hBw.out.size
      have hVS := Lib.hid (take_map_snoc (fun t : Par => Value.int .i64 t.2.1) ht)
      clear e1 hrow ht
      have hOA : Hid (∀ o1 o2, ((wr.alloc o1).alloc o2).ownsRow w.heap.size 3 1 (.slice uq k uc) k vs) := fun o1 o2 => owns_keep hO.out (al (al (Below.refl _ _) (Nat.le_refl _)) (by simp))
      go_wp2_with (at_builtin; refine wpList_append_own _ rfl _ _ 45 rfl w.heap.size 3 i0 (.int .i64 0) 1 8 Try.underlying45 hi0 hz0 hz1 hz2 rfl (by omega) _ k vs rfl (hOA.out _ _) ⟨wr.heap.size + 1, 0, none⟩ 1 1 [.int .i64 t.2.1] rfl rfl ?c1 ?c2 ?c3 ?c4 ?c5 ?_)
      case c1 =>
        intro j x hj
        rw [Addr.add_lit, Nat.zero_add, cell_of_row _ _ j _ _ _ (hnew (by simp))]
        match j with
        | 0 => simpa using hj
        | j + 1 => simp at hj
      case c2 => intro x hx; simp at hx; subst hx; rfl
      case c3 => unfold maxLen; omega
      case c4 => omega
      case c5 => simp; omega
      intro v' w' ho' hg' _
      obtain ⟨uq', uc', rfl⟩ := owns_shape ho'
      have FIN : Hid (Below w.heap.size w w' ∧ PL w' w.heap.size (.slice (some ⟨g, 0, none⟩) n c) n ss) := by
        have hb2 := fun o1 o2 => al (o := o2) (al (o := o1) (Below.refl wr.heap.size wr) (Nat.le_refl _)) (by simp)
        refine ⟨(hBw.out.trans ((hb2 _ _).mono hsz)).grown hg' (by simp; omega) (fun r hr => (hO.out.lt r hr).1), ?_⟩
        have hpk := hPw.out.keep (hb2 (.cells #[.slice q1 m1 c1', .int .i64 t.2.1] 71) (.cells #[.int .i64 t.2.1] 3))
        refine ⟨hpk.len, owns_kept hpk.own hg' (owns_ne hpk.own (hOA.out _ _) (by decide)), fun s hs => ?_, hpk.dis⟩
        obtain ⟨q3, m3, c3, e3, hr3⟩ := hpk.row s hs
        exact ⟨q3, m3, c3, e3, owns_kept hr3 hg' (owns_ne hr3 (hOA.out _ _) (by decide))⟩
      have HO' := Lib.hid ho'
      clear ho' hg'
      go_wp2
      go_roundw
      case rel => exact ⟨k + 1, _, uq', uc', by omega, by go_num, rfl, HO'.out, by rw [Hid, hVS.out, hV.out], FIN.out.1, FIN.out.2⟩
      case measure => simp [intOf]; omega
    · have hkn : k = n := by omega
      subst hkn
      have hfin : Hid (RetInts w (PS.map (·.2)) (.returned (.slice uq k uc)) wr) := by
        have hl : (PS.map (·.2)).length = k := by rw [List.length_map, HN.out]
        refine ⟨uq, uc, by rw [hl], ?_, hBw.out⟩
        rw [hl]
        have e : (PS.map (·.2)).map (Value.int .i64) = vs := by
          rw [hV.out, ← HS.out, List.take_of_length_le (by rw [hsl.out]; omega), List.map_map, List.map_map]; rfl
        rw [e]; exact hO.out
      go_wp2
      go_ret
      exact hfin.out
def harmsS (d : Int) : Bool := decide (d = 3) || decide (d = 4) || decide (d = 5)
set_option maxHeartbeats 1000000 in
theorem Harms_any (d i j b : Int) (av : Value) (w : World) :
    Calls Try.prog 17 #[actV d i j b av] w fun e w' => e = .returned (.bool (harmsS d)) ∧ Below w.heap.size w w' := by
  by_cases h3 : d = 3
  · subst h3
    go_enter Try.func17, Try.ntmps17
    go_wp2
    go_ret
    exact ⟨rfl, al (Below.refl _ _) (Nat.le_refl _)⟩
  · by_cases h4 : d = 4
    · subst h4
      go_enter Try.func17, Try.ntmps17
      go_wp2
      go_ret
      exact ⟨rfl, al (Below.refl _ _) (Nat.le_refl _)⟩
    · have e3 : (d == 3) = false := by simpa using h3
      have e4 : (d == 4) = false := by simpa using h4
      have HR : Hid (harmsS d = (d == 5)) := by unfold harmsS; rw [Hid, decide_eq_false h3, decide_eq_false h4]; simp; rfl
      clear h3 h4
      go_enter Try.func17, Try.ntmps17
      go_wp2
      go_ret
      exact ⟨by rw [HR.out]; rfl, al (Below.refl _ _) (Nat.le_refl _)⟩
end Go.Proofs.Ytlfcijpkdhdmeaa
