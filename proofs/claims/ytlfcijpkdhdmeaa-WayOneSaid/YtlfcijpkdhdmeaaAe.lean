/- The contracts of Apply and Whole. -/
import Derived.Test.YtlfcijpkdhdmeaaAd
namespace Go.Proofs.Ytlfcijpkdhdmeaa
open Go.RowKit Go.By
theorem info_rows : (Try.prog.info? 28).map (fun i => (i.zero, i.size, i.bytes)) = some (some (.slice none 0 0), 1, 24) := by kernel_rfl
theorem info_int : (Try.prog.info? 3).map (fun i => (i.zero, i.size, i.bytes)) = some (some (.int .i64 0), 1, 8) := by kernel_rfl
theorem ne_types2 : (5 : Nat) ≠ 28 := by decide
/-- rows in new memory -/
def RetRows (w : World) (xss : List (List UInt8)) (e : Ending) (w' : World) : Prop :=
  ∃ q c, e = .returned (.slice q xss.length c) ∧ Own2 28 5 w' w.heap.size (.slice q xss.length c) xss.length xss ∧ Below w.heap.size w w'
/-- ints in new memory -/
def RetInts (w : World) (ks : List Int) (e : Ending) (w' : World) : Prop :=
  ∃ q c, e = .returned (.slice q ks.length c) ∧ w'.ownsRow w.heap.size 3 1 (.slice q ks.length c) ks.length (ks.map (Value.int .i64)) ∧ Below w.heap.size w w'
theorem take_map_snoc {α β : Type} (f : α → β) {ts : List α} {k : Nat} {t : α} (h : ts[k]? = some t) : (ts.take (k + 1)).map f = (ts.take k).map f ++ [f t] := by
  obtain ⟨hk, e⟩ := List.getElem?_eq_some_iff.1 h
  rw [List.take_succ_eq_append_getElem hk, e, List.map_append]; rfl
set_option maxRecDepth 100000 in
set_option maxHeartbeats 2000000 in
theorem Apply_any (p1 p2 : Option Addr) (n1 c1 n2 c2 : Nat) (xss : List (List UInt8)) (acs : List ActD) (w : World) (h1 : Sl2 w p1 n1 c1 xss) (h2 : SlA w p2 n2 c2 acs) (hr : ∀ xs, xs ∈ xss → Room xs.length) (hra : ∀ a, a ∈ acs → Room a.bs.length) (hlen : n1 + n2 < 4096) :
    Calls Try.prog 16 #[.slice p1 n1 c1, .slice p2 n2 c2] w (RetRows w ((playS (initS xss) acs).map (·.1))) := by
  obtain ⟨i0, hi0, hz0, hz1, hz2⟩ := info_parts info_rows
  have HC := Lib.hid (play_any p1 p2 n1 c1 n2 c2 xss acs w h1 h2 hr hra hlen)
  have HL : Hid ((playS (initS xss) acs).length < 4096) := by
    have := playS_len (initS xss) acs
    rw [initS_len, h1.len, h2.len] at this; show _ < _; omega
  clear h1 h2 hr hra hlen
  generalize playS (initS xss) acs = PS at *
  go_enter Try.func16, Try.ntmps16
  go_wp2_with fail
  refine Calls.mono HC.out ?_; rintro e w1 ⟨u, ss, rfl, hP, hS, hB⟩
  obtain ⟨q, c, rfl⟩ := Pl.shape hP
  have HP := Lib.hid hP; have HS := Lib.hid hS; have HB := Lib.hid hB
  have hl4 := HL.out
  have hsl : Hid (ss.length = PS.length) := hP.len
  clear hP hS hB
  obtain ⟨n, hn⟩ : ∃ n, n = PS.length := ⟨_, rfl⟩
  rw [← hn] at HP hl4 hsl ⊢
  have HN := Lib.hid hn; clear hn
  go_wp2
  go_loopw [5, 12] (fun v i wr => ∃ (k : Nat) (vs : List Value) (uq : Option Addr) (uc : Nat), k ≤ n ∧ i = .int .i64 k ∧ v = .slice uq k uc ∧ Hid (wr.ownsRow w.heap.size 28 1 (.slice uq k uc) k vs) ∧ Hid (vs = (ss.take k).map (·.1)) ∧ Hid (Below w.heap.size w wr) ∧
    Hid (PL wr w.heap.size (.slice q n c) n ss)) (fun _ i _ => n - (intOf i).toNat)
  case atStart => exact ⟨0, [], none, 0, Nat.zero_le _, rfl, rfl, World.ownsRow_nil _ _ _ _, rfl, HB.out, HP.out⟩
  case round =>
    obtain ⟨k, vs, uq, uc, hk, rfl, rfl, hO, hV, hBw, hPw⟩ := hrel
    by_cases hlt : k < n
    · obtain ⟨t, ht⟩ : ∃ t, ss[k]? = some t := ⟨_, List.getElem?_eq_getElem (by rw [hsl.out]; exact hlt)⟩
      obtain ⟨g, cur, rfl, hg, -⟩ := owns2_open hPw.out.own (by omega)
      obtain ⟨y0, y1⟩ := par_cells hPw.out ht
      obtain ⟨q1, m1, c1', e1, hrow⟩ := hPw.out.row t (List.mem_of_getElem? ht)
      rw [e1] at y0
      have i1 : (k : Int) < (n : Int) := by omega
      have hsz := hBw.out.size
      have hVS := Lib.hid (take_map_snoc (·.1) ht)
      have HE1 := Lib.hid e1
      clear e1 hrow ht
      have hOA : Hid (∀ o1 o2, ((wr.alloc o1).alloc o2).ownsRow w.heap.size 28 1 (.slice uq k uc) k vs) := fun o1 o2 => owns_keep hO.out (al (al (Below.refl _ _) (Nat.le_refl _)) (by simp))
      go_wp2_with (at_builtin; refine wpList_append_own _ rfl _ _ 25 rfl w.heap.size 28 i0 (.slice none 0 0) 1 24 Try.underlying25 hi0 hz0 hz1 hz2 rfl (by omega) _ k vs rfl (hOA.out _ _) ⟨wr.heap.size + 1, 0, none⟩ 1 1 [.slice q1 m1 c1'] rfl rfl ?c1 ?c2 ?c3 ?c4 ?c5 ?_)
      case c1 =>
        intro j x hj
        rw [Addr.add_lit, Nat.zero_add, cell_of_row _ _ j _ _ _ (hnew (by simp))]
        match j with
        | 0 => simpa using hj
        | j + 1 => simp at hj
      case c2 => intro x hx; simp at hx; subst hx; rfl
      case c3 => unfold maxLen; omega
      case c4 => omega
      case c5 => simp; omega
      intro v' w' ho' hg' _
      obtain ⟨uq', uc', rfl⟩ := owns_shape ho'
      have FIN : Hid (Below w.heap.size w w' ∧ PL w' w.heap.size (.slice (some ⟨g, 0, none⟩) n c) n ss) := by
        have hb2 := fun o1 o2 => al (o := o2) (al (o := o1) (Below.refl wr.heap.size wr) (Nat.le_refl _)) (by simp)
        refine ⟨(hBw.out.trans ((hb2 _ _).mono hsz)).grown hg' (by simp; omega) (fun r hr => (hO.out.lt r hr).1), ?_⟩
        have hpk := hPw.out.keep (hb2 (.cells #[.slice q1 m1 c1', .int .i64 t.2.1] 71) (.cells #[.slice q1 m1 c1'] 28))
        refine ⟨hpk.len, owns_kept hpk.own hg' (owns_ne hpk.own (hOA.out _ _) (by decide)), fun s hs => ?_, hpk.dis⟩
        obtain ⟨q3, m3, c3, e3, hr3⟩ := hpk.row s hs
        exact ⟨q3, m3, c3, e3, owns_kept hr3 hg' (owns_ne hr3 (hOA.out _ _) ne_types2)⟩
      have HO' := Lib.hid ho'
      clear ho' hg'
      go_wp2
      go_roundw
      case rel => exact ⟨k + 1, _, uq', uc', by omega, by go_num, rfl, HO'.out, by rw [Hid, hVS.out, hV.out, HE1.out], FIN.out.1, FIN.out.2⟩
      case measure => simp [intOf]; omega
    · have hkn : k = n := by omega
      subst hkn
      have hfin : Hid (RetRows w (PS.map (·.1)) (.returned (.slice uq k uc)) wr) := by
        have hl : (PS.map (·.1)).length = k := by rw [List.length_map, HN.out]
        refine ⟨uq, uc, by rw [hl], ?_, hBw.out⟩
        rw [hl]
        refine ⟨vs, hO.out, hl, fun jx val hj => ?_⟩
        rw [hV.out, List.getElem?_map, List.getElem?_take] at hj
        split at hj
        · cases ht : ss[jx]? with
          | none => rw [ht] at hj; simp at hj
          | some t =>
            rw [ht] at hj
            simp at hj
            obtain ⟨q3, m3, c3, e3, hr3⟩ := hPw.out.row t (List.mem_of_getElem? ht)
            have hm3 : m3 = t.2.2.length := by have := hr3.1; simp at this; exact this.symm
            subst hm3
            refine ⟨t.2.2, q3, c3, ?_, by rw [← hj, e3], hr3⟩
            rw [← HS.out, List.map_map, List.getElem?_map, ht]; rfl
        · simp at hj
      go_wp2
      go_ret
      exact hfin.out
end Go.Proofs.Ytlfcijpkdhdmeaa
