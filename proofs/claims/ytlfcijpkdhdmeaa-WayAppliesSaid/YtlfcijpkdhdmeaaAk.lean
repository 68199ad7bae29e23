/- The contract of the reference's put of layer 20. -/
import Derived.Test.YtlfcijpkdhdmeaaAj
namespace Go.Proofs.Ytlfcijpkdhdmeaa
open Go.RowKit Go.By
/-- the first k, and what is put among them -/
def putT {α : Type} (xs : List α) (k i : Nat) (x : α) : List α := if i < k then putAt (xs.take k) i x else xs.take k
theorem putT_len {α : Type} {xs : List α} {k i : Nat} {x : α} (h : k ≤ xs.length) : (putT xs k i x).length = k + (if i < k then 1 else 0) := by
  unfold putT
  split
  · rw [(putAt_perm _ _ _).length_eq, List.length_cons, List.length_take]; omega
  · rw [List.length_take]; omega
theorem putT_at {α : Type} {xs : List α} {i : Nat} {x v : α} (h : xs[i]? = some v) : putT xs (i + 1) i x = putT xs i i x ++ [x] ++ [v] := by
  obtain ⟨hk, e⟩ := List.getElem?_eq_some_iff.1 h
  unfold putT putAt
  rw [if_pos (by omega), if_neg (by omega), List.take_take, show min i (i + 1) = i by omega, List.take_succ_eq_append_getElem hk, e, List.drop_append_of_le_length (by rw [List.length_take]; omega), List.drop_eq_nil_of_le (by rw [List.length_take]; omega)]
  simp
theorem putT_not {α : Type} {xs : List α} {k i : Nat} {x v : α} (h : xs[k]? = some v) (hne : k ≠ i) : putT xs (k + 1) i x = putT xs k i x ++ [v] := by
  obtain ⟨hk, e⟩ := List.getElem?_eq_some_iff.1 h
  unfold putT putAt
  by_cases hik : i < k
  · rw [if_pos (by omega), if_pos hik, List.take_succ_eq_append_getElem hk, e, List.take_append_of_le_length (by rw [List.length_take]; omega), List.drop_append_of_le_length (by rw [List.length_take]; omega)]
    simp
  · rw [if_neg (by omega), if_neg hik, List.take_succ_eq_append_getElem hk, e]
theorem putT_all {α : Type} {xs : List α} {n i : Nat} {x : α} (h : xs.length = n) : (i < n → putT xs n i x = putAt xs (min i n) x) ∧ (n ≤ i → putT xs n i x ++ [x] = putAt xs (min i n) x) := by
  unfold putT
  rw [List.take_of_length_le (by omega)]
  refine ⟨fun hi => by rw [if_pos hi, show min i n = i by omega], fun hi => ?_⟩
  rw [if_neg (by omega), show min i n = n by omega]
  unfold putAt
  rw [List.take_of_length_le (by omega), List.drop_eq_nil_of_le (by omega)]
set_option maxRecDepth 100000 in
set_option maxHeartbeats 4000000 in
theorem put_any (p1 p2 qx : Option Addr) (n c1 c2 mx cx i : Nat) (kk : Int) (vs : List Value) (ks : List Int) (w : World) (h1 : Sl id w p1 n c1 vs) (h2 : Sl I64 w p2 n c2 ks) (hv : ∀ v, v ∈ vs → ∃ q m c, v = .slice q m c) (hn : n < 5000) :
    Calls Try.prog 34 #[.slice p1 n c1, .slice p2 n c2, .int .i64 i, .slice qx mx cx, .int .i64 kk] w (RetT w (putAt vs (min i n) (.slice qx mx cx)) (putAt ks (min i n) kk)) := by
  obtain ⟨r0, hr0, hrz, hr1, hr2⟩ := info_parts info_rows
  obtain ⟨t0, ht0, htz, ht1, ht2⟩ := info_parts info_int
  have H1 := Lib.hid h1; have H2 := Lib.hid h2; have HV := Lib.hid hv
  have b1 := h1.bound; have b2 := h2.bound
  clear h1 h2 hv
  go_enter Try.func34, Try.ntmps34
  go_wp2
  go_loopw [12, 13, 17] (fun a b i' wr => ∃ (k m : Nat) (q1 q2 : Option Addr) (d1 d2 : Nat), k ≤ n ∧ i' = .int .i64 k ∧ m ≤ k + 1 ∧ a = .slice q1 m d1 ∧ b = .slice q2 m d2 ∧ Hid (m = (putT vs k i (.slice qx mx cx)).length ∧ m = (putT ks k i kk).length) ∧
    Hid (wr.ownsRow w.heap.size 28 1 (.slice q1 m d1) m (putT vs k i (.slice qx mx cx))) ∧ Hid (wr.ownsRow w.heap.size 3 1 (.slice q2 m d2) m ((putT ks k i kk).map I64)) ∧ Hid (Below w.heap.size w wr)) (fun _ _ i' _ => n - (intOf i').toNat)
  case atStart =>
    have e : ∀ {α : Type} (xs : List α) (x : α), putT xs 0 i x = [] := fun xs x => by unfold putT; rw [if_neg (by omega)]; rfl
    exact ⟨0, 0, none, none, 0, 0, Nat.zero_le _, rfl, by omega, rfl, rfl, by rw [e, e]; exact ⟨rfl, rfl⟩, by rw [e]; exact World.ownsRow_nil _ _ _ _, by rw [e]; exact World.ownsRow_nil _ _ _ _, Below.refl _ _⟩
  case round =>
    obtain ⟨k, m, q1, q2, d1, d2, hk, rfl, hmk, rfl, rfl, hL, hO1, hO2, hB⟩ := hrel
    have hsz := hB.out.size
    by_cases hlt : k < n
    · obtain ⟨b, o, v, rfl, hc, hx⟩ := H1.out.at k hlt
      obtain ⟨b', o', y, rfl, hc', hy⟩ := H2.out.at k hlt
      obtain ⟨qv, mv, cv, rfl⟩ := HV.out v (List.mem_of_getElem? hx.out)
      have HC : Hid (w.cell? ⟨b, o + k, none⟩ = some (.slice qv mv cv)) := hc
      have HC' : Hid (w.cell? ⟨b', o' + k, none⟩ = some (I64 y)) := hc'
      have i1 : (k : Int) < (n : Int) := by omega
      clear hc hc'
      by_cases hki : k = i
      · have hb : ((k : Int) == (i : Int)) = true := by simp; omega
        have hLn : m < 5000 := by
          have := hL.out.1; rw [putT_len (by rw [H1.out.len]; omega), if_neg (by omega)] at this; omega
        have e1 : Hid (putT vs (k + 1) i (.slice qx mx cx) = putT vs k i (.slice qx mx cx) ++ [.slice qx mx cx] ++ [.slice qv mv cv]) := by subst hki; exact putT_at hx.out
        have e2 : Hid (putT ks (k + 1) i kk = putT ks k i kk ++ [kk] ++ [y]) := by subst hki; exact putT_at hy.out
        have hmk2 : m ≤ k := by have := hL.out.1; rw [putT_len (by rw [H1.out.len]; omega), if_neg (by omega)] at this; omega
        clear hki
        have hAa : Hid (∀ o, (wr.alloc o).ownsRow w.heap.size 28 1 (.slice q1 m d1) m (putT vs k i (.slice qx mx cx))) := fun o => owns_keep hO1.out (al (Below.refl _ _) (Nat.le_refl _))
        go_wp2_with (at_builtin; refine wpList_append_own _ rfl _ _ 25 rfl w.heap.size 28 r0 (.slice none 0 0) 1 24 Try.underlying25 hr0 hrz hr1 hr2 rfl (by omega) _ (m) _ rfl (hAa.out _) ⟨wr.heap.size, 0, none⟩ 1 1 [.slice qx mx cx] rfl rfl (one_cell rfl) ?c2 ?c3 ?c4 ?c5 ?_)
        case c2 => intro x hx; simp at hx; subst hx; rfl
        case c3 => unfold maxLen; omega
        case c4 => omega
        case c5 => simp; omega
        intro va wa hoa hga _
        obtain ⟨qa, da, rfl⟩ := owns_shape hoa
        have Ka : Hid (Below w.heap.size w wa) := (al hB.out hsz).grown hga (by simp; omega) (fun r hr => (hO1.out.lt r hr).1)
        have Pa : Hid (wa.ownsRow w.heap.size 3 1 (.slice q2 m d2) m ((putT ks k i kk).map I64)) := push1 (owns_keep hO2.out (al (Below.refl _ _) (Nat.le_refl _))) hga (hAa.out _)
        have Ra : Hid (wa.ownsRow w.heap.size 28 1 (.slice qa (m + 1) da) (m + 1) (putT vs k i (.slice qx mx cx) ++ [.slice qx mx cx])) := by first | exact hoa | (show World.ownsRow _ _ _ _ _ _ _; simpa using hoa)
        have sa := Ka.out.size
        clear hoa hga
        have hAb : Hid (∀ o, (wa.alloc o).ownsRow w.heap.size 3 1 (.slice q2 m d2) m ((putT ks k i kk).map I64)) := fun o => owns_keep Pa.out (al (Below.refl _ _) (Nat.le_refl _))
        go_wp2_with (at_builtin; refine wpList_append_own _ rfl _ _ 45 rfl w.heap.size 3 t0 (.int .i64 0) 1 8 Try.underlying45 ht0 htz ht1 ht2 rfl (by omega) _ (m) _ rfl (hAb.out _) ⟨wa.heap.size, 0, none⟩ 1 1 [I64 kk] rfl rfl (one_cell rfl) ?c2 ?c3 ?c4 ?c5 ?_)
        case c2 => intro x hx; simp at hx; subst hx; rfl
        case c3 => unfold maxLen; omega
        case c4 => omega
        case c5 => simp; omega
        intro vb wb hob hgb _
        obtain ⟨qb, db, rfl⟩ := owns_shape hob
        have Kb : Hid (Below w.heap.size w wb) := (al Ka.out sa).grown hgb (by simp; omega) (fun r hr => (Pa.out.lt r hr).1)
        have Rb : Hid (wb.ownsRow w.heap.size 28 1 (.slice qa ((m + 1)) da) ((m + 1)) (putT vs k i (.slice qx mx cx) ++ [.slice qx mx cx])) := push2 (owns_keep Ra.out (al (Below.refl _ _) (Nat.le_refl _))) hgb (hAb.out _)
        have Pb : Hid (wb.ownsRow w.heap.size 3 1 (.slice qb (m + 1) db) (m + 1) ((putT ks k i kk).map I64 ++ [I64 kk])) := by first | exact hob | (show World.ownsRow _ _ _ _ _ _ _; simpa using hob)
        have sb := Kb.out.size
        clear hob hgb
        have crb : wb.cell? ⟨b, o + k, none⟩ = some (.slice qv mv cv) := (Kb.out.cell (p := ⟨b, o + k, none⟩) (lt_of_cell HC.out)).trans HC.out
        have cib : wb.cell? ⟨b', o' + k, none⟩ = some (I64 y) := (Kb.out.cell (p := ⟨b', o' + k, none⟩) (lt_of_cell HC'.out)).trans HC'.out
        clear cib
        have hAc : Hid (∀ o, (wb.alloc o).ownsRow w.heap.size 28 1 (.slice qa (m + 1) da) (m + 1) (putT vs k i (.slice qx mx cx) ++ [.slice qx mx cx])) := fun o => owns_keep Rb.out (al (Below.refl _ _) (Nat.le_refl _))
        go_wp2_with (at_builtin; refine wpList_append_own _ rfl _ _ 25 rfl w.heap.size 28 r0 (.slice none 0 0) 1 24 Try.underlying25 hr0 hrz hr1 hr2 rfl (by omega) _ ((m + 1)) _ rfl (hAc.out _) ⟨wb.heap.size, 0, none⟩ 1 1 [.slice qv mv cv] rfl rfl (one_cell rfl) ?c2 ?c3 ?c4 ?c5 ?_)
        case c2 => intro x hx; simp at hx; subst hx; rfl
        case c3 => unfold maxLen; omega
        case c4 => omega
        case c5 => simp; omega
        intro vc wc hoc hgc _
        obtain ⟨qc, dc, rfl⟩ := owns_shape hoc
        have Kc : Hid (Below w.heap.size w wc) := (al Kb.out sb).grown hgc (by simp; omega) (fun r hr => (Rb.out.lt r hr).1)
        have Pc : Hid (wc.ownsRow w.heap.size 3 1 (.slice qb (m + 1) db) (m + 1) ((putT ks k i kk).map I64 ++ [I64 kk])) := push1 (owns_keep Pb.out (al (Below.refl _ _) (Nat.le_refl _))) hgc (hAc.out _)
        have Rc : Hid (wc.ownsRow w.heap.size 28 1 (.slice qc ((m + 1) + 1) dc) ((m + 1) + 1) (putT vs k i (.slice qx mx cx) ++ [.slice qx mx cx] ++ [.slice qv mv cv])) := by first | exact hoc | (show World.ownsRow _ _ _ _ _ _ _; simpa using hoc)
        have sc := Kc.out.size
        clear hoc hgc
        have crc : wc.cell? ⟨b, o + k, none⟩ = some (.slice qv mv cv) := (Kc.out.cell (p := ⟨b, o + k, none⟩) (lt_of_cell HC.out)).trans HC.out
        have cic : wc.cell? ⟨b', o' + k, none⟩ = some (I64 y) := (Kc.out.cell (p := ⟨b', o' + k, none⟩) (lt_of_cell HC'.out)).trans HC'.out
        clear crc crb
        have hAd : Hid (∀ o, (wc.alloc o).ownsRow w.heap.size 3 1 (.slice qb (m + 1) db) (m + 1) ((putT ks k i kk).map I64 ++ [I64 kk])) := fun o => owns_keep Pc.out (al (Below.refl _ _) (Nat.le_refl _))
        go_wp2_with (at_builtin; refine wpList_append_own _ rfl _ _ 45 rfl w.heap.size 3 t0 (.int .i64 0) 1 8 Try.underlying45 ht0 htz ht1 ht2 rfl (by omega) _ ((m + 1)) _ rfl (hAd.out _) ⟨wc.heap.size, 0, none⟩ 1 1 [I64 y] rfl rfl (one_cell rfl) ?c2 ?c3 ?c4 ?c5 ?_)
        case c2 => intro x hx; simp at hx; subst hx; rfl
        case c3 => unfold maxLen; omega
        case c4 => omega
        case c5 => simp; omega
        intro vd wd hod hgd _
        obtain ⟨qd, dd, rfl⟩ := owns_shape hod
        have Kd : Hid (Below w.heap.size w wd) := (al Kc.out sc).grown hgd (by simp; omega) (fun r hr => (Pc.out.lt r hr).1)
        have Rd : Hid (wd.ownsRow w.heap.size 28 1 (.slice qc ((m + 1 + 1)) dc) ((m + 1 + 1)) (putT vs k i (.slice qx mx cx) ++ [.slice qx mx cx] ++ [.slice qv mv cv])) := push2 (owns_keep Rc.out (al (Below.refl _ _) (Nat.le_refl _))) hgd (hAd.out _)
        have Pd : Hid (wd.ownsRow w.heap.size 3 1 (.slice qd ((m + 1) + 1) dd) ((m + 1) + 1) ((putT ks k i kk).map I64 ++ [I64 kk] ++ [I64 y])) := by first | exact hod | (show World.ownsRow _ _ _ _ _ _ _; simpa using hod)
        have sd := Kd.out.size
        clear hod hgd
        clear cic
        go_wp2
        go_roundw
        case rel => exact ⟨k + 1, m + 1 + 1, qc, qd, dc, dd, by omega, by go_num, by omega, rfl, rfl, by rw [e1.out, e2.out]; simp only [List.length_append, List.length_cons, List.length_nil]; have := hL.out; exact ⟨by omega, by omega⟩, by rw [e1.out]; exact Rd.out, by rw [e2.out, List.map_append, List.map_append]; exact Pd.out, Kd.out⟩
        case measure => simp [intOf]; omega
      · have hb : ((k : Int) == (i : Int)) = false := by simp; omega
        have hLn : m < 5002 := by
          have := hL.out.1; rw [putT_len (by rw [H1.out.len]; omega)] at this; split at this <;> omega
        have e1 : Hid (putT vs (k + 1) i (.slice qx mx cx) = putT vs k i (.slice qx mx cx) ++ [.slice qv mv cv]) := putT_not hx.out hki
        have e2 : Hid (putT ks (k + 1) i kk = putT ks k i kk ++ [y]) := putT_not hy.out hki
        clear hki
        have crr : wr.cell? ⟨b, o + k, none⟩ = some (.slice qv mv cv) := (hB.out.cell (p := ⟨b, o + k, none⟩) (lt_of_cell HC.out)).trans HC.out
        have cir : wr.cell? ⟨b', o' + k, none⟩ = some (I64 y) := (hB.out.cell (p := ⟨b', o' + k, none⟩) (lt_of_cell HC'.out)).trans HC'.out
        clear cir
        have hAa : Hid (∀ o, (wr.alloc o).ownsRow w.heap.size 28 1 (.slice q1 m d1) m (putT vs k i (.slice qx mx cx))) := fun o => owns_keep hO1.out (al (Below.refl _ _) (Nat.le_refl _))
        go_wp2_with (at_builtin; refine wpList_append_own _ rfl _ _ 25 rfl w.heap.size 28 r0 (.slice none 0 0) 1 24 Try.underlying25 hr0 hrz hr1 hr2 rfl (by omega) _ (m) _ rfl (hAa.out _) ⟨wr.heap.size, 0, none⟩ 1 1 [.slice qv mv cv] rfl rfl (one_cell rfl) ?c2 ?c3 ?c4 ?c5 ?_)
        case c2 => intro x hx; simp at hx; subst hx; rfl
        case c3 => unfold maxLen; omega
        case c4 => omega
        case c5 => simp; omega
        intro va wa hoa hga _
        obtain ⟨qa, da, rfl⟩ := owns_shape hoa
        have Ka : Hid (Below w.heap.size w wa) := (al hB.out hsz).grown hga (by simp; omega) (fun r hr => (hO1.out.lt r hr).1)
        have Pa : Hid (wa.ownsRow w.heap.size 3 1 (.slice q2 m d2) m ((putT ks k i kk).map I64)) := push1 (owns_keep hO2.out (al (Below.refl _ _) (Nat.le_refl _))) hga (hAa.out _)
        have Ra : Hid (wa.ownsRow w.heap.size 28 1 (.slice qa (m + 1) da) (m + 1) (putT vs k i (.slice qx mx cx) ++ [.slice qv mv cv])) := by first | exact hoa | (show World.ownsRow _ _ _ _ _ _ _; simpa using hoa)
        have sa := Ka.out.size
        clear hoa hga
        have cra : wa.cell? ⟨b, o + k, none⟩ = some (.slice qv mv cv) := (Ka.out.cell (p := ⟨b, o + k, none⟩) (lt_of_cell HC.out)).trans HC.out
        have cia : wa.cell? ⟨b', o' + k, none⟩ = some (I64 y) := (Ka.out.cell (p := ⟨b', o' + k, none⟩) (lt_of_cell HC'.out)).trans HC'.out
        clear cra crr
        have hAb : Hid (∀ o, (wa.alloc o).ownsRow w.heap.size 3 1 (.slice q2 m d2) m ((putT ks k i kk).map I64)) := fun o => owns_keep Pa.out (al (Below.refl _ _) (Nat.le_refl _))
        go_wp2_with (at_builtin; refine wpList_append_own _ rfl _ _ 45 rfl w.heap.size 3 t0 (.int .i64 0) 1 8 Try.underlying45 ht0 htz ht1 ht2 rfl (by omega) _ (m) _ rfl (hAb.out _) ⟨wa.heap.size, 0, none⟩ 1 1 [I64 y] rfl rfl (one_cell rfl) ?c2 ?c3 ?c4 ?c5 ?_)
        case c2 => intro x hx; simp at hx; subst hx; rfl
        case c3 => unfold maxLen; omega
        case c4 => omega
        case c5 => simp; omega
        intro vb wb hob hgb _
        obtain ⟨qb, db, rfl⟩ := owns_shape hob
        have Kb : Hid (Below w.heap.size w wb) := (al Ka.out sa).grown hgb (by simp; omega) (fun r hr => (Pa.out.lt r hr).1)
        have Rb : Hid (wb.ownsRow w.heap.size 28 1 (.slice qa ((m + 1)) da) ((m + 1)) (putT vs k i (.slice qx mx cx) ++ [.slice qv mv cv])) := push2 (owns_keep Ra.out (al (Below.refl _ _) (Nat.le_refl _))) hgb (hAb.out _)
        have Pb : Hid (wb.ownsRow w.heap.size 3 1 (.slice qb (m + 1) db) (m + 1) ((putT ks k i kk).map I64 ++ [I64 y])) := by first | exact hob | (show World.ownsRow _ _ _ _ _ _ _; simpa using hob)
        have sb := Kb.out.size
        clear hob hgb
        clear cia
        go_wp2
        go_roundw
        case rel => exact ⟨k + 1, m + 1, qa, qb, da, db, by omega, by go_num, by omega, rfl, rfl, by rw [e1.out, e2.out]; simp only [List.length_append, List.length_cons, List.length_nil]; have := hL.out; exact ⟨by omega, by omega⟩, by rw [e1.out]; exact Rb.out, by rw [e2.out, List.map_append]; exact Pb.out, Kb.out⟩
        case measure => simp [intOf]; omega
    · have hkn : k = n := by omega
      subst hkn
      have hLn : m < 5002 := by omega
      obtain ⟨a1, a2⟩ := putT_all (i := i) (x := Value.slice qx mx cx) H1.out.len
      obtain ⟨a3, a4⟩ := putT_all (i := i) (x := kk) H2.out.len
      by_cases hik : i < k
      · have hb : (i : Int) < (k : Int) := by omega
        have E1 := Lib.hid (a1 hik); have E2 := Lib.hid (a3 hik)
        rw [E1.out] at hL hO1; rw [E2.out] at hL hO2
        have hfin : Hid (RetT w (putAt vs (min i k) (.slice qx mx cx)) (putAt ks (min i k) kk) (.returned (.tuple #[.slice q1 m d1, .slice q2 m d2])) wr) :=
          ⟨q1, d1, q2, d2, by rw [← hL.out.1, ← hL.out.2], by rw [← hL.out.1]; exact hO1.out, by rw [← hL.out.2]; exact hO2.out, hB.out⟩
        clear a1 a2 a3 a4
        go_wp2
        go_ret2
        exact hfin.out
      · have hb : (k : Int) ≤ (i : Int) := by omega
        have E1 := Lib.hid (a2 (by omega)); have E2 := Lib.hid (a4 (by omega))
        clear a1 a2 a3 a4 hik
        have hAa : Hid (∀ o, (wr.alloc o).ownsRow w.heap.size 28 1 (.slice q1 m d1) m (putT vs k i (.slice qx mx cx))) := fun o => owns_keep hO1.out (al (Below.refl _ _) (Nat.le_refl _))
        go_wp2_with (at_builtin; refine wpList_append_own _ rfl _ _ 25 rfl w.heap.size 28 r0 (.slice none 0 0) 1 24 Try.underlying25 hr0 hrz hr1 hr2 rfl (by omega) _ (m) _ rfl (hAa.out _) ⟨wr.heap.size, 0, none⟩ 1 1 [.slice qx mx cx] rfl rfl (one_cell rfl) ?c2 ?c3 ?c4 ?c5 ?_)
        case c2 => intro x hx; simp at hx; subst hx; rfl
        case c3 => unfold maxLen; omega
        case c4 => omega
        case c5 => simp; omega
        intro va wa hoa hga _
        obtain ⟨qa, da, rfl⟩ := owns_shape hoa
        have Ka : Hid (Below w.heap.size w wa) := (al hB.out hsz).grown hga (by simp; omega) (fun r hr => (hO1.out.lt r hr).1)
        have Pa : Hid (wa.ownsRow w.heap.size 3 1 (.slice q2 m d2) m ((putT ks k i kk).map I64)) := push1 (owns_keep hO2.out (al (Below.refl _ _) (Nat.le_refl _))) hga (hAa.out _)
        have Ra : Hid (wa.ownsRow w.heap.size 28 1 (.slice qa (m + 1) da) (m + 1) (putT vs k i (.slice qx mx cx) ++ [.slice qx mx cx])) := by first | exact hoa | (show World.ownsRow _ _ _ _ _ _ _; simpa using hoa)
        have sa := Ka.out.size
        clear hoa hga
        have hAb : Hid (∀ o, (wa.alloc o).ownsRow w.heap.size 3 1 (.slice q2 m d2) m ((putT ks k i kk).map I64)) := fun o => owns_keep Pa.out (al (Below.refl _ _) (Nat.le_refl _))
        go_wp2_with (at_builtin; refine wpList_append_own _ rfl _ _ 45 rfl w.heap.size 3 t0 (.int .i64 0) 1 8 Try.underlying45 ht0 htz ht1 ht2 rfl (by omega) _ (m) _ rfl (hAb.out _) ⟨wa.heap.size, 0, none⟩ 1 1 [I64 kk] rfl rfl (one_cell rfl) ?c2 ?c3 ?c4 ?c5 ?_)
        case c2 => intro x hx; simp at hx; subst hx; rfl
        case c3 => unfold maxLen; omega
        case c4 => omega
        case c5 => simp; omega
        intro vb wb hob hgb _
        obtain ⟨qb, db, rfl⟩ := owns_shape hob
        have Kb : Hid (Below w.heap.size w wb) := (al Ka.out sa).grown hgb (by simp; omega) (fun r hr => (Pa.out.lt r hr).1)
        have Rb : Hid (wb.ownsRow w.heap.size 28 1 (.slice qa ((m + 1)) da) ((m + 1)) (putT vs k i (.slice qx mx cx) ++ [.slice qx mx cx])) := push2 (owns_keep Ra.out (al (Below.refl _ _) (Nat.le_refl _))) hgb (hAb.out _)
        have Pb : Hid (wb.ownsRow w.heap.size 3 1 (.slice qb (m + 1) db) (m + 1) ((putT ks k i kk).map I64 ++ [I64 kk])) := by first | exact hob | (show World.ownsRow _ _ _ _ _ _ _; simpa using hob)
        have sb := Kb.out.size
        clear hob hgb
        have hfin : Hid (RetT w (putAt vs (min i k) (.slice qx mx cx)) (putAt ks (min i k) kk) (.returned (.tuple #[.slice qa (m + 1) da, .slice qb (m + 1) db])) wb) := by
          have l1 : (putAt vs (min i k) (.slice qx mx cx)).length = m + 1 := by rw [← E1.out, List.length_append, ← hL.out.1]; rfl
          have l2 : (putAt ks (min i k) kk).length = m + 1 := by rw [← E2.out, List.length_append, ← hL.out.2]; rfl
          refine ⟨qa, da, qb, db, by rw [l1, l2], ?_, ?_, Kb.out⟩
          · rw [l1, ← E1.out]; exact Rb.out
          · rw [l2, ← E2.out, List.map_append]; exact Pb.out
        go_wp2
        go_ret2
        exact hfin.out
end Go.Proofs.Ytlfcijpkdhdmeaa
