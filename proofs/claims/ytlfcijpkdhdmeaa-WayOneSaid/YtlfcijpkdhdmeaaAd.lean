/- The contract of play. -/
import Derived.Test.YtlfcijpkdhdmeaaAc
import Derived.Deep.RegionWith
namespace Go.Proofs.Ytlfcijpkdhdmeaa
open Go.RowKit Go.By
def zp : Par := (.slice none 0 0, 0, [])
theorem made_two (x y : Value) (n : Nat) : (madeCells #[x, y] (n * 2)).toList = (List.replicate n [x, y]).flatten := by
  apply List.ext_getElem
  · simp [madeCells]
  · intro j h1 h2
    simp only [madeCells, Array.toList_map, List.getElem_map, Array.toList_range, List.getElem_range]
    have e : ∀ n j : Nat, j < n * 2 → (List.replicate n [x, y]).flatten[j]? = some (#[x, y][j % 2]!) := by
      intro n
      induction n with
      | zero => intro j hj; omega
      | succ n ih =>
        intro j hj
        rw [List.replicate_succ, List.flatten_cons]
        match j with
        | 0 => rfl
        | 1 => rfl
        | j + 2 =>
          rw [List.getElem?_append_right (by simp)]
          have := ih j (by omega)
          simpa using this
    have h3 := e n j (by simpa [madeCells] using h1)
    rw [List.getElem?_eq_getElem h2] at h3
    exact (Option.some.inj h3).symm
theorem pcs_zero (n : Nat) : pcs ((List.replicate n zp).map parOf) = (List.replicate n [Value.slice none 0 0, .int .i64 0]).flatten := by
  rw [List.map_replicate]
  simp [pcs, List.flatMap_replicate, zp, parOf]
theorem pl_made {w : World} {base n : Nat} {v : Value} (h : w.ownsRow base 71 2 v n (madeCells #[.slice none 0 0, .int .i64 0] (n * 2)).toList) : PL w base v n (List.replicate n zp) := by
  refine ⟨by simp, by rw [pcs_zero, ← made_two]; exact h, fun t ht => ?_, ?_⟩
  · obtain rfl := List.eq_of_mem_replicate ht
    exact ⟨none, 0, 0, rfl, World.ownsRow_nil _ _ _ _⟩
  · have : blks (List.replicate n zp) = [] := by
      rw [blks, List.filterMap_eq_nil_iff]
      intro t ht
      obtain rfl := List.eq_of_mem_replicate ht
      rfl
    rw [this]; exact List.nodup_nil
def doesV : Array Value := #[.func (.func 46) #[] #[], .func (.func 47) #[] #[], .func (.func 48) #[] #[], .func (.func 49) #[] #[], .func (.func 50) #[] #[], .func (.func 51) #[] #[]]
theorem does_ones : doesV.all (·.oneCell') = true := by simp [doesV, Value.oneCell']
theorem info_does : (Try.prog.info? 86).map (·.size) = some 6 := by kernel_rfl
theorem Pl.mono {w : World} {base base' n : Nat} {v : Value} {ts : List Par} (h : PL w base v n ts) (hb : base' ≤ base) : PL w base' v n ts :=
  ⟨h.len, owns_mono h.own hb, fun t ht => by obtain ⟨q, m, c, e, hr⟩ := h.row t ht; exact ⟨q, m, c, e, owns_mono hr hb⟩, h.dis⟩
theorem Pl.shape {w : World} {base n : Nat} {v : Value} {ts : List Par} (h : PL w base v n ts) : ∃ q c, v = .slice q n c := by
  rcases h.own.2 with ⟨h1, h0⟩ | ⟨g, cap, cur, hv, _⟩
  · exact ⟨none, 0, by rw [h1, h0]⟩
  · exact ⟨_, _, hv⟩
theorem playS_snoc {ps : List Pack} {acs : List ActD} {k : Nat} {a : ActD} (h : acs[k]? = some a) : playS ps (acs.take (k + 1)) = stepS (playS ps (acs.take k)) a := by
  obtain ⟨hk, e⟩ := List.getElem?_eq_some_iff.1 h
  unfold playS; rw [foldl_take_succ _ _ _ _ hk, e]
theorem playS_len (ps : List Pack) (acs : List ActD) : (playS ps acs).length ≤ ps.length + acs.length := by
  induction acs generalizing ps with
  | nil => simp [playS]
  | cons a acs ih =>
    have h1 := ih (stepS ps a)
    have h2 := stepS_len ps a
    simp only [playS, List.foldl_cons, List.length_cons] at h1 ⊢
    omega
theorem playS_room {acs : List ActD} : ∀ {ps : List Pack}, (∀ p, p ∈ ps → Room p.1.length) → (∀ a, a ∈ acs → Room a.bs.length) → ∀ p, p ∈ playS ps acs → Room p.1.length := by
  induction acs with
  | nil => intro ps h _; exact h
  | cons a acs ih =>
    intro ps h ha
    exact ih (stepS_room h (ha a List.mem_cons_self)) (fun x hx => ha x (List.mem_cons_of_mem _ hx))
theorem initS_room {xss : List (List UInt8)} (h : ∀ xs, xs ∈ xss → Room xs.length) : ∀ p, p ∈ initS xss → Room p.1.length := by
  intro p hp
  simp only [initS, List.mem_map, List.mem_range] at hp
  obtain ⟨i, hi, rfl⟩ := hp
  simp only [List.getD, List.getElem?_eq_getElem hi]
  exact h _ (List.getElem_mem hi)
set_option maxRecDepth 100000 in
set_option maxHeartbeats 4000000 in
theorem play_any (p1 p2 : Option Addr) (n1 c1 n2 c2 : Nat) (xss : List (List UInt8)) (acs : List ActD) (w : World) (h1 : Sl2 w p1 n1 c1 xss) (h2 : SlA w p2 n2 c2 acs) (hr : ∀ xs, xs ∈ xss → Room xs.length) (hra : ∀ a, a ∈ acs → Room a.bs.length) (hlen : n1 + n2 < 4096) :
    Calls Try.prog 32 #[.slice p1 n1 c1, .slice p2 n2 c2] w (RetP w.heap.size w (playS (initS xss) acs)) := by
  obtain ⟨i0, hi0, hz0, hz1, hz2⟩ := info_parts info_parcel
  have b1 := h1.bound; have b2 := h2.bound
  have H1 := Lib.hid h1; have H2 := Lib.hid h2; have HR := Lib.hid hr; have HRA := Lib.hid hra
  clear h1 h2 hr hra
  have e1 := Lib.hid (show n1 ≤ maxLen by unfold maxLen; omega); have e2 := Lib.hid (show 32 * n1 ≤ 281474976710656 by omega)
  go_enter Try.func32, Try.ntmps32
  go_wp2_with (first
    | (refine wpList_store_row (o := ⟨none, .store 86 (.tmp 5) (.tmp 11), _, _, _, _⟩) rfl 86 (.tmp 5) (.tmp 11) rfl w.heap.size doesV rfl rfl _ _ (hnew rfl) info_does rfl does_ones ?_)
    | (at_make; refine wpList_make_full _ rfl _ _ 68 rfl (w.heap.size + 1) 71 i0 (.agg #[.slice none 0 0, .int .i64 0]) 2 Try.underlying68 hi0 hz0 hz1 .i64 .i64 _ _ n1 rfl rfl rfl rfl (by rw [hz2]; exact e2.out) e1.out (by simp) ?_))
  intro w1 ho hg
  have P0 := Lib.hid (pl_made ho)
  have hD : Hid (w1.heap[w.heap.size]? = some (.cells doesV 86 (0, 0))) := by
    show _ = _
    rw [hg.block _ (by simp) (by simp)]; exact hrs (hnew rfl)
  have k1 : Hid (Below w.heap.size w w1) := (below_setRow (al (Below.refl _ _) (Nat.le_refl _)) (Nat.le_refl _) _).grown hg (by simp) (by simp)
  have s1 : Hid (w.heap.size + 1 ≤ w1.heap.size) := by have := hg.size; simp at this; exact this
  clear ho hg e1 e2
  go_wp2
  go_loopw [17] (fun i wr => ∃ (k : Nat) (ts : List Par), k ≤ n1 ∧ i = .int .i64 k ∧ Hid (PL wr (w.heap.size + 1) (.slice (some ⟨w.heap.size + 1, 0, none⟩) n1 n1) n1 ts) ∧ Hid (ts.map parIs = prog (initS xss) (blankS n1) k) ∧ Hid (Below (w.heap.size + 1) w1 wr)) (fun i _ => n1 - (intOf i).toNat)
  case atStart => exact ⟨0, _, Nat.zero_le _, rfl, P0.out, by rw [Hid, prog_zero, List.map_replicate]; rfl, Below.refl _ _⟩
  case round =>
    obtain ⟨k, ts, hk, rfl, hP, hM, hB⟩ := hrel
    by_cases hlt : k < n1
    · obtain ⟨b, o, q, m, c', x, rfl, hc, hs, hx⟩ := H1.out.at k hlt
      have kw : Below w.heap.size w wr := k1.out.trans (hB.out.mono (by omega))
      have hcw := (kw.cell (p := ⟨b, o + k, none⟩) (lt_of_cell hc)).trans hc
      have HS := Lib.hid (hs.keep kw)
      have hrm : Room m := by have := HR.out x (List.mem_of_getElem? hx.out); rw [hs.len] at this; exact this
      have i1 : (k : Int) < (n1 : Int) := by omega
      have hsz := Nat.le_trans s1.out hB.out.size
      clear hc hs kw
      go_wp2_with fail
      refine Calls.mono (BClone_any q m c' x wr HS.out hrm) ?_; rintro e w2 ⟨q2, c2', rfl, ho2, hb2⟩
      have hPw := hP.out.keep hb2
      obtain ⟨t, ht⟩ : ∃ t, ts[k]? = some t := ⟨_, List.getElem?_eq_getElem (by rw [hPw.len]; exact hlt)⟩
      obtain ⟨y0, y1⟩ := par_cells hPw ht
      have z0 : w2.frozen? ⟨w.heap.size + 1, k * 2, none⟩ = false := hPw.own.frozenAt _
      have z1 : w2.frozen? ⟨w.heap.size + 1, k * 2 + 1, none⟩ = false := hPw.own.frozenAt _
      have FIN : Hid (PL ((w2.setCell ⟨w.heap.size + 1, k * 2, none⟩ (.slice q2 m c2')).setCell ⟨w.heap.size + 1, k * 2 + 1, none⟩ (.int .i64 k)) (w.heap.size + 1) (.slice (some ⟨w.heap.size + 1, 0, none⟩) n1 n1) n1 (ts.set k (.slice q2 m c2', (k : Int), x)) ∧
          (ts.set k (.slice q2 m c2', (k : Int), x)).map parIs = prog (initS xss) (blankS n1) (k + 1) ∧ Below (w.heap.size + 1) w1 ((w2.setCell ⟨w.heap.size + 1, k * 2, none⟩ (.slice q2 m c2')).setCell ⟨w.heap.size + 1, k * 2 + 1, none⟩ (.int .i64 k))) := by
        have how := (hPw.own.stored (k * 2) (.slice q2 m c2')).1
        have how2 := (how.stored (k * 2 + 1) (.int .i64 k)).1
        refine ⟨Pl.swap (w1 := wr) (w2 := w2) hP.out hlt ne_types ⟨_, _, _, rfl, ho2⟩ hsz hb2 ?_ (grown_trans (grownBy_setCell _ _ _ _) (grownBy_setCell _ _ _ _)), ?_, ?_⟩
        · rw [pcs_set _ _ _ (by rw [List.length_map, hP.out.len]; exact hlt)]; exact how2
        · rw [List.map_set, hM.out]
          exact prog_succ _ _ k n1 (by rw [initS_len]; exact H1.out.len) (by simp [blankS]) hlt _ (initS_at hx.out)
        · exact ((hB.out.trans (hb2.mono hsz)).setCell (Nat.le_refl _) _).setCell (Nat.le_refl _) _
      clear hPw ht ho2 hb2
      go_wp2
      go_roundw
      case rel => exact ⟨k + 1, _, by omega, by go_num, FIN.out.1, FIN.out.2.1, FIN.out.2.2⟩
      case measure => simp [intOf]; omega
    · have hkn : k = n1 := by omega
      subst hkn
      have hM2 : Hid (ts.map parIs = initS xss) := by
        show _ = _
        rw [hM.out]; exact prog_full _ _ _ (by rw [initS_len]; exact H1.out.len) (by simp [blankS])
      have hPl : Hid (PL wr (w.heap.size + 1) (.slice (some ⟨w.heap.size + 1, 0, none⟩) (initS xss).length k) (initS xss).length ts) := by
        show PL _ _ _ _ _
        rw [initS_len, H1.out.len]; exact hP.out
      clear hP hM
      go_wp2
      go_loopw [6, 32] (fun v i wv => ∃ (j : Nat) (ss : List Par) (uq : Option Addr) (uc : Nat), j ≤ n2 ∧ i = .int .i64 j ∧ v = .slice uq (playS (initS xss) (acs.take j)).length uc ∧ Hid (PL wv (w.heap.size + 1) (.slice uq (playS (initS xss) (acs.take j)).length uc) (playS (initS xss) (acs.take j)).length ss) ∧ Hid (ss.map parIs = playS (initS xss) (acs.take j)) ∧ Hid (Below (w.heap.size + 1) w1 wv)) (fun _ i _ => n2 - (intOf i).toNat)
      case atStart => exact ⟨0, ts, some ⟨w.heap.size + 1, 0, none⟩, k, Nat.zero_le _, rfl, by show _ = Value.slice _ (initS xss).length _; rw [initS_len, H1.out.len], hPl.out, hM2.out, hB.out⟩
      case round =>
        obtain ⟨j, ss, uq, uc, hj, rfl, rfl, hP, hM, hBv⟩ := hrel
        by_cases hjn : j < n2
        · have hal' : j < acs.length := by rw [H2.out.len]; exact hjn
          obtain ⟨a, ha⟩ : ∃ a, acs[j]? = some a := ⟨_, List.getElem?_eq_getElem hal'⟩
          have hNext := Lib.hid (playS_snoc (ps := initS xss) ha)
          have hL : (playS (initS xss) (acs.take j)).length < 4096 := by
            have := playS_len (initS xss) (acs.take j)
            rw [initS_len, H1.out.len, List.length_take] at this; omega
          have hRoom := Lib.hid (playS_room (initS_room HR.out) (fun a ha => HRA.out a (List.mem_of_mem_take ha)) : ∀ p, p ∈ playS (initS xss) (acs.take j) → Room p.1.length)
          have hra := HRA.out a (List.mem_of_getElem? ha)
          obtain ⟨PS, hPS⟩ : ∃ PS, PS = playS (initS xss) (acs.take j) := ⟨_, rfl⟩
          rw [← hPS] at hP hM hNext hRoom hL ⊢
          have HPS := Lib.hid hPS; clear hPS
          have kw : Below w.heap.size w wr := k1.out.trans (hBv.out.mono (by omega))
          obtain ⟨b, o, q, m, c', rfl, y0, y1, y2, y3, y4, hs, bi, bj, bb⟩ := (H2.out.keep kw).rs j a ha
          obtain ⟨d, i, jj, bt, bs⟩ := a
          simp only at y0 y1 y2 y3 y4 hs bi bj bb hra
          have i1 : (j : Int) < (n2 : Int) := by omega
          have hsz := Nat.le_trans s1.out hBv.out.size
          obtain ⟨W, hW⟩ : ∃ W, W = wr.alloc (.cells #[.int .i64 d, .int .i64 i, .int .i64 jj, .int .u32 bt, .slice q m c'] 39) := ⟨_, rfl⟩
          have hBW : Below wr.heap.size wr W := by rw [hW]; exact al (Below.refl _ _) (Nat.le_refl _)
          have x1 : W.heap[wr.heap.size]? = some (.cells #[.int .i64 d, .int .i64 i, .int .i64 jj, .int .u32 bt, .slice q m c'] 39 (0, 0)) := by rw [hW]; exact hnew rfl
          have hWs : W.heap.size = wr.heap.size + 1 := by rw [hW]; simp
          have SK : Hid (stepS PS ⟨d, i, jj, bt, bs⟩ = PS → PL W (w.heap.size + 1) (.slice uq (playS (initS xss) (acs.take (j + 1))).length uc) (playS (initS xss) (acs.take (j + 1))).length ss ∧ ss.map parIs = playS (initS xss) (acs.take (j + 1)) ∧ Below (w.heap.size + 1) w1 W ∧ PS.length = (playS (initS xss) (acs.take (j + 1))).length) := fun hst => by
            rw [hNext.out, hst]
            exact ⟨hP.out.keep hBW, hM.out, hBv.out.trans (hBW.mono hsz), rfl⟩
          have HS := Lib.hid hs; have HRA2 := Lib.hid hra; have HBW := Lib.hid hBW; have X1 := Lib.hid x1; have HA := Lib.hid ha
          clear hs hra hBW x1 ha
          by_cases hd0 : d < 0
          · have hst := SK.out (by unfold stepS; rw [if_pos (Or.inl hd0)])
            have HST := Lib.hid hst; clear hst
            go_wp2
            rw [← hW]
            go_roundw
            case rel => exact ⟨j + 1, ss, uq, uc, by omega, by go_num, by rw [HST.out.2.2.2], HST.out.1, HST.out.2.1, HST.out.2.2.1⟩
            case measure => simp [intOf]; omega
          · have hd0' : 0 ≤ d := by omega
            by_cases hd6 : 6 ≤ d
            · have hd6' : ¬ d < 0 := by omega
              have HST := Lib.hid (SK.out (by unfold stepS; rw [if_pos (Or.inr (Or.inl hd6))]))
              clear hd6' hd0
              go_wp2
              rw [← hW]
              go_roundw
              case rel => exact ⟨j + 1, ss, uq, uc, by omega, by go_num, by rw [HST.out.2.2.2], HST.out.1, HST.out.2.1, HST.out.2.2.1⟩
              case measure => simp [intOf]; omega
            · have hd6' : d < 6 := by omega
              by_cases hj0 : jj < 0
              · have HST := Lib.hid (SK.out (by unfold stepS; rw [if_pos (Or.inr (Or.inr hj0))]))
                clear hd0 hd6
                go_wp2
                rw [← hW]
                go_roundw
                case rel => exact ⟨j + 1, ss, uq, uc, by omega, by go_num, by rw [HST.out.2.2.2], HST.out.1, HST.out.2.1, HST.out.2.2.1⟩
                case measure => simp [intOf]; omega
              · have hj0' : 0 ≤ jj := by omega
                have hn3 : Hid (¬ (d < 0 ∨ 6 ≤ d ∨ jj < 0)) := by show ¬ _; omega
                clear hd0 hd6 hj0
                have hDW : Hid (W.heap[w.heap.size]? = some (.cells doesV 86 (0, 0))) := by
                  show _ = _
                  rw [HBW.out.block _ (by omega), hBv.out.block _ (by omega)]; exact hD.out
                have s0' : W.cell? ⟨wr.heap.size, 0, none⟩ = some (.int .i64 d) := cell_of_row _ _ 0 _ _ _ X1.out
                have s1' : W.cell? ⟨wr.heap.size, 1, none⟩ = some (.int .i64 i) := cell_of_row _ _ 1 _ _ _ X1.out
                have s2' : W.cell? ⟨wr.heap.size, 2, none⟩ = some (.int .i64 jj) := cell_of_row _ _ 2 _ _ _ X1.out
                have s3' : W.cell? ⟨wr.heap.size, 3, none⟩ = some (.int .u32 bt) := cell_of_row _ _ 3 _ _ _ X1.out
                have s4' : W.cell? ⟨wr.heap.size, 4, none⟩ = some (.slice q m c') := cell_of_row _ _ 4 _ _ _ X1.out
                have hPW : Hid (PL W.drew (w.heap.size + 1) (.slice uq PS.length uc) PS.length ss) := (hP.out.keep HBW.out).keep (Below.refl _ _).drew
                have hSW : Hid (Sl B8 W.drew q m c' bs) := (HS.out.keep HBW.out).keep (Below.refl _ _).drew
                have hbW : Hid (w.heap.size + 1 ≤ W.drew.heap.size) := by show _ ≤ W.heap.size; omega
                have hml : Hid (bs.length = m) := HS.out.len
                by_cases h5 : d = 5
                · subst h5
                  have hst : stepS PS ⟨5, i, jj, bt, bs⟩ = PS ++ [(bs, -1)] := by unfold stepS; rw [if_neg hn3.out, if_pos rfl]
                  have C : Hid (Calls Try.prog 51 #[actV 5 i jj bt (.slice q m c'), .slice uq PS.length uc] W.drew (RetP (w.heap.size + 1) W.drew (playS (initS xss) (acs.take (j + 1))))) := by
                    rw [hNext.out, hst]
                    have := forge_any (w.heap.size + 1) PS.length m c' (.slice uq PS.length uc) ss 5 i jj bt q bs W.drew hPW.out hbW.out hSW.out (by rw [← hml.out]; exact HRA2.out) hL
                    rw [hM.out] at this
                    exact this
                  have dd : W.cell? ⟨w.heap.size, 5, none⟩ = some (.func (.func 51) #[] #[]) := cell_of_row _ _ 5 _ _ _ hDW.out
                  have HC := Lib.hid C.out; clear C hst
                  go_wp2_with fail
                  rw [← hW]
                  clear hW
                  go_region_with (go_at_call 51; refine Calls.mono HC.out ?_; rintro e w3 ⟨u', ss', rfl, hP', hS', hB'⟩; obtain ⟨uq', uc', rfl⟩ := Pl.shape hP'; have HP' := Lib.hid hP'; have HS' := Lib.hid hS'; have HB' := Lib.hid hB'; clear hP' hS' hB')
                  all_goals go_wp2
                  all_goals go_roundw
                  all_goals first
                    | exact ⟨j + 1, ss', uq', uc', by omega, by go_num, rfl, HP'.out, HS'.out, hBv.out.trans ((bdn (n := 1) (HBW.out.mono hsz)).trans (HB'.out))⟩
                    | (simp [intOf]; omega)
                · have h5b : (d != 5) = true := by simpa using h5
                  by_cases hi0 : i < 0
                  · have HST := Lib.hid (SK.out (by unfold stepS; rw [if_neg hn3.out, if_neg h5]; split; rfl; rw [if_pos hi0]))
                    clear h5
                    go_wp2
                    rw [← hW]
                    go_roundw
                    case rel => exact ⟨j + 1, ss, uq, uc, by omega, by go_num, by rw [HST.out.2.2.2], HST.out.1, HST.out.2.1, HST.out.2.2.1⟩
                    case measure => simp [intOf]; omega
                  · by_cases him : (PS.length : Int) ≤ i
                    · have HST := Lib.hid (SK.out (by unfold stepS; rw [if_neg hn3.out, if_neg h5, List.getElem?_eq_none (show PS.length ≤ i.toNat by omega)]))
                      have hi0' : 0 ≤ i := by omega
                      clear h5 hi0
                      go_wp2
                      rw [← hW]
                      go_roundw
                      case rel => exact ⟨j + 1, ss, uq, uc, by omega, by go_num, by rw [HST.out.2.2.2], HST.out.1, HST.out.2.1, HST.out.2.2.1⟩
                      case measure => simp [intOf]; omega
                    · obtain ⟨i0, rfl⟩ := Int.eq_ofNat_of_zero_le (show 0 ≤ i by omega)
                      obtain ⟨j0, rfl⟩ := Int.eq_ofNat_of_zero_le hj0'
                      have him' : (i0 : Int) < (PS.length : Int) := by omega
                      have hil : i0 < ss.length := by rw [hP.out.len]; omega
                      obtain ⟨t, ht⟩ : ∃ t, ss[i0]? = some t := ⟨_, List.getElem?_eq_getElem hil⟩
                      have htp : PS[i0]? = some (parIs t) := by rw [← hM.out, List.getElem?_map, ht]; rfl
                      have hrt := hRoom.out _ (List.mem_of_getElem? htp)
                      have hst0 : Hid (∀ d, d ≠ 5 → 0 ≤ d → d < 6 → stepS PS ⟨d, i0, j0, bt, bs⟩ = if d = 0 then dropAt PS i0 else if d = 1 then PS ++ [parIs t] else if d = 2 then putAt (dropAt PS i0) (min j0 (PS.length - 1)) (parIs t) else if d = 3 then PS.set i0 (cutP (parIs t) j0) else PS.set i0 (maskP (parIs t) bt j0)) := fun d h5 h0 h6 => by
                        unfold stepS; rw [if_neg (by show ¬ (d < 0 ∨ 6 ≤ d ∨ (j0 : Int) < 0); omega), if_neg h5]; simp only [Int.toNat_natCast, htp]; rw [if_neg (by omega)]
                      have HT := Lib.hid ht; have HRT : Hid (Room t.2.2.length) := hrt
                      have bj' := Lib.hid (show j0 ≤ 9223372036854775807 by omega)
                      clear ht htp hrt hil him hi0
                      have hd5 : d = 0 ∨ d = 1 ∨ d = 2 ∨ d = 3 ∨ d = 4 := by omega
                      clear h5
                      rcases hd5 with rfl | rfl | rfl | rfl | rfl
                      · have hst : stepS PS ⟨0, i0, j0, bt, bs⟩ = dropAt PS i0 := hst0.out 0 (by decide) (by decide) (by decide)
                        have C : Hid (Calls Try.prog 46 #[actV 0 i0 j0 bt (.slice q m c'), .slice uq PS.length uc] W.drew (RetP (w.heap.size + 1) W.drew (playS (initS xss) (acs.take (j + 1))))) := by
                          rw [hNext.out, hst]
                          have := drop_any (w.heap.size + 1) PS.length i0 (.slice uq PS.length uc) ss 0 j0 bt (.slice q m c') W.drew hPW.out (by omega) hbW.out
                          rw [hM.out] at this
                          exact this
                        have dd : W.cell? ⟨w.heap.size, 0, none⟩ = some (.func (.func 46) #[] #[]) := cell_of_row _ _ 0 _ _ _ hDW.out
                        have HC := Lib.hid C.out; clear C hst
                        go_wp2_with fail
                        rw [← hW]
                        clear hW
                        go_region_with (go_at_call 46; refine Calls.mono HC.out ?_; rintro e w3 ⟨u', ss', rfl, hP', hS', hB'⟩; obtain ⟨uq', uc', rfl⟩ := Pl.shape hP'; have HP' := Lib.hid hP'; have HS' := Lib.hid hS'; have HB' := Lib.hid hB'; clear hP' hS' hB')
                        all_goals go_wp2
                        all_goals go_roundw
                        all_goals first
                          | exact ⟨j + 1, ss', uq', uc', by omega, by go_num, rfl, HP'.out, HS'.out, hBv.out.trans ((bdn (n := 1) (HBW.out.mono hsz)).trans (HB'.out))⟩
                          | (simp [intOf]; omega)
                      · have hst : stepS PS ⟨1, i0, j0, bt, bs⟩ = PS ++ [parIs t] := hst0.out 1 (by decide) (by decide) (by decide)
                        have C : Hid (Calls Try.prog 47 #[actV 1 i0 j0 bt (.slice q m c'), .slice uq PS.length uc] W.drew (RetP (w.heap.size + 1) W.drew (playS (initS xss) (acs.take (j + 1))))) := by
                          rw [hNext.out, hst]
                          have := double_any (w.heap.size + 1) PS.length i0 j0 (.slice uq PS.length uc) ss t 1 bt (.slice q m c') W.drew hPW.out HT.out hbW.out HRT.out hL
                          rw [hM.out] at this
                          exact this
                        have dd : W.cell? ⟨w.heap.size, 1, none⟩ = some (.func (.func 47) #[] #[]) := cell_of_row _ _ 1 _ _ _ hDW.out
                        have HC := Lib.hid C.out; clear C hst
                        go_wp2_with fail
                        rw [← hW]
                        clear hW
                        go_region_with (go_at_call 47; refine Calls.mono HC.out ?_; rintro e w3 ⟨u', ss', rfl, hP', hS', hB'⟩; obtain ⟨uq', uc', rfl⟩ := Pl.shape hP'; have HP' := Lib.hid hP'; have HS' := Lib.hid hS'; have HB' := Lib.hid hB'; clear hP' hS' hB')
                        all_goals go_wp2
                        all_goals go_roundw
                        all_goals first
                          | exact ⟨j + 1, ss', uq', uc', by omega, by go_num, rfl, HP'.out, HS'.out, hBv.out.trans ((bdn (n := 1) (HBW.out.mono hsz)).trans (HB'.out))⟩
                          | (simp [intOf]; omega)
                      · have hst : stepS PS ⟨2, i0, j0, bt, bs⟩ = putAt (dropAt PS i0) (min j0 (PS.length - 1)) (parIs t) := hst0.out 2 (by decide) (by decide) (by decide)
                        have C : Hid (Calls Try.prog 48 #[actV 2 i0 j0 bt (.slice q m c'), .slice uq PS.length uc] W.drew (RetP (w.heap.size + 1) W.drew (playS (initS xss) (acs.take (j + 1))))) := by
                          rw [hNext.out, hst]
                          have := move_any (w.heap.size + 1) PS.length i0 j0 (.slice uq PS.length uc) ss t 2 bt (.slice q m c') W.drew hPW.out HT.out hbW.out bj'.out
                          rw [hM.out] at this
                          exact this
                        have dd : W.cell? ⟨w.heap.size, 2, none⟩ = some (.func (.func 48) #[] #[]) := cell_of_row _ _ 2 _ _ _ hDW.out
                        have HC := Lib.hid C.out; clear C hst
                        go_wp2_with fail
                        rw [← hW]
                        clear hW
                        go_region_with (go_at_call 48; refine Calls.mono HC.out ?_; rintro e w3 ⟨u', ss', rfl, hP', hS', hB'⟩; obtain ⟨uq', uc', rfl⟩ := Pl.shape hP'; have HP' := Lib.hid hP'; have HS' := Lib.hid hS'; have HB' := Lib.hid hB'; clear hP' hS' hB')
                        all_goals go_wp2
                        all_goals go_roundw
                        all_goals first
                          | exact ⟨j + 1, ss', uq', uc', by omega, by go_num, rfl, HP'.out, HS'.out, hBv.out.trans ((bdn (n := 1) (HBW.out.mono hsz)).trans (HB'.out))⟩
                          | (simp [intOf]; omega)
                      · have hst : stepS PS ⟨3, i0, j0, bt, bs⟩ = PS.set i0 (cutP (parIs t) j0) := hst0.out 3 (by decide) (by decide) (by decide)
                        have C : Hid (Calls Try.prog 49 #[actV 3 i0 j0 bt (.slice q m c'), .slice uq PS.length uc] W.drew (RetP (w.heap.size + 1) W.drew (playS (initS xss) (acs.take (j + 1))))) := by
                          rw [hNext.out, hst]
                          have := cut_any (w.heap.size + 1) PS.length i0 j0 (.slice uq PS.length uc) ss t 3 bt (.slice q m c') W.drew hPW.out HT.out hbW.out HRT.out bj'.out
                          rw [hM.out] at this
                          exact this
                        have dd : W.cell? ⟨w.heap.size, 3, none⟩ = some (.func (.func 49) #[] #[]) := cell_of_row _ _ 3 _ _ _ hDW.out
                        have HC := Lib.hid C.out; clear C hst
                        go_wp2_with fail
                        rw [← hW]
                        clear hW
                        go_region_with (go_at_call 49; refine Calls.mono HC.out ?_; rintro e w3 ⟨u', ss', rfl, hP', hS', hB'⟩; obtain ⟨uq', uc', rfl⟩ := Pl.shape hP'; have HP' := Lib.hid hP'; have HS' := Lib.hid hS'; have HB' := Lib.hid hB'; clear hP' hS' hB')
                        all_goals go_wp2
                        all_goals go_roundw
                        all_goals first
                          | exact ⟨j + 1, ss', uq', uc', by omega, by go_num, rfl, HP'.out, HS'.out, hBv.out.trans ((bdn (n := 1) (HBW.out.mono hsz)).trans (HB'.out))⟩
                          | (simp [intOf]; omega)
                      · have hst : stepS PS ⟨4, i0, j0, bt, bs⟩ = PS.set i0 (maskP (parIs t) bt j0) := hst0.out 4 (by decide) (by decide) (by decide)
                        have C : Hid (Calls Try.prog 50 #[actV 4 i0 j0 bt (.slice q m c'), .slice uq PS.length uc] W.drew (RetP (w.heap.size + 1) W.drew (playS (initS xss) (acs.take (j + 1))))) := by
                          rw [hNext.out, hst]
                          have := mask_any (w.heap.size + 1) PS.length i0 j0 bt (.slice uq PS.length uc) ss t 4 (.slice q m c') W.drew hPW.out HT.out hbW.out HRT.out bj'.out bb
                          rw [hM.out] at this
                          exact this
                        have dd : W.cell? ⟨w.heap.size, 4, none⟩ = some (.func (.func 50) #[] #[]) := cell_of_row _ _ 4 _ _ _ hDW.out
                        have HC := Lib.hid C.out; clear C hst
                        go_wp2_with fail
                        rw [← hW]
                        clear hW
                        go_region_with (go_at_call 50; refine Calls.mono HC.out ?_; rintro e w3 ⟨u', ss', rfl, hP', hS', hB'⟩; obtain ⟨uq', uc', rfl⟩ := Pl.shape hP'; have HP' := Lib.hid hP'; have HS' := Lib.hid hS'; have HB' := Lib.hid hB'; clear hP' hS' hB')
                        all_goals go_wp2
                        all_goals go_roundw
                        all_goals first
                          | exact ⟨j + 1, ss', uq', uc', by omega, by go_num, rfl, HP'.out, HS'.out, hBv.out.trans ((bdn (n := 1) (HBW.out.mono hsz)).trans (HB'.out))⟩
                          | (simp [intOf]; omega)
        · have hjk : j = n2 := by omega
          subst hjk
          have e : acs.take j = acs := List.take_of_length_le (by rw [H2.out.len]; omega)
          rw [e] at hP hM ⊢
          go_wp2
          go_ret
          exact RetP.of (Pl.mono hP.out (by omega)) (k1.out.trans (hBv.out.mono (by omega))) hM.out
end Go.Proofs.Ytlfcijpkdhdmeaa
