/- Acts that came in: a slice of structs of five cells, and one by value, opened. The contract of play. The contracts of Apply and Whole. The contracts of Whole, of slices.Equal at ints, of Harms; of the law's Few; the chapter's example. The contract of the law's Few of layer 20; the chapter's example. The plain law of WayWhole: what came whole is what was sent; acts that harm nothing leave all whole; acts one by one are as all at once. Chapter 22: what a trip comes to (plain); what a sender and a taker carry along while other blocks turn. Chapters 11, 17: a plan and an object that do not fit. Chapter 22: trip.Run of a plan and an object that fit. Chapter 22: the law's awake. Chapter 22: the law's Few; trip.Run of what does not fit. -/
import Derived.Test.YtfbmdlfkipipfaaGreatDoorZw7
import Derived.Lib.SmallJoins
import Derived.Deep.RegionWith
import Derived.Deep.DeepCutAuto
namespace Go.Proofs.YtfbmdlfkipipfaaGreatDoor
open Go.RowKit Go.By Go.ChangeShapes Go.WideShapes Go.Deep
section
variable {H : Type} {enc : TypeId × Value → H} {P : Program} {w : World} {base : Nat} {held : Bool}
instance : Inhabited ActD := ⟨⟨0, 0, 0, 0, []⟩⟩
theorem trod_struct5 {t : TypeId} {f0 f1 f2 f3 f4 : Field} {fuel : Nat} {cs : List Value} {x : DataW H × List MemPlace} {spare : Nat → Bool} (ht : P.underlying t = some (.struct #[f0, f1, f2, f3, f4])) (h : DataW.trod enc P w base spare held fuel t cs = some x) :
    ∃ y0 y1 y2 y3 y4 n, cs.length = P.cellsOf t ∧ DataW.trod enc P w base spare held n f0.type ((cs.drop f0.offset).take (P.cellsOf f0.type)) = some y0 ∧
      DataW.trod enc P w base spare held n f1.type ((cs.drop f1.offset).take (P.cellsOf f1.type)) = some y1 ∧ DataW.trod enc P w base spare held n f2.type ((cs.drop f2.offset).take (P.cellsOf f2.type)) = some y2 ∧
      DataW.trod enc P w base spare held n f3.type ((cs.drop f3.offset).take (P.cellsOf f3.type)) = some y3 ∧ DataW.trod enc P w base spare held n f4.type ((cs.drop f4.offset).take (P.cellsOf f4.type)) = some y4 := by
  obtain ⟨xs, n, _, rfl, hl, hlen, hf⟩ := DataW.trod_struct ht h
  match xs, hlen with
  | [y0, y1, y2, y3, y4], _ => exact ⟨y0, y1, y2, y3, y4, n, hl, by simpa using hf 0 f0 rfl, by simpa using hf 1 f1 rfl, by simpa using hf 2 f2 rfl, by simpa using hf 3 f3 rfl, by simpa using hf 4 f4 rfl⟩
theorem list5 {α : Type} {cs : List α} (h : cs.length = 5) : ∃ c0 c1 c2 c3 c4, cs = [c0, c1, c2, c3, c4] := by
  match cs, h with
  | [c0, c1, c2, c3, c4], _ => exact ⟨c0, c1, c2, c3, c4, rfl⟩
/-- one act, cell by cell -/
theorem open_act {t q : TypeId} {f0 f1 f2 f3 f4 : Field} {fuel : Nat} {cs : List Value} {x : DataW H × List MemPlace} (ht : P.underlying t = some (.struct #[f0, f1, f2, f3, f4])) (hone : oneCellFields P #[f0, f1, f2, f3, f4] = true) (hC : P.cellsOf t = 5)
    (h0 : P.underlying f0.type = some (.int .i64)) (h1 : P.underlying f1.type = some (.int .i64)) (h2 : P.underlying f2.type = some (.int .i64)) (h3 : P.underlying f3.type = some (.int .u32)) (h4 : P.underlying f4.type = some (.slice q)) (hq : P.underlying q = some (.int .u8)) (cq : P.cellsOf q = 1)
    (h : DataW.trod enc P w base (fun _ => true) held fuel t cs = some x) :
    ∃ (a : ActD) (p : Option Addr) (m c : Nat), cs = [.int .i64 a.d, .int .i64 a.i, .int .i64 a.j, .int .u32 a.b, .slice p m c] ∧ Sl B8 w p m c a.bs ∧ a.i ≤ 9223372036854775807 ∧ a.j ≤ 9223372036854775807 ∧ a.b < 4294967296 := by
  obtain ⟨y0, y1, y2, y3, y4, n, hl, g0, g1, g2, g3, g4⟩ := trod_struct5 ht h
  obtain ⟨c0, c1, c2, c3, c4, rfl⟩ := list5 (hl.trans hC)
  obtain ⟨o0, k0⟩ := hone_of hone 0 f0 rfl
  obtain ⟨o1, k1⟩ := hone_of hone 1 f1 rfl
  obtain ⟨o2, k2⟩ := hone_of hone 2 f2 rfl
  obtain ⟨o3, k3⟩ := hone_of hone 3 f3 rfl
  obtain ⟨o4, k4⟩ := hone_of hone 4 f4 rfl
  rw [o0, k0] at g0; rw [o1, k1] at g1; rw [o2, k2] at g2; rw [o3, k3] at g3; rw [o4, k4] at g4
  obtain ⟨d, e0, -, w0⟩ := DataW.trod_int h0 g0
  obtain ⟨i, e1, -, w1⟩ := DataW.trod_int h1 g1
  obtain ⟨j, e2, -, w2⟩ := DataW.trod_int h2 g2
  obtain ⟨b, e3, -, w3⟩ := DataW.trod_int h3 g3
  obtain ⟨p, m, c, bs, e4, hs⟩ : ∃ p m c bs, c4 = .slice p m c ∧ Sl B8 w p m c bs := by
    rcases open_ints h4 hq cq g4 with ⟨hcs, _⟩ | ⟨x, l, c, zs, hcs, _, hl, hm, hz, _, hcell, hwz⟩
    · simp at hcs
      exact ⟨none, 0, 0, [], hcs, Sl.nil0 _ _⟩
    · simp at hcs
      obtain ⟨xs, hx⟩ := sl_of_row (.inr ⟨_, rfl, hl, hm, by simpa using hz, hcell, hwz⟩)
      exact ⟨_, _, _, xs, hcs, hx⟩
  have b3 : 0 ≤ b ∧ b ≤ 4294967295 := by
    simp [Lit.wf, IntKind.min, IntKind.max, IntKind.signed, IntKind.bits] at w3
    omega
  obtain ⟨bn, rfl⟩ := Int.eq_ofNat_of_zero_le b3.1
  simp at e0 e1 e2 e3
  subst e0; subst e1; subst e2; subst e3; subst e4
  exact ⟨⟨d, i, j, bn, bs⟩, p, m, c, rfl, hs, (Go.bounds_i64 w1).2, (Go.bounds_i64 w2).2, by show bn < 4294967296; have := b3.2; omega⟩
theorem open_acts {t e q : TypeId} {f0 f1 f2 f3 f4 : Field} {fuel : Nat} {cs : List Value} {x : DataW H × List MemPlace} (ht : P.underlying t = some (.slice e)) (he : P.underlying e = some (.struct #[f0, f1, f2, f3, f4])) (hone : oneCellFields P #[f0, f1, f2, f3, f4] = true) (hC : P.cellsOf e = 5)
    (h0 : P.underlying f0.type = some (.int .i64)) (h1 : P.underlying f1.type = some (.int .i64)) (h2 : P.underlying f2.type = some (.int .i64)) (h3 : P.underlying f3.type = some (.int .u32)) (h4 : P.underlying f4.type = some (.slice q)) (hq : P.underlying q = some (.int .u8)) (cq : P.cellsOf q = 1)
    (h : DataW.trod enc P w base (fun _ => true) held fuel t cs = some x) : ∃ p n c acs, cs = [.slice p n c] ∧ SlA w p n c acs := by
  rcases open_slice ht h with ⟨hcs, _⟩ | ⟨a, len, cap, m, n, D, Pl, rfl, hb, hl, hm, hmm, rfl, hx⟩
  · exact ⟨none, 0, 0, [], hcs, ⟨rfl, by simp [maxLen], Nat.le_refl _, fun k a hk => by simp at hk⟩⟩
  simp only [if_true] at hmm
  have hmm' := hmm.symm
  subst hmm'
  have hsp : 0 < len → a.spot = none := fun h => by
    obtain ⟨cs', hc, htr⟩ := hx 0 (by omega)
    obtain ⟨y, p, m', c', rfl, -⟩ := open_act he hone hC h0 h1 h2 h3 h4 hq cq htr
    obtain ⟨_, _, hcell⟩ := World.cells?_some hc
    have z0 := hcell 0 (by omega)
    simpa [Addr.add] using World.cell?_spot (z0.trans rfl)
  have each : ∀ k, k < len → ∃ y : ActD, ∃ b o q m c', a = ⟨b, o, none⟩ ∧ w.cell? ⟨b, o + k * 5, none⟩ = some (.int .i64 y.d) ∧ w.cell? ⟨b, o + k * 5 + 1, none⟩ = some (.int .i64 y.i) ∧ w.cell? ⟨b, o + k * 5 + 2, none⟩ = some (.int .i64 y.j) ∧
      w.cell? ⟨b, o + k * 5 + 3, none⟩ = some (.int .u32 y.b) ∧ w.cell? ⟨b, o + k * 5 + 4, none⟩ = some (.slice q m c') ∧ Sl B8 w q m c' y.bs ∧ y.i ≤ 9223372036854775807 ∧ y.j ≤ 9223372036854775807 ∧ y.b < 4294967296 := by
    intro k hk
    obtain ⟨cs', hc, htr⟩ := hx k (by omega)
    obtain ⟨y, p, m', c', rfl, hs, hb1, hb2, hb3⟩ := open_act he hone hC h0 h1 h2 h3 h4 hq cq htr
    obtain ⟨_, _, hcell⟩ := World.cells?_some hc
    rw [hC] at hcell
    obtain ⟨b, o, spot⟩ := a
    have z0 := hcell 0 (by omega)
    have hspot : spot = none := hsp (by omega)
    subst hspot
    have z1 := hcell 1 (by omega); have z2 := hcell 2 (by omega); have z3 := hcell 3 (by omega); have z4 := hcell 4 (by omega)
    simp only [add_plain] at z0 z1 z2 z3 z4
    exact ⟨y, b, o, p, m', c', rfl, z0, z1, z2, z3, z4, hs, hb1, hb2, hb3⟩
  obtain ⟨f, hf⟩ := choose_lt each
  refine ⟨some a, len, cap, (List.range len).map f, rfl, ⟨by simp, hm, hl, fun k y hk => ?_⟩⟩
  rw [List.getElem?_map] at hk
  cases hr : (List.range len)[k]? with
  | none => rw [hr] at hk; simp at hk
  | some k' =>
    rw [hr] at hk
    obtain ⟨hk1, hk2⟩ := List.getElem?_eq_some_iff.1 hr
    simp at hk1 hk2 hk
    subst hk2; subst hk
    obtain ⟨b, o, q, m, c', e, r⟩ := hf k hk1
    exact ⟨b, o, q, m, c', by rw [e], r⟩
end
end Go.Proofs.YtfbmdlfkipipfaaGreatDoor
namespace Go.Proofs.YtfbmdlfkipipfaaGreatDoor
open Go.RowKit Go.By
def zp : Par := (.slice none 0 0, 0, [])
theorem made_two (x y : Value) (n : Nat) : (madeCells #[x, y] (n * 2)).toList = (List.replicate n [x, y]).flatten := by
  apply List.ext_getElem
  · simp [madeCells]
  · intro j h1 h2
    simp only [madeCells, Array.toList_map, List.getElem_map, Array.toList_range, List.getElem_range]
    have e : ∀ n j : Nat, j < n * 2 → (List.replicate n [x, y]).flatten[j]? = some (#[x, y][j % 2]!) := by
      intro n
      induction n with
      | zero => intro j hj; omega
      | succ n ih =>
        intro j hj
        rw [List.replicate_succ, List.flatten_cons]
        match j with
        | 0 => rfl
        | 1 => rfl
        | j + 2 =>
          rw [List.getElem?_append_right (by simp)]
          have := ih j (by omega)
          simpa using this
    have h3 := e n j (by simpa [madeCells] using h1)
    rw [List.getElem?_eq_getElem h2] at h3
    exact (Option.some.inj h3).symm
theorem pcs_zero (n : Nat) : pcs ((List.replicate n zp).map parOf) = (List.replicate n [Value.slice none 0 0, .int .i64 0]).flatten := by
  rw [List.map_replicate]
  simp [pcs, List.flatMap_replicate, zp, parOf]
theorem pl_made {w : World} {base n : Nat} {v : Value} (h : w.ownsRow base 174 2 v n (madeCells #[.slice none 0 0, .int .i64 0] (n * 2)).toList) : PL w base v n (List.replicate n zp) := by
  refine ⟨by simp, by rw [pcs_zero, ← made_two]; exact h, fun t ht => ?_, ?_⟩
  · obtain rfl := List.eq_of_mem_replicate ht
    exact ⟨none, 0, 0, rfl, World.ownsRow_nil _ _ _ _⟩
  · have : blks (List.replicate n zp) = [] := by
      rw [blks, List.filterMap_eq_nil_iff]
      intro t ht
      obtain rfl := List.eq_of_mem_replicate ht
      rfl
    rw [this]; exact List.nodup_nil
def doesV : Array Value := #[.func (.func 144) #[] #[], .func (.func 145) #[] #[], .func (.func 146) #[] #[], .func (.func 147) #[] #[], .func (.func 148) #[] #[], .func (.func 149) #[] #[]]
theorem does_ones : doesV.all (·.oneCell') = true := by simp [doesV, Value.oneCell']
theorem info_does : (Tryz.prog.info? 235).map (·.size) = some 6 := by kernel_rfl
theorem Pl.mono {w : World} {base base' n : Nat} {v : Value} {ts : List Par} (h : PL w base v n ts) (hb : base' ≤ base) : PL w base' v n ts :=
  ⟨h.len, owns_mono h.own hb, fun t ht => by obtain ⟨q, m, c, e, hr⟩ := h.row t ht; exact ⟨q, m, c, e, owns_mono hr hb⟩, h.dis⟩
theorem Pl.shape {w : World} {base n : Nat} {v : Value} {ts : List Par} (h : PL w base v n ts) : ∃ q c, v = .slice q n c := by
  rcases h.own.2 with ⟨h1, h0⟩ | ⟨g, cap, cur, hv, _⟩
  · exact ⟨none, 0, by rw [h1, h0]⟩
  · exact ⟨_, _, hv⟩
theorem playS_snoc {ps : List Pack} {acs : List ActD} {k : Nat} {a : ActD} (h : acs[k]? = some a) : playS ps (acs.take (k + 1)) = stepS (playS ps (acs.take k)) a := by
  obtain ⟨hk, e⟩ := List.getElem?_eq_some_iff.1 h
  unfold playS; rw [foldl_take_succ _ _ _ _ hk, e]
theorem playS_len (ps : List Pack) (acs : List ActD) : (playS ps acs).length ≤ ps.length + acs.length := by
  induction acs generalizing ps with
  | nil => simp [playS]
  | cons a acs ih =>
    have h1 := ih (stepS ps a)
    have h2 := stepS_len ps a
    simp only [playS, List.foldl_cons, List.length_cons] at h1 ⊢
    omega
theorem playS_room {acs : List ActD} : ∀ {ps : List Pack}, (∀ p, p ∈ ps → Room p.1.length) → (∀ a, a ∈ acs → Room a.bs.length) → ∀ p, p ∈ playS ps acs → Room p.1.length := by
  induction acs with
  | nil => intro ps h _; exact h
  | cons a acs ih =>
    intro ps h ha
    exact ih (stepS_room h (ha a List.mem_cons_self)) (fun x hx => ha x (List.mem_cons_of_mem _ hx))
theorem initS_room {xss : List (List UInt8)} (h : ∀ xs, xs ∈ xss → Room xs.length) : ∀ p, p ∈ initS xss → Room p.1.length := by
  intro p hp
  simp only [initS, List.mem_map, List.mem_range] at hp
  obtain ⟨i, hi, rfl⟩ := hp
  simp only [List.getD, List.getElem?_eq_getElem hi]
  exact h _ (List.getElem_mem hi)
set_option maxRecDepth 100000 in
set_option maxHeartbeats 4000000 in
theorem play_any (p1 p2 : Option Addr) (n1 c1 n2 c2 : Nat) (xss : List (List UInt8)) (acs : List ActD) (w : World) (h1 : Sl2 w p1 n1 c1 xss) (h2 : SlA w p2 n2 c2 acs) (hr : ∀ xs, xs ∈ xss → Room xs.length) (hra : ∀ a, a ∈ acs → Room a.bs.length) (hlen : n1 + n2 < 4096) :
    Calls Tryz.prog 94 #[.slice p1 n1 c1, .slice p2 n2 c2] w (RetP w.heap.size w (playS (initS xss) acs)) := by
  obtain ⟨i0, hi0, hz0, hz1, hz2⟩ := info_parts info_parcel
  have b1 := h1.bound; have b2 := h2.bound
  have H1 := Lib.hid h1; have H2 := Lib.hid h2; have HR := Lib.hid hr; have HRA := Lib.hid hra
  clear h1 h2 hr hra
  have e1 := Lib.hid (show n1 ≤ maxLen by unfold maxLen; omega); have e2 := Lib.hid (show 32 * n1 ≤ 281474976710656 by omega)
  go_enter Tryz.func94, Tryz.ntmps94
  go_wp2_with (first
    | (refine wpList_store_row (o := ⟨none, .store 235 (.tmp 5) (.tmp 11), _, _, _, _⟩) rfl 235 (.tmp 5) (.tmp 11) rfl w.heap.size doesV rfl rfl _ _ (hnew rfl) info_does rfl does_ones ?_)
    | (at_make; refine wpList_make_full _ rfl _ _ 171 rfl (w.heap.size + 1) 174 i0 (.agg #[.slice none 0 0, .int .i64 0]) 2 Tryz.underlying171 hi0 hz0 hz1 .i64 .i64 _ _ n1 rfl rfl rfl rfl (by rw [hz2]; exact e2.out) e1.out (by simp) ?_))
  intro w1 ho hg
  have P0 := Lib.hid (pl_made ho)
  have hD : Hid (w1.heap[w.heap.size]? = some (.cells doesV 235 (0, 0))) := by
    show _ = _
    rw [hg.block _ (by simp) (by simp)]; exact hrs (hnew rfl)
  have k1 : Hid (Below w.heap.size w w1) := (below_setRow (al (Below.refl _ _) (Nat.le_refl _)) (Nat.le_refl _) _).grown hg (by simp) (by simp)
  have s1 : Hid (w.heap.size + 1 ≤ w1.heap.size) := by have := hg.size; simp at this; exact this
  clear ho hg e1 e2
  go_wp2
  go_loopw [17] (fun i wr => ∃ (k : Nat) (ts : List Par), k ≤ n1 ∧ i = .int .i64 k ∧ Hid (PL wr (w.heap.size + 1) (.slice (some ⟨w.heap.size + 1, 0, none⟩) n1 n1) n1 ts) ∧ Hid (ts.map parIs = prog (initS xss) (blankS n1) k) ∧ Hid (Below (w.heap.size + 1) w1 wr)) (fun i _ => n1 - (intOf i).toNat)
  case atStart => exact ⟨0, _, Nat.zero_le _, rfl, P0.out, by rw [Hid, prog_zero, List.map_replicate]; rfl, Below.refl _ _⟩
  case round =>
    obtain ⟨k, ts, hk, rfl, hP, hM, hB⟩ := hrel
    by_cases hlt : k < n1
    · obtain ⟨b, o, q, m, c', x, rfl, hc, hs, hx⟩ := H1.out.at k hlt
      have kw : Below w.heap.size w wr := k1.out.trans (hB.out.mono (by omega))
      have hcw := (kw.cell (p := ⟨b, o + k, none⟩) (lt_of_cell hc)).trans hc
      have HS := Lib.hid (hs.keep kw)
      have hrm : Room m := by have := HR.out x (List.mem_of_getElem? hx.out); rw [hs.len] at this; exact this
      have i1 : (k : Int) < (n1 : Int) := by omega
      have hsz := Nat.le_trans s1.out hB.out.size
      clear hc hs kw
      go_wp2_with fail
      refine Calls.mono (BClone_any q m c' x wr HS.out hrm) ?_; rintro e w2 ⟨q2, c2', rfl, ho2, hb2⟩
      have hPw := hP.out.keep hb2
      obtain ⟨t, ht⟩ : ∃ t, ts[k]? = some t := ⟨_, List.getElem?_eq_getElem (by rw [hPw.len]; exact hlt)⟩
      obtain ⟨y0, y1⟩ := par_cells hPw ht
      have z0 : w2.frozen? ⟨w.heap.size + 1, k * 2, none⟩ = false := hPw.own.frozenAt _
      have z1 : w2.frozen? ⟨w.heap.size + 1, k * 2 + 1, none⟩ = false := hPw.own.frozenAt _
      have FIN : Hid (PL ((w2.setCell ⟨w.heap.size + 1, k * 2, none⟩ (.slice q2 m c2')).setCell ⟨w.heap.size + 1, k * 2 + 1, none⟩ (.int .i64 k)) (w.heap.size + 1) (.slice (some ⟨w.heap.size + 1, 0, none⟩) n1 n1) n1 (ts.set k (.slice q2 m c2', (k : Int), x)) ∧
          (ts.set k (.slice q2 m c2', (k : Int), x)).map parIs = prog (initS xss) (blankS n1) (k + 1) ∧ Below (w.heap.size + 1) w1 ((w2.setCell ⟨w.heap.size + 1, k * 2, none⟩ (.slice q2 m c2')).setCell ⟨w.heap.size + 1, k * 2 + 1, none⟩ (.int .i64 k))) := by
        have how := (hPw.own.stored (k * 2) (.slice q2 m c2')).1
        have how2 := (how.stored (k * 2 + 1) (.int .i64 k)).1
        refine ⟨Pl.swap (w1 := wr) (w2 := w2) hP.out hlt ne_types ⟨_, _, _, rfl, ho2⟩ hsz hb2 ?_ (grown_trans (grownBy_setCell _ _ _ _) (grownBy_setCell _ _ _ _)), ?_, ?_⟩
        · rw [pcs_set _ _ _ (by rw [List.length_map, hP.out.len]; exact hlt)]; exact how2
        · rw [List.map_set, hM.out]
          exact prog_succ _ _ k n1 (by rw [initS_len]; exact H1.out.len) (by simp [blankS]) hlt _ (initS_at hx.out)
        · exact ((hB.out.trans (hb2.mono hsz)).setCell (Nat.le_refl _) _).setCell (Nat.le_refl _) _
      clear hPw ht ho2 hb2
      go_wp2
      go_roundw
      case rel => exact ⟨k + 1, _, by omega, by go_num, FIN.out.1, FIN.out.2.1, FIN.out.2.2⟩
      case measure => simp [intOf]; omega
    · have hkn : k = n1 := by omega
      subst hkn
      have hM2 : Hid (ts.map parIs = initS xss) := by
        show _ = _
        rw [hM.out]; exact prog_full _ _ _ (by rw [initS_len]; exact H1.out.len) (by simp [blankS])
      have hPl : Hid (PL wr (w.heap.size + 1) (.slice (some ⟨w.heap.size + 1, 0, none⟩) (initS xss).length k) (initS xss).length ts) := by
        show PL _ _ _ _ _
        rw [initS_len, H1.out.len]; exact hP.out
      clear hP hM
      go_wp2
      go_loopw [6, 32] (fun v i wv => ∃ (j : Nat) (ss : List Par) (uq : Option Addr) (uc : Nat), j ≤ n2 ∧ i = .int .i64 j ∧ v = .slice uq (playS (initS xss) (acs.take j)).length uc ∧ Hid (PL wv (w.heap.size + 1) (.slice uq (playS (initS xss) (acs.take j)).length uc) (playS (initS xss) (acs.take j)).length ss) ∧ Hid (ss.map parIs = playS (initS xss) (acs.take j)) ∧ Hid (Below (w.heap.size + 1) w1 wv)) (fun _ i _ => n2 - (intOf i).toNat)
      case atStart => exact ⟨0, ts, some ⟨w.heap.size + 1, 0, none⟩, k, Nat.zero_le _, rfl, by show _ = Value.slice _ (initS xss).length _; rw [initS_len, H1.out.len], hPl.out, hM2.out, hB.out⟩
      case round =>
        obtain ⟨j, ss, uq, uc, hj, rfl, rfl, hP, hM, hBv⟩ := hrel
        by_cases hjn : j < n2
        · have hal' : j < acs.length := by rw [H2.out.len]; exact hjn
          obtain ⟨a, ha⟩ : ∃ a, acs[j]? = some a := ⟨_, List.getElem?_eq_getElem hal'⟩
          have hNext := Lib.hid (playS_snoc (ps := initS xss) ha)
          have hL : (playS (initS xss) (acs.take j)).length < 4096 := by
            have := playS_len (initS xss) (acs.take j)
            rw [initS_len, H1.out.len, List.length_take] at this; omega
          have hRoom := Lib.hid (playS_room (initS_room HR.out) (fun a ha => HRA.out a (List.mem_of_mem_take ha)) : ∀ p, p ∈ playS (initS xss) (acs.take j) → Room p.1.length)
          have hra := HRA.out a (List.mem_of_getElem? ha)
          obtain ⟨PS, hPS⟩ : ∃ PS, PS = playS (initS xss) (acs.take j) := ⟨_, rfl⟩
          rw [← hPS] at hP hM hNext hRoom hL ⊢
          have HPS := Lib.hid hPS; clear hPS
          have kw : Below w.heap.size w wr := k1.out.trans (hBv.out.mono (by omega))
          obtain ⟨b, o, q, m, c', rfl, y0, y1, y2, y3, y4, hs, bi, bj, bb⟩ := (H2.out.keep kw).rs j a ha
          obtain ⟨d, i, jj, bt, bs⟩ := a
          simp only at y0 y1 y2 y3 y4 hs bi bj bb hra
          have i1 : (j : Int) < (n2 : Int) := by omega
          have hsz := Nat.le_trans s1.out hBv.out.size
          obtain ⟨W, hW⟩ : ∃ W, W = wr.alloc (.cells #[.int .i64 d, .int .i64 i, .int .i64 jj, .int .u32 bt, .slice q m c'] 176) := ⟨_, rfl⟩
          have hBW : Below wr.heap.size wr W := by rw [hW]; exact al (Below.refl _ _) (Nat.le_refl _)
          have x1 : W.heap[wr.heap.size]? = some (.cells #[.int .i64 d, .int .i64 i, .int .i64 jj, .int .u32 bt, .slice q m c'] 176 (0, 0)) := by rw [hW]; exact hnew rfl
          have hWs : W.heap.size = wr.heap.size + 1 := by rw [hW]; simp
          have SK : Hid (stepS PS ⟨d, i, jj, bt, bs⟩ = PS → PL W (w.heap.size + 1) (.slice uq (playS (initS xss) (acs.take (j + 1))).length uc) (playS (initS xss) (acs.take (j + 1))).length ss ∧ ss.map parIs = playS (initS xss) (acs.take (j + 1)) ∧ Below (w.heap.size + 1) w1 W ∧ PS.length = (playS (initS xss) (acs.take (j + 1))).length) := fun hst => by
            rw [hNext.out, hst]
            exact ⟨hP.out.keep hBW, hM.out, hBv.out.trans (hBW.mono hsz), rfl⟩
          have HS := Lib.hid hs; have HRA2 := Lib.hid hra; have HBW := Lib.hid hBW; have X1 := Lib.hid x1; have HA := Lib.hid ha
          clear hs hra hBW x1 ha
          by_cases hd0 : d < 0
          · have hst := SK.out (by unfold stepS; rw [if_pos (Or.inl hd0)])
            have HST := Lib.hid hst; clear hst
            go_wp2
            rw [← hW]
            go_roundw
            case rel => exact ⟨j + 1, ss, uq, uc, by omega, by go_num, by rw [HST.out.2.2.2], HST.out.1, HST.out.2.1, HST.out.2.2.1⟩
            case measure => simp [intOf]; omega
          · have hd0' : 0 ≤ d := by omega
            by_cases hd6 : 6 ≤ d
            · have hd6' : ¬ d < 0 := by omega
              have HST := Lib.hid (SK.out (by unfold stepS; rw [if_pos (Or.inr (Or.inl hd6))]))
              clear hd6' hd0
              go_wp2
              rw [← hW]
              go_roundw
              case rel => exact ⟨j + 1, ss, uq, uc, by omega, by go_num, by rw [HST.out.2.2.2], HST.out.1, HST.out.2.1, HST.out.2.2.1⟩
              case measure => simp [intOf]; omega
            · have hd6' : d < 6 := by omega
              by_cases hj0 : jj < 0
              · have HST := Lib.hid (SK.out (by unfold stepS; rw [if_pos (Or.inr (Or.inr hj0))]))
                clear hd0 hd6
                go_wp2
                rw [← hW]
                go_roundw
                case rel => exact ⟨j + 1, ss, uq, uc, by omega, by go_num, by rw [HST.out.2.2.2], HST.out.1, HST.out.2.1, HST.out.2.2.1⟩
                case measure => simp [intOf]; omega
              · have hj0' : 0 ≤ jj := by omega
                have hn3 : Hid (¬ (d < 0 ∨ 6 ≤ d ∨ jj < 0)) := by show ¬ _; omega
                clear hd0 hd6 hj0
                have hDW : Hid (W.heap[w.heap.size]? = some (.cells doesV 235 (0, 0))) := by
                  show _ = _
                  rw [HBW.out.block _ (by omega), hBv.out.block _ (by omega)]; exact hD.out
                have s0' : W.cell? ⟨wr.heap.size, 0, none⟩ = some (.int .i64 d) := cell_of_row _ _ 0 _ _ _ X1.out
                have s1' : W.cell? ⟨wr.heap.size, 1, none⟩ = some (.int .i64 i) := cell_of_row _ _ 1 _ _ _ X1.out
                have s2' : W.cell? ⟨wr.heap.size, 2, none⟩ = some (.int .i64 jj) := cell_of_row _ _ 2 _ _ _ X1.out
                have s3' : W.cell? ⟨wr.heap.size, 3, none⟩ = some (.int .u32 bt) := cell_of_row _ _ 3 _ _ _ X1.out
                have s4' : W.cell? ⟨wr.heap.size, 4, none⟩ = some (.slice q m c') := cell_of_row _ _ 4 _ _ _ X1.out
                have hPW : Hid (PL W.drew (w.heap.size + 1) (.slice uq PS.length uc) PS.length ss) := (hP.out.keep HBW.out).keep (Below.refl _ _).drew
                have hSW : Hid (Sl B8 W.drew q m c' bs) := (HS.out.keep HBW.out).keep (Below.refl _ _).drew
                have hbW : Hid (w.heap.size + 1 ≤ W.drew.heap.size) := by show _ ≤ W.heap.size; omega
                have hml : Hid (bs.length = m) := HS.out.len
                by_cases h5 : d = 5
                · subst h5
                  have hst : stepS PS ⟨5, i, jj, bt, bs⟩ = PS ++ [(bs, -1)] := by unfold stepS; rw [if_neg hn3.out, if_pos rfl]
                  have C : Hid (Calls Tryz.prog 149 #[actV 5 i jj bt (.slice q m c'), .slice uq PS.length uc] W.drew (RetP (w.heap.size + 1) W.drew (playS (initS xss) (acs.take (j + 1))))) := by
                    rw [hNext.out, hst]
                    have := forge_any (w.heap.size + 1) PS.length m c' (.slice uq PS.length uc) ss 5 i jj bt q bs W.drew hPW.out hbW.out hSW.out (by rw [← hml.out]; exact HRA2.out) hL
                    rw [hM.out] at this
                    exact this
                  have dd : W.cell? ⟨w.heap.size, 5, none⟩ = some (.func (.func 149) #[] #[]) := cell_of_row _ _ 5 _ _ _ hDW.out
                  have HC := Lib.hid C.out; clear C hst
                  go_wp2_with fail
                  rw [← hW]
                  clear hW
                  go_region_with (go_at_call 149; refine Calls.mono HC.out ?_; rintro e w3 ⟨u', ss', rfl, hP', hS', hB'⟩; obtain ⟨uq', uc', rfl⟩ := Pl.shape hP'; have HP' := Lib.hid hP'; have HS' := Lib.hid hS'; have HB' := Lib.hid hB'; clear hP' hS' hB')
                  all_goals go_wp2
                  all_goals go_roundw
                  all_goals first
                    | exact ⟨j + 1, ss', uq', uc', by omega, by go_num, rfl, HP'.out, HS'.out, hBv.out.trans ((bdn (n := 1) (HBW.out.mono hsz)).trans (HB'.out))⟩
                    | (simp [intOf]; omega)
                · have h5b : (d != 5) = true := by simpa using h5
                  by_cases hi0 : i < 0
                  · have HST := Lib.hid (SK.out (by unfold stepS; rw [if_neg hn3.out, if_neg h5]; split; rfl; rw [if_pos hi0]))
                    clear h5
                    go_wp2
                    rw [← hW]
                    go_roundw
                    case rel => exact ⟨j + 1, ss, uq, uc, by omega, by go_num, by rw [HST.out.2.2.2], HST.out.1, HST.out.2.1, HST.out.2.2.1⟩
                    case measure => simp [intOf]; omega
                  · by_cases him : (PS.length : Int) ≤ i
                    · have HST := Lib.hid (SK.out (by unfold stepS; rw [if_neg hn3.out, if_neg h5, List.getElem?_eq_none (show PS.length ≤ i.toNat by omega)]))
                      have hi0' : 0 ≤ i := by omega
                      clear h5 hi0
                      go_wp2
                      rw [← hW]
                      go_roundw
                      case rel => exact ⟨j + 1, ss, uq, uc, by omega, by go_num, by rw [HST.out.2.2.2], HST.out.1, HST.out.2.1, HST.out.2.2.1⟩
                      case measure => simp [intOf]; omega
                    · obtain ⟨i0, rfl⟩ := Int.eq_ofNat_of_zero_le (show 0 ≤ i by omega)
                      obtain ⟨j0, rfl⟩ := Int.eq_ofNat_of_zero_le hj0'
                      have him' : (i0 : Int) < (PS.length : Int) := by omega
                      have hil : i0 < ss.length := by rw [hP.out.len]; omega
                      obtain ⟨t, ht⟩ : ∃ t, ss[i0]? = some t := ⟨_, List.getElem?_eq_getElem hil⟩
                      have htp : PS[i0]? = some (parIs t) := by rw [← hM.out, List.getElem?_map, ht]; rfl
                      have hrt := hRoom.out _ (List.mem_of_getElem? htp)
                      have hst0 : Hid (∀ d, d ≠ 5 → 0 ≤ d → d < 6 → stepS PS ⟨d, i0, j0, bt, bs⟩ = if d = 0 then dropAt PS i0 else if d = 1 then PS ++ [parIs t] else if d = 2 then putAtP (dropAt PS i0) (min j0 (PS.length - 1)) (parIs t) else if d = 3 then PS.set i0 (cutP (parIs t) j0) else PS.set i0 (maskP (parIs t) bt j0)) := fun d h5 h0 h6 => by
                        unfold stepS; rw [if_neg (by show ¬ (d < 0 ∨ 6 ≤ d ∨ (j0 : Int) < 0); omega), if_neg h5]; simp only [Int.toNat_natCast, htp]; rw [if_neg (by omega)]
                      have HT := Lib.hid ht; have HRT : Hid (Room t.2.2.length) := hrt
                      have bj' := Lib.hid (show j0 ≤ 9223372036854775807 by omega)
                      clear ht htp hrt hil him hi0
                      have hd5 : d = 0 ∨ d = 1 ∨ d = 2 ∨ d = 3 ∨ d = 4 := by omega
                      clear h5
                      rcases hd5 with rfl | rfl | rfl | rfl | rfl
                      · have hst : stepS PS ⟨0, i0, j0, bt, bs⟩ = dropAt PS i0 := hst0.out 0 (by decide) (by decide) (by decide)
                        have C : Hid (Calls Tryz.prog 144 #[actV 0 i0 j0 bt (.slice q m c'), .slice uq PS.length uc] W.drew (RetP (w.heap.size + 1) W.drew (playS (initS xss) (acs.take (j + 1))))) := by
                          rw [hNext.out, hst]
                          have := drop_any (w.heap.size + 1) PS.length i0 (.slice uq PS.length uc) ss 0 j0 bt (.slice q m c') W.drew hPW.out (by omega) hbW.out
                          rw [hM.out] at this
                          exact this
                        have dd : W.cell? ⟨w.heap.size, 0, none⟩ = some (.func (.func 144) #[] #[]) := cell_of_row _ _ 0 _ _ _ hDW.out
                        have HC := Lib.hid C.out; clear C hst
                        go_wp2_with fail
                        rw [← hW]
                        clear hW
                        go_region_with (go_at_call 144; refine Calls.mono HC.out ?_; rintro e w3 ⟨u', ss', rfl, hP', hS', hB'⟩; obtain ⟨uq', uc', rfl⟩ := Pl.shape hP'; have HP' := Lib.hid hP'; have HS' := Lib.hid hS'; have HB' := Lib.hid hB'; clear hP' hS' hB')
                        all_goals go_wp2
                        all_goals go_roundw
                        all_goals first
                          | exact ⟨j + 1, ss', uq', uc', by omega, by go_num, rfl, HP'.out, HS'.out, hBv.out.trans ((bdn (n := 1) (HBW.out.mono hsz)).trans (HB'.out))⟩
                          | (simp [intOf]; omega)
                      · have hst : stepS PS ⟨1, i0, j0, bt, bs⟩ = PS ++ [parIs t] := hst0.out 1 (by decide) (by decide) (by decide)
                        have C : Hid (Calls Tryz.prog 145 #[actV 1 i0 j0 bt (.slice q m c'), .slice uq PS.length uc] W.drew (RetP (w.heap.size + 1) W.drew (playS (initS xss) (acs.take (j + 1))))) := by
                          rw [hNext.out, hst]
                          have := double_any (w.heap.size + 1) PS.length i0 j0 (.slice uq PS.length uc) ss t 1 bt (.slice q m c') W.drew hPW.out HT.out hbW.out HRT.out hL
                          rw [hM.out] at this
                          exact this
                        have dd : W.cell? ⟨w.heap.size, 1, none⟩ = some (.func (.func 145) #[] #[]) := cell_of_row _ _ 1 _ _ _ hDW.out
                        have HC := Lib.hid C.out; clear C hst
                        go_wp2_with fail
                        rw [← hW]
                        clear hW
                        go_region_with (go_at_call 145; refine Calls.mono HC.out ?_; rintro e w3 ⟨u', ss', rfl, hP', hS', hB'⟩; obtain ⟨uq', uc', rfl⟩ := Pl.shape hP'; have HP' := Lib.hid hP'; have HS' := Lib.hid hS'; have HB' := Lib.hid hB'; clear hP' hS' hB')
                        all_goals go_wp2
                        all_goals go_roundw
                        all_goals first
                          | exact ⟨j + 1, ss', uq', uc', by omega, by go_num, rfl, HP'.out, HS'.out, hBv.out.trans ((bdn (n := 1) (HBW.out.mono hsz)).trans (HB'.out))⟩
                          | (simp [intOf]; omega)
                      · have hst : stepS PS ⟨2, i0, j0, bt, bs⟩ = putAtP (dropAt PS i0) (min j0 (PS.length - 1)) (parIs t) := hst0.out 2 (by decide) (by decide) (by decide)
                        have C : Hid (Calls Tryz.prog 146 #[actV 2 i0 j0 bt (.slice q m c'), .slice uq PS.length uc] W.drew (RetP (w.heap.size + 1) W.drew (playS (initS xss) (acs.take (j + 1))))) := by
                          rw [hNext.out, hst]
                          have := move_any (w.heap.size + 1) PS.length i0 j0 (.slice uq PS.length uc) ss t 2 bt (.slice q m c') W.drew hPW.out HT.out hbW.out bj'.out
                          rw [hM.out] at this
                          exact this
                        have dd : W.cell? ⟨w.heap.size, 2, none⟩ = some (.func (.func 146) #[] #[]) := cell_of_row _ _ 2 _ _ _ hDW.out
                        have HC := Lib.hid C.out; clear C hst
                        go_wp2_with fail
                        rw [← hW]
                        clear hW
                        go_region_with (go_at_call 146; refine Calls.mono HC.out ?_; rintro e w3 ⟨u', ss', rfl, hP', hS', hB'⟩; obtain ⟨uq', uc', rfl⟩ := Pl.shape hP'; have HP' := Lib.hid hP'; have HS' := Lib.hid hS'; have HB' := Lib.hid hB'; clear hP' hS' hB')
                        all_goals go_wp2
                        all_goals go_roundw
                        all_goals first
                          | exact ⟨j + 1, ss', uq', uc', by omega, by go_num, rfl, HP'.out, HS'.out, hBv.out.trans ((bdn (n := 1) (HBW.out.mono hsz)).trans (HB'.out))⟩
                          | (simp [intOf]; omega)
                      · have hst : stepS PS ⟨3, i0, j0, bt, bs⟩ = PS.set i0 (cutP (parIs t) j0) := hst0.out 3 (by decide) (by decide) (by decide)
                        have C : Hid (Calls Tryz.prog 147 #[actV 3 i0 j0 bt (.slice q m c'), .slice uq PS.length uc] W.drew (RetP (w.heap.size + 1) W.drew (playS (initS xss) (acs.take (j + 1))))) := by
                          rw [hNext.out, hst]
                          have := cut_any (w.heap.size + 1) PS.length i0 j0 (.slice uq PS.length uc) ss t 3 bt (.slice q m c') W.drew hPW.out HT.out hbW.out HRT.out bj'.out
                          rw [hM.out] at this
                          exact this
                        have dd : W.cell? ⟨w.heap.size, 3, none⟩ = some (.func (.func 147) #[] #[]) := cell_of_row _ _ 3 _ _ _ hDW.out
                        have HC := Lib.hid C.out; clear C hst
                        go_wp2_with fail
                        rw [← hW]
                        clear hW
                        go_region_with (go_at_call 147; refine Calls.mono HC.out ?_; rintro e w3 ⟨u', ss', rfl, hP', hS', hB'⟩; obtain ⟨uq', uc', rfl⟩ := Pl.shape hP'; have HP' := Lib.hid hP'; have HS' := Lib.hid hS'; have HB' := Lib.hid hB'; clear hP' hS' hB')
                        all_goals go_wp2
                        all_goals go_roundw
                        all_goals first
                          | exact ⟨j + 1, ss', uq', uc', by omega, by go_num, rfl, HP'.out, HS'.out, hBv.out.trans ((bdn (n := 1) (HBW.out.mono hsz)).trans (HB'.out))⟩
                          | (simp [intOf]; omega)
                      · have hst : stepS PS ⟨4, i0, j0, bt, bs⟩ = PS.set i0 (maskP (parIs t) bt j0) := hst0.out 4 (by decide) (by decide) (by decide)
                        have C : Hid (Calls Tryz.prog 148 #[actV 4 i0 j0 bt (.slice q m c'), .slice uq PS.length uc] W.drew (RetP (w.heap.size + 1) W.drew (playS (initS xss) (acs.take (j + 1))))) := by
                          rw [hNext.out, hst]
                          have := mask_any (w.heap.size + 1) PS.length i0 j0 bt (.slice uq PS.length uc) ss t 4 (.slice q m c') W.drew hPW.out HT.out hbW.out HRT.out bj'.out bb
                          rw [hM.out] at this
                          exact this
                        have dd : W.cell? ⟨w.heap.size, 4, none⟩ = some (.func (.func 148) #[] #[]) := cell_of_row _ _ 4 _ _ _ hDW.out
                        have HC := Lib.hid C.out; clear C hst
                        go_wp2_with fail
                        rw [← hW]
                        clear hW
                        go_region_with (go_at_call 148; refine Calls.mono HC.out ?_; rintro e w3 ⟨u', ss', rfl, hP', hS', hB'⟩; obtain ⟨uq', uc', rfl⟩ := Pl.shape hP'; have HP' := Lib.hid hP'; have HS' := Lib.hid hS'; have HB' := Lib.hid hB'; clear hP' hS' hB')
                        all_goals go_wp2
                        all_goals go_roundw
                        all_goals first
                          | exact ⟨j + 1, ss', uq', uc', by omega, by go_num, rfl, HP'.out, HS'.out, hBv.out.trans ((bdn (n := 1) (HBW.out.mono hsz)).trans (HB'.out))⟩
                          | (simp [intOf]; omega)
        · have hjk : j = n2 := by omega
          subst hjk
          have e : acs.take j = acs := List.take_of_length_le (by rw [H2.out.len]; omega)
          rw [e] at hP hM ⊢
          go_wp2
          go_ret
          exact RetP.of (Pl.mono hP.out (by omega)) (k1.out.trans (hBv.out.mono (by omega))) hM.out
end Go.Proofs.YtfbmdlfkipipfaaGreatDoor
namespace Go.Proofs.YtfbmdlfkipipfaaGreatDoor
open Go.RowKit Go.By
theorem info_rowsA : (Tryz.prog.info? 22).map (fun i => (i.zero, i.size, i.bytes)) = some (some (.slice none 0 0), 1, 24) := by kernel_rfl
theorem ne_types2 : (5 : Nat) ≠ 22 := by decide
/-- rows in new memory -/
def RetRows (w : World) (xss : List (List UInt8)) (e : Ending) (w' : World) : Prop :=
  ∃ q c, e = .returned (.slice q xss.length c) ∧ Own2 22 5 w' w.heap.size (.slice q xss.length c) xss.length xss ∧ Below w.heap.size w w'
theorem take_map_snoc {α β : Type} (f : α → β) {ts : List α} {k : Nat} {t : α} (h : ts[k]? = some t) : (ts.take (k + 1)).map f = (ts.take k).map f ++ [f t] := by
  obtain ⟨hk, e⟩ := List.getElem?_eq_some_iff.1 h
  rw [List.take_succ_eq_append_getElem hk, e, List.map_append]; rfl
set_option maxRecDepth 100000 in
set_option maxHeartbeats 2000000 in
theorem Apply_any (p1 p2 : Option Addr) (n1 c1 n2 c2 : Nat) (xss : List (List UInt8)) (acs : List ActD) (w : World) (h1 : Sl2 w p1 n1 c1 xss) (h2 : SlA w p2 n2 c2 acs) (hr : ∀ xs, xs ∈ xss → Room xs.length) (hra : ∀ a, a ∈ acs → Room a.bs.length) (hlen : n1 + n2 < 4096) :
    Calls Tryz.prog 40 #[.slice p1 n1 c1, .slice p2 n2 c2] w (RetRows w ((playS (initS xss) acs).map (·.1))) := by
  obtain ⟨i0, hi0, hz0, hz1, hz2⟩ := info_parts info_rowsA
  have HC := Lib.hid (play_any p1 p2 n1 c1 n2 c2 xss acs w h1 h2 hr hra hlen)
  have HL : Hid ((playS (initS xss) acs).length < 4096) := by
    have := playS_len (initS xss) acs
    rw [initS_len, h1.len, h2.len] at this; show _ < _; omega
  clear h1 h2 hr hra hlen
  generalize playS (initS xss) acs = PS at *
  go_enter Tryz.func40, Tryz.ntmps40
  go_wp2_with fail
  refine Calls.mono HC.out ?_; rintro e w1 ⟨u, ss, rfl, hP, hS, hB⟩
  obtain ⟨q, c, rfl⟩ := Pl.shape hP
  have HP := Lib.hid hP; have HS := Lib.hid hS; have HB := Lib.hid hB
  have hl4 := HL.out
  have hsl : Hid (ss.length = PS.length) := hP.len
  clear hP hS hB
  obtain ⟨n, hn⟩ : ∃ n, n = PS.length := ⟨_, rfl⟩
  rw [← hn] at HP hl4 hsl ⊢
  have HN := Lib.hid hn; clear hn
  go_wp2
  go_loopw [5, 12] (fun v i wr => ∃ (k : Nat) (vs : List Value) (uq : Option Addr) (uc : Nat), k ≤ n ∧ i = .int .i64 k ∧ v = .slice uq k uc ∧ Hid (wr.ownsRow w.heap.size 22 1 (.slice uq k uc) k vs) ∧ Hid (vs = (ss.take k).map (·.1)) ∧ Hid (Below w.heap.size w wr) ∧
    Hid (PL wr w.heap.size (.slice q n c) n ss)) (fun _ i _ => n - (intOf i).toNat)
  case atStart => exact ⟨0, [], none, 0, Nat.zero_le _, rfl, rfl, World.ownsRow_nil _ _ _ _, rfl, HB.out, HP.out⟩
  case round =>
    obtain ⟨k, vs, uq, uc, hk, rfl, rfl, hO, hV, hBw, hPw⟩ := hrel
    by_cases hlt : k < n
    · obtain ⟨t, ht⟩ : ∃ t, ss[k]? = some t := ⟨_, List.getElem?_eq_getElem (by rw [hsl.out]; exact hlt)⟩
      obtain ⟨g, cur, rfl, hg, -⟩ := owns2_open hPw.out.own (by omega)
      obtain ⟨y0, y1⟩ := par_cells hPw.out ht
      obtain ⟨q1, m1, c1', e1, hrow⟩ := hPw.out.row t (List.mem_of_getElem? ht)
      rw [e1] at y0
      have i1 : (k : Int) < (n : Int) := by omega
      have hsz := hBw.out.size
      have hVS := Lib.hid (take_map_snoc (·.1) ht)
      have HE1 := Lib.hid e1
      clear e1 hrow ht
      have hOA : Hid (∀ o1 o2, ((wr.alloc o1).alloc o2).ownsRow w.heap.size 22 1 (.slice uq k uc) k vs) := fun o1 o2 => owns_keep hO.out (al (al (Below.refl _ _) (Nat.le_refl _)) (by simp))
      go_wp2_with (at_builtin; refine wpList_append_own _ rfl _ _ 31 rfl w.heap.size 22 i0 (.slice none 0 0) 1 24 Tryz.underlying31 hi0 hz0 hz1 hz2 rfl (by omega) _ k vs rfl (hOA.out _ _) ⟨wr.heap.size + 1, 0, none⟩ 1 1 [.slice q1 m1 c1'] rfl rfl ?c1 ?c2 ?c3 ?c4 ?c5 ?_)
      case c1 =>
        intro j x hj
        rw [Addr.add_lit, Nat.zero_add, cell_of_row _ _ j _ _ _ (hnew (by simp))]
        match j with
        | 0 => simpa using hj
        | j + 1 => simp at hj
      case c2 => intro x hx; simp at hx; subst hx; rfl
      case c3 => unfold maxLen; omega
      case c4 => omega
      case c5 => simp; omega
      intro v' w' ho' hg' _
      obtain ⟨uq', uc', rfl⟩ := owns_shape ho'
      have FIN : Hid (Below w.heap.size w w' ∧ PL w' w.heap.size (.slice (some ⟨g, 0, none⟩) n c) n ss) := by
        have hb2 := fun o1 o2 => al (o := o2) (al (o := o1) (Below.refl wr.heap.size wr) (Nat.le_refl _)) (by simp)
        refine ⟨(hBw.out.trans ((hb2 _ _).mono hsz)).grown hg' (by simp; omega) (fun r hr => (hO.out.lt r hr).1), ?_⟩
        have hpk := hPw.out.keep (hb2 (.cells #[.slice q1 m1 c1', .int .i64 t.2.1] 174) (.cells #[.slice q1 m1 c1'] 22))
        refine ⟨hpk.len, owns_kept hpk.own hg' (owns_ne hpk.own (hOA.out _ _) (by decide)), fun s hs => ?_, hpk.dis⟩
        obtain ⟨q3, m3, c3, e3, hr3⟩ := hpk.row s hs
        exact ⟨q3, m3, c3, e3, owns_kept hr3 hg' (owns_ne hr3 (hOA.out _ _) ne_types2)⟩
      have HO' := Lib.hid ho'
      clear ho' hg'
      go_wp2
      go_roundw
      case rel => exact ⟨k + 1, _, uq', uc', by omega, by go_num, rfl, HO'.out, by rw [Hid, hVS.out, hV.out, HE1.out], FIN.out.1, FIN.out.2⟩
      case measure => simp [intOf]; omega
    · have hkn : k = n := by omega
      subst hkn
      have hfin : Hid (RetRows w (PS.map (·.1)) (.returned (.slice uq k uc)) wr) := by
        have hl : (PS.map (·.1)).length = k := by rw [List.length_map, HN.out]
        refine ⟨uq, uc, by rw [hl], ?_, hBw.out⟩
        rw [hl]
        refine ⟨vs, hO.out, hl, fun jx val hj => ?_⟩
        rw [hV.out, List.getElem?_map, List.getElem?_take] at hj
        split at hj
        · cases ht : ss[jx]? with
          | none => rw [ht] at hj; simp at hj
          | some t =>
            rw [ht] at hj
            simp at hj
            obtain ⟨q3, m3, c3, e3, hr3⟩ := hPw.out.row t (List.mem_of_getElem? ht)
            have hm3 : m3 = t.2.2.length := by have := hr3.1; simp at this; exact this.symm
            subst hm3
            refine ⟨t.2.2, q3, c3, ?_, by rw [← hj, e3], hr3⟩
            rw [← HS.out, List.map_map, List.getElem?_map, ht]; rfl
        · simp at hj
      go_wp2
      go_ret
      exact hfin.out
end Go.Proofs.YtfbmdlfkipipfaaGreatDoor
namespace Go.Proofs.YtfbmdlfkipipfaaGreatDoor
open Go.RowKit Go.By
end Go.Proofs.YtfbmdlfkipipfaaGreatDoor
namespace Go.Proofs.YtfbmdlfkipipfaaGreatDoor
open Go.RowKit Go.By
def few20 (xss : List (List UInt8)) (acs : List ActD) : Bool := xss.all (fun x => decide (x.length ≤ 300)) && acs.all (fun a => decide (a.bs.length ≤ 300)) && (decide (xss.length ≤ 40) && decide (acs.length ≤ 40))
set_option maxRecDepth 100000 in
set_option maxHeartbeats 2000000 in
theorem Few20_any (p1 p2 : Option Addr) (n1 c1 n2 c2 : Nat) (xss : List (List UInt8)) (acs : List ActD) (w : World) (h1 : Sl2 w p1 n1 c1 xss) (h2 : SlA w p2 n2 c2 acs) :
    Calls Tryz.prog 93 #[.slice p1 n1 c1, .slice p2 n2 c2] w fun e w' => e = .returned (.bool (few20 xss acs)) ∧ Below w.heap.size w w' := by
  have b1 := h1.bound; have b2 := h2.bound
  have H1 := Lib.hid h1; have H2 := Lib.hid h2
  clear h1 h2
  go_enter Tryz.func93, Tryz.ntmps93
  go_wp2
  go_loop [11] (fun i => ∃ k : Nat, k ≤ n1 ∧ i = .int .i64 k ∧ Hid (∀ j x, j < k → xss[j]? = some x → x.length ≤ 300)) (fun i => n1 - (intOf i).toNat)
  case atStart => exact ⟨0, Nat.zero_le _, rfl, fun j x hj => by omega⟩
  case round =>
    obtain ⟨k, hk, rfl, hj⟩ := hrel
    by_cases hlt : k < n1
    · obtain ⟨b, o, q, m, c', x, rfl, hc, hs, hx⟩ := H1.out.at k hlt
      have hml := Lib.hid hs.len
      have hmb := hs.bound
      clear hs
      by_cases hm : m ≤ 300
      · have hm' : (m : Int) ≤ 300 := by omega
        have HM := Lib.hid hm
        clear hm
        go_wp2
        go_round
        case rel => exact ⟨k + 1, by omega, by go_num, fun j y hj' hy => by
          by_cases e : j = k
          · subst e; have := hx.out.symm.trans hy; cases this; rw [hml.out]; exact HM.out
          · exact hj.out j y (by omega) hy⟩
        case measure => simp [intOf]; omega
      · have hm' : (300 : Int) < (m : Int) := by omega
        have HM := Lib.hid hm
        clear hm
        go_wp2
        go_ret
        refine ⟨?_, Below.refl _ _⟩
        have : few20 xss acs = false := by
          unfold few20
          have : xss.all (fun x => decide (x.length ≤ 300)) = false := by
            rw [List.all_eq_false]; exact ⟨x, List.mem_of_getElem? hx.out, by have := hml.out; have := HM.out; simp; omega⟩
          rw [this]; rfl
        rw [this]; rfl
    · have HA : Hid (xss.all (fun x => decide (x.length ≤ 300)) = true) := List.all_eq_true.2 fun x hx => by
        obtain ⟨r, hr, e⟩ := List.getElem_of_mem hx
        exact decide_eq_true (hj.out r x (by have := H1.out.len; omega) (by rw [List.getElem?_eq_getElem hr, e]))
      clear hj
      go_wp2
      go_loopw [21] (fun i wr => ∃ k : Nat, k ≤ n2 ∧ i = .int .i64 k ∧ Hid (∀ j a, j < k → acs[j]? = some a → a.bs.length ≤ 300) ∧ Hid (Below w.heap.size w wr)) (fun i _ => n2 - (intOf i).toNat)
      case atStart => exact ⟨0, Nat.zero_le _, rfl, fun j x hj => by omega, Below.refl _ _⟩
      case round =>
        obtain ⟨j, hj, rfl, hall, hB⟩ := hrel
        by_cases hjn : j < n2
        · obtain ⟨a, ha⟩ : ∃ a, acs[j]? = some a := ⟨_, List.getElem?_eq_getElem (by rw [H2.out.len]; exact hjn)⟩
          obtain ⟨b, o, q, m, c', rfl, y0, y1, y2, y3, y4, hs, bi, bj, bb⟩ := (H2.out.keep hB.out).rs j a ha
          have hml := Lib.hid hs.len
          have hmb := hs.bound
          have hsz := hB.out.size
          have HAa := Lib.hid ha
          obtain ⟨d, i, jj, bt, bs⟩ := a
          simp only at y0 y1 y2 y3 y4 hml bi bj bb
          have i1 : (j : Int) < (n2 : Int) := by omega
          clear hs ha
          have hBn : Hid (∀ o, Below w.heap.size w (wr.alloc o)) := fun o => al hB.out hsz
          by_cases hm : m ≤ 300
          · have hm' : (m : Int) ≤ 300 := by omega
            have HM := Lib.hid hm
            clear hm
            go_wp2
            go_roundw
            case rel => exact ⟨j + 1, by omega, by go_num, fun r y hr hy => by
              by_cases e : r = j
              · subst e; have := HAa.out.symm.trans hy; cases this; show bs.length ≤ 300; rw [hml.out]; exact HM.out
              · exact hall.out r y (by omega) hy, hBn.out _⟩
            case measure => simp [intOf]; omega
          · have hm' : (300 : Int) < (m : Int) := by omega
            have HM := Lib.hid hm
            clear hm
            go_wp2
            go_ret
            refine ⟨?_, hBn.out _⟩
            have : few20 xss acs = false := by
              unfold few20
              have : acs.all (fun a => decide (a.bs.length ≤ 300)) = false := by
                rw [List.all_eq_false]; exact ⟨_, List.mem_of_getElem? HAa.out, by have := hml.out; have := HM.out; simp; omega⟩
              rw [HA.out, this]; rfl
            rw [this]; rfl
        · have HAA : Hid (acs.all (fun a => decide (a.bs.length ≤ 300)) = true) := List.all_eq_true.2 fun a ha => by
            obtain ⟨r, hr, e⟩ := List.getElem_of_mem ha
            exact decide_eq_true (hall.out r a (by have := H2.out.len; omega) (by rw [List.getElem?_eq_getElem hr, e]))
          have HR : Hid (few20 xss acs = (decide (n1 ≤ 40) && decide (n2 ≤ 40))) := by unfold few20; rw [Hid, HA.out, HAA.out, H1.out.len, H2.out.len]; rfl
          by_cases g1 : n1 ≤ 40
          · have g1' : (n1 : Int) ≤ 40 := by omega
            by_cases g2 : n2 ≤ 40
            · have g2' : (n2 : Int) ≤ 40 := by omega
              rw [decide_eq_true g1, decide_eq_true g2] at HR
              go_wp2
              go_ret
              exact ⟨by rw [HR.out]; rfl, hB.out⟩
            · have g2' : (40 : Int) < (n2 : Int) := by omega
              rw [decide_eq_true g1, decide_eq_false g2] at HR
              clear g2
              go_wp2
              have g3 : ¬ (n2 : Int) ≤ 40 := by omega
              go_ret
              exact ⟨by rw [HR.out]; simp [g3], hB.out⟩
          · have g1' : (40 : Int) < (n1 : Int) := by omega
            rw [decide_eq_false g1, Bool.false_and] at HR
            clear g1
            go_wp2
            go_ret
            exact ⟨by rw [HR.out]; rfl, hB.out⟩
end Go.Proofs.YtfbmdlfkipipfaaGreatDoor
namespace Go.Proofs.YtfbmdlfkipipfaaGreatDoor
open Go.RowKit Go.By
theorem init_bytes (xss : List (List UInt8)) : (initS xss).map (·.1) = xss := by
  apply List.ext_getElem?
  intro i
  rw [List.getElem?_map]
  cases hx : xss[i]? with
  | none =>
    rw [List.getElem?_eq_none (by rw [initS_len]; exact List.getElem?_eq_none_iff.1 hx)]; rfl
  | some x => rw [initS_at hx]; rfl
end Go.Proofs.YtfbmdlfkipipfaaGreatDoor
namespace Go.Proofs.YtfbmdlfkipipfaaGreatDoor
open Go.RowKit Go.By Gf Go.Maps
/-- a taker's turn: its rows and its status -/
def tkF (k t D : Nat) (s : List Rw × Nat) (x : List UInt8) : List Rw × Nat := (takeK k t D s.1 s.2 x, takeS k t D s.1 s.2 x)
def tkR (k t D : Nat) (came : List (List UInt8)) : List Rw × Nat := came.foldl (tkF k t D) ([], 0)
theorem tkR_snoc {k t D : Nat} {came : List (List UInt8)} {i : Nat} {x : List UInt8} (h : came[i]? = some x) : tkR k t D (came.take (i + 1)) = tkF k t D (tkR k t D (came.take i)) x := by
  obtain ⟨hi, e⟩ := List.getElem?_eq_some_iff.1 h
  unfold tkR
  rw [foldl_take_succ _ _ _ _ hi, e]
theorem tkF_done {k t D : Nat} {s : List Rw × Nat} {x : List UInt8} (h : s.2 = 1 → s.1.length = k) : (tkF k t D s x).2 = 1 → (tkF k t D s x).1.length = k := by
  unfold tkF takeK takeS
  by_cases hc : readC k t D x = 0 ∧ s.2 = 0
  · rw [if_pos hc, if_pos hc]
    unfold nextS
    intro e
    simp only at e ⊢
    by_cases h2 : codeF s.1 (eqX k t x) = 2
    · rw [if_pos h2] at e; cases e
    · rw [if_neg h2] at e
      by_cases h3 : (putK s.1 (eqX k t x)).length = k
      · exact h3
      · rw [if_neg h3] at e; cases e
  · rw [if_neg hc, if_neg hc]; exact h
theorem tkF_st {k t D : Nat} {s : List Rw × Nat} {x : List UInt8} (h : s.2 ≤ 2) : (tkF k t D s x).2 ≤ 2 := by
  unfold tkF takeS
  simp only
  by_cases hc : readC k t D x = 0 ∧ s.2 = 0
  · rw [if_pos hc]
    unfold nextS
    split
    · omega
    · split <;> omega
  · rw [if_neg hc]; exact h
theorem tkR_good {k t D : Nat} (came : List (List UInt8)) : ((tkR k t D came).2 = 1 → (tkR k t D came).1.length = k) ∧ (tkR k t D came).2 ≤ 2 := by
  unfold tkR
  have : ∀ (l : List (List UInt8)) (s : List Rw × Nat), (s.2 = 1 → s.1.length = k) → s.2 ≤ 2 → ((l.foldl (tkF k t D) s).2 = 1 → (l.foldl (tkF k t D) s).1.length = k) ∧ (l.foldl (tkF k t D) s).2 ≤ 2 := by
    intro l
    induction l with
    | nil => exact fun s h1 h2 => ⟨h1, h2⟩
    | cons x l ih => exact fun s h1 h2 => ih _ (tkF_done h1) (tkF_st h2)
  exact this came _ (fun e => by cases e) (by decide)
/-- what is sent by sources, one after another -/
def sendF (D k : Nat) (FX : List (List UInt8)) (acc : List (List UInt8)) (a : SrcD) : List (List UInt8) := if srcC a.m a.xs.length k = 0 then acc ++ [pktB a.m D acc.length a.xs a.s (combS (vecS a.m a.xs a.s k) FX).1] else acc
def sendsS (D k : Nat) (FX : List (List UInt8)) (l : List SrcD) : List (List UInt8) := l.foldl (sendF D k FX) []
theorem sends_snoc {D k : Nat} {FX : List (List UInt8)} {l : List SrcD} {i : Nat} {a : SrcD} (h : l[i]? = some a) : sendsS D k FX (l.take (i + 1)) = sendF D k FX (sendsS D k FX (l.take i)) a := by
  obtain ⟨hi, e⟩ := List.getElem?_eq_some_iff.1 h
  unfold sendsS
  rw [foldl_take_succ _ _ _ _ hi, e]
/-- a step, in memory -/
def stepV (k t D : Nat) (came : List (List UInt8)) (i : Nat) : List Value := [.int .i64 (readC k t D (came.getD i [])), .int .i64 ((tkR k t D (came.take (i + 1))).1.length : Nat), .int .i64 ((tkR k t D (came.take (i + 1))).2 : Nat)]
def stepsV (k t D : Nat) (came : List (List UInt8)) (n : Nat) : List Value := (List.range n).flatMap (stepV k t D came)
theorem stepsV_succ (k t D : Nat) (came : List (List UInt8)) (n : Nat) : stepsV k t D came (n + 1) = stepsV k t D came n ++ stepV k t D came n := by
  unfold stepsV
  rw [List.range_succ, List.flatMap_append]; simp
theorem stepsV_len (k t D : Nat) (came : List (List UInt8)) : ∀ n, (stepsV k t D came n).length = n * 3
  | 0 => rfl
  | n + 1 => by rw [stepsV_succ, List.length_append, stepsV_len k t D came n]; simp [stepV]; omega
theorem stepsV_at (k t D : Nat) (came : List (List UInt8)) {n i j : Nat} (hi : i < n) (hj : j < 3) : (stepsV k t D came n)[i * 3 + j]? = (stepV k t D came i)[j]? := by
  induction n with
  | zero => omega
  | succ n ih =>
    rw [stepsV_succ]
    by_cases h : i < n
    · rw [List.getElem?_append_left (by rw [stepsV_len]; omega), ih h]
    · obtain rfl : i = n := by omega
      rw [List.getElem?_append_right (by rw [stepsV_len]; omega), stepsV_len, show i * 3 + j - i * 3 = j by omega]
theorem join_full {L t k : Nat} {K : List Rw} (hc : checkS (L : Int) (t : Int) (k : Int) = 0) (hR : Red k t K) (hl : K.length = k) : (joinS (L : Int) (t : Int) (k : Int) (K.map (fun x : Rw => x.2))).2 = 0 := by
  unfold joinS wholeS
  rw [if_pos hc, if_pos (by simp [hl]), if_pos ?_]
  rw [List.all_eq_true]
  intro y hy
  obtain ⟨r, hr, rfl⟩ := List.mem_map.1 hy
  have := (hR.kept.rows r hr).1.2
  simpa using this
theorem Own2.hdrF {T2 T1 B base n : Nat} {w : World} {v : Value} {xss : List (List UInt8)} (h : Own2 T2 T1 w base v n xss) (hB : B ≤ base) : HdrF T2 T1 B w v n xss := by
  obtain ⟨vs, o, l, r⟩ := h
  refine ⟨vs, owns_mono o hB, l, fun j u hj => ?_⟩
  obtain ⟨xs, q, c, hx, e, ho⟩ := r j u hj
  exact ⟨q, _, c, xs, e, hx, (Fresh.of_owns ho).mono hB⟩
section
variable {wI w0 w w' : World} {gs gt be base L t k D nx N st : Nat} {FX : List (List UInt8)} {v : Value} {K : List Rw}
/-- a block of another type turned -/
theorem ST.turn (h : ST wI w0 w gs gt be base L t k D FX nx N v K st) {T g : Nat} {cur : Array Value} {fr : Nat × Nat} (hc : GChg w g w') (hh : w.heap[g]? = some (.cells cur T fr)) (hgb : w0.heap.size ≤ g) (h1 : T ≠ 201) (h2 : T ≠ 139) (h3 : T ≠ 5) (h4 : T ≠ 126) :
    ST wI w0 w' gs gt be base L t k D FX nx N v K st ∧ (∀ T', T ≠ T' → ∀ (b : Nat) (cs : Array Value) (fr : Nat × Nat), w.heap[b]? = some (.cells cs T' fr) → w'.heap[b]? = w.heap[b]?) := by
  obtain ⟨M, C, t1⟩ := h.tk
  exact ⟨⟨h.bel.trans (hc.below (Nat.le_trans h.i0 hgb) h.bel.size), h.i0, Nat.le_trans h.le hc.size, h.b1, h.gs0, h.snd.keep (hc.below hgb h.le) (Nat.le_refl _), ⟨M, C, hc.tkr hh t1 h1 h2 h3 h4⟩⟩, fun T' hne => hc.same hh hne⟩
end
theorem os_rep : OthS 85 := ⟨by decide, by decide, by decide, by decide⟩
theorem GChg.one {w : World} {g i : Nat} (v : Value) : GChg w g (w.setCell ⟨g, i, none⟩ v) := (GChg.of g (Below.refl _ _)).set v
end Go.Proofs.YtfbmdlfkipipfaaGreatDoor
namespace Go.Proofs.YtfbmdlfkipipfaaGreatDoor
open Go.RowKit Go.By
/-- why a plan and an object do not fit -/
def cutC (l s m : Int) (n : Nat) : Int := if checkS l s m ≠ 0 then checkS l s m else if (n : Int) ≠ l then 4 else 0
set_option maxRecDepth 100000 in
set_option maxHeartbeats 1000000 in
theorem cfits_bad (l s m d : Int) (q : Option Addr) (n c : Nat) (w : World) (hl2 : l ≤ 9223372036854775807) (hk : cutC l s m n ≠ 0) :
    Calls Tryz.prog 122 #[.agg #[.int .i64 l, .int .i64 s, .int .i64 m, .int .u32 d], .slice q n c] w fun e w' => e = .returned (.int .i64 (cutC l s m n)) ∧ Below w.heap.size w w' := by
  have HK := Lib.hid (fun w => Check_any l s m d w hl2)
  unfold cutC at hk ⊢
  by_cases h : checkS l s m ≠ 0
  · rw [if_pos h] at hk ⊢
    have hz : (checkS l s m != 0) = true := bne_iff_ne.2 h
    clear hk h
    generalize checkS l s m = C at *
    go_enter Tryz.func122, Tryz.ntmps122
    go_wp2_with fail
    refine Calls.mono (HK.out _) ?_
    rintro e w1 ⟨rfl, hb⟩
    obtain ⟨hb1, h1, hs⟩ := one_of hb
    have HB := Lib.hid hb1
    clear hb hb1
    go_wp2
    go_ret
    exact ⟨rfl, HB.out⟩
  · rw [if_neg h] at hk ⊢
    have h0 : checkS l s m = 0 := Classical.not_not.1 h
    by_cases h2 : (n : Int) ≠ l
    · rw [if_pos h2]
      have hz : ((n : Int) != l) = true := bne_iff_ne.2 h2
      rw [h0] at HK
      clear hk h h0 h2
      go_enter Tryz.func122, Tryz.ntmps122
      go_wp2_with fail
      refine Calls.mono (HK.out _) ?_
      rintro e w1 ⟨rfl, hb⟩
      obtain ⟨hb1, h1, hs⟩ := one_of hb
      have HB := Lib.hid hb1
      obtain ⟨c0, c1, c2, c3⟩ := cells_four h1
      clear hb hb1
      go_wp2
      go_ret
      exact ⟨rfl, HB.out⟩
    · rw [if_neg h2] at hk; exact absurd rfl hk
set_option maxRecDepth 100000 in
set_option maxHeartbeats 1000000 in
theorem Cut_bad (l s m d : Int) (q : Option Addr) (n c : Nat) (w : World) (hl2 : l ≤ 9223372036854775807) (hk : cutC l s m n ≠ 0) :
    Calls Tryz.prog 74 #[.agg #[.int .i64 l, .int .i64 s, .int .i64 m, .int .u32 d], .slice q n c] w fun e w' => e = .returned (.tuple #[.slice none 0 0, .int .i64 (cutC l s m n)]) ∧ Below w.heap.size w w' := by
  have HK := Lib.hid (fun w => cfits_bad l s m d q n c w hl2 hk)
  have hz : (cutC l s m n != 0) = true := bne_iff_ne.2 hk
  clear hk
  generalize cutC l s m n = C at *
  go_enter Tryz.func74, Tryz.ntmps74
  go_wp2_with fail
  refine Calls.mono (HK.out _) ?_
  rintro e w1 ⟨rfl, hb⟩
  obtain ⟨hb1, h1, hs⟩ := one_of hb
  have HB := Lib.hid hb1
  clear hb hb1
  go_wp2
  go_ret2
  exact ⟨rfl, HB.out⟩
set_option maxRecDepth 100000 in
set_option maxHeartbeats 1000000 in
theorem SNew_bad (l s m d : Int) (q : Option Addr) (n c : Nat) (w : World) (hl2 : l ≤ 9223372036854775807) (hk : cutC l s m n ≠ 0) :
    Calls Tryz.prog 30 #[.agg #[.int .i64 l, .int .i64 s, .int .i64 m, .int .u32 d], .slice q n c] w fun e w' => e = .returned (.tuple #[.pointer none, .int .i64 (cutC l s m n)]) ∧ Below w.heap.size w w' := by
  have HK := Lib.hid (fun w => Cut_bad l s m d q n c w hl2 hk)
  have hz : (cutC l s m n != 0) = true := bne_iff_ne.2 hk
  clear hk
  generalize cutC l s m n = C at *
  go_enter Tryz.func30, Tryz.ntmps30
  go_wp2_with fail
  refine Calls.mono (HK.out _) ?_
  rintro e w1 ⟨rfl, hb⟩
  obtain ⟨hb1, h1, hs⟩ := one_of hb
  have HB := Lib.hid hb1
  clear hb hb1
  go_wp2
  go_ret2
  exact ⟨rfl, HB.out⟩
end Go.Proofs.YtfbmdlfkipipfaaGreatDoor
namespace Go.By
open Go.RowKit
theorem KeepR.owns {w w' : World} {b2 T e n : Nat} {v : Value} {ys : List Value} (h : ∀ (b : Nat) (cs : Array Value) (fr : Nat × Nat), w.heap[b]? = some (.cells cs T fr) → w'.heap[b]? = w.heap[b]?) (hs : w.heap.size ≤ w'.heap.size) (ho : w.ownsRow b2 T e v n ys) : w'.ownsRow b2 T e v n ys :=
  owns_same ho hs fun g hg => by
    rcases ho.2 with ⟨e1, _⟩ | ⟨g', cap, cur, e1, _, hh, _⟩
    · rw [e1] at hg; cases hg
    · rw [e1] at hg; cases hg
      exact h _ _ _ hh
def BldT (T B : Nat) (cs : Array Value) (v : Value) (w : World) : Prop := ∃ g, v = .slice (some ⟨g, 0, none⟩) 1 1 ∧ B ≤ g ∧ w.heap[g]? = some (.cells cs T (0, 0))
def ShBld (T B : Nat) (cs : Array Value) : Shp := ⟨BldT T B cs, fun _ _ _ ⟨g, e, h1, h2⟩ hb => ⟨g, e, h1, (hb.block _ (lt_of_block h2)).trans h2⟩⟩
end Go.By
namespace Go.Proofs.YtfbmdlfkipipfaaGreatDoor
open Go.RowKit Go.By Gf Go.Maps
theorem os_step : OthS 90 := ⟨by decide, by decide, by decide, by decide⟩
theorem info_step : (Tryz.prog.info? 90).map (fun i => (i.zero, i.size, i.bytes)) = some (some (.agg #[.int .i64 0, .int .i64 0, .int .i64 0]), 3, 24) := by kernel_rfl
theorem info_report : (Tryz.prog.info? 85).map (·.size) = some 5 := by kernel_rfl
theorem news_three {w : World} {g T : Nat} {u v x : Value} {fr : Nat × Nat} (h : w.heap[g]? = some (.cells #[u, v, x] T fr)) : ∀ (j : Nat) (y : Value), [u, v, x][j]? = some y → w.cell? ((⟨g, 0, none⟩ : Addr).add j) = some y := by
  intro j y hj
  rw [Addr.add_lit, Nat.zero_add, cell_of_row _ _ j _ _ _ h, ← hj]
  match j with
  | 0 => rfl
  | 1 => rfl
  | 2 => rfl
  | j + 3 => rfl
theorem noByte5 {x0 x2 x3 : Int} {q1 q2 : Option Addr} {n1 n2 c1 c2 : Nat} : ∀ (j : Nat) (x : UInt8), #[Value.int .i64 x0, .slice q1 n1 c1, .int .i64 x2, .int .i64 x3, .slice q2 n2 c2][j]? ≠ some (B8 x) := by
  intro j x h
  match j with
  | 0 => simp at h
  | 1 => simp at h
  | 2 => simp at h
  | 3 => simp at h
  | 4 => simp at h
  | j + 5 => simp at h
theorem sl_noByteRow {w : World} {q : Option Addr} {n c g T : Nat} {ys : List UInt8} {cs new : Array Value} {fr : Nat × Nat} (h : Sl B8 w q n c ys) (hg : w.heap[g]? = some (.cells cs T fr)) (hno : ∀ (j : Nat) (x : UInt8), cs[j]? ≠ some (B8 x)) : Sl B8 (w.setRow g new) q n c ys :=
  ⟨h.len, h.le, h.max, h.nil, fun j hj => by
    obtain ⟨b, o, e, hc⟩ := h.rs j hj
    refine ⟨b, o, e, cell_setRow hc fun e1 => ?_⟩
    rw [e1, cell_of_row _ _ (o + j) _ _ _ hg] at hc
    exact hno _ _ hc⟩
theorem rep_owns {w : World} {b2 e n g : Nat} {v : Value} {ys : List Value} {cs new : Array Value} {fr : Nat × Nat} (ho : w.ownsRow b2 90 e v n ys) (hg : w.heap[g]? = some (.cells cs 85 fr)) : (w.setRow g new).ownsRow b2 90 e v n ys :=
  KeepR.owns (fun b cs' fr' hb => (hro hb (fun e1 => by rw [e1, hg] at hb; injection hb with hb; injection hb with _ hb _; exact absurd hb (by decide))).trans hb.symm) (by simp [World.setRow]) ho
/-- what a trip came to -/
def RunRet (w : World) (L t k D : Nat) (sent : Nat) (came : List (List UInt8)) (e : Ending) (w' : World) : Prop :=
  ∃ q c q2 n2 c2, e = .returned (.tuple #[.agg #[.int .i64 (sent : Nat), .slice q came.length c, .int .i64 ((tkR k t D came).1.length : Nat), .int .i64 ((tkR k t D came).2 : Nat), .slice q2 n2 c2], .int .i64 0]) ∧
    w'.ownsRow w.heap.size 90 3 (.slice q came.length c) came.length (stepsV k t D came came.length) ∧ Fresh 5 w.heap.size w' q2 n2 c2 (if (tkR k t D came).2 = 1 then (joinS (L : Int) (t : Int) (k : Int) ((tkR k t D came).1.map (fun x : Rw => x.2))).1 else []) ∧ Below w.heap.size w w'
set_option maxRecDepth 100000 in
set_option maxHeartbeats 8000000 in
theorem Run_ok (L t k D : Nat) (q0 : Option Addr) (c0 : Nat) (o : List UInt8) (p1 : Option Addr) (n1 c1 : Nat) (srcs : List SrcD) (p2 : Option Addr) (n2 c2 : Nat) (acs : List ActD) (w : World) (hP : POK L t k D) (hfit : ∀ i : Nat, i < k → i * t ≤ L) (h0 : Sl B8 w q0 L c0 o) (h1 : SlS w p1 n1 c1 srcs) (h2 : SlA w p2 n2 c2 acs) (hT : HalfT w)
    (hn1 : n1 ≤ 1000) (hn2 : n2 ≤ 1000) (hsr : ∀ a, a ∈ srcs → a.xs.length ≤ 1000000) (har : ∀ a, a ∈ acs → Room a.bs.length) :
    Calls Tryz.prog 39 #[PVal L t k D, .slice q0 L c0, .slice p1 n1 c1, .slice p2 n2 c2] w (RunRet w L t k D (sendsS D k ((List.range k).map (pieceS o t)) srcs).length ((playS (initS (sendsS D k ((List.range k).map (pieceS o t)) srcs)) acs).map (·.1))) := by
  have HT := Lib.hid hT
  have HPK := Lib.hid hP
  have HF := Lib.hid hfit
  have H0 := Lib.hid h0
  have H1 := Lib.hid h1
  have H2 := Lib.hid h2
  have HSR := Lib.hid hsr
  have HAR := Lib.hid har
  have hk1 := hP.k1
  have ht2 := hP.t2
  obtain ⟨FX, hFX⟩ : ∃ FX, FX = (List.range k).map (pieceS o t) := ⟨_, rfl⟩
  have HFl : Hid (∀ x, x ∈ FX → x.length = t) := by rw [hFX]; exact pieces_len.1
  have HFk : Hid (FX.length = k) := by rw [hFX]; exact pieces_len.2
  rw [← hFX]
  have HFX := Lib.hid hFX
  clear hT hP hfit h0 h1 h2 hsr har hFX
  go_enter Tryz.func39, Tryz.ntmps39
  go_wp2_with fail
  obtain ⟨W0, hW0⟩ : ∃ W0, W0 = (w.alloc (.cells #[.int .i64 (L : Nat), .int .i64 (t : Nat), .int .i64 (k : Nat), .int .u32 (D : Nat)] 27 (0, 0))).alloc (.cells #[.int .i64 0, .slice none 0 0, .int .i64 0, .int .i64 0, .slice none 0 0] 85 (0, 0)) := ⟨_, rfl⟩
  rw [← hW0]
  have hBW : Below w.heap.size w W0 := by rw [hW0]; exact al (al (Below.refl _ _) (Nat.le_refl _)) (by simp)
  have hk4 : W0.heap[w.heap.size]? = some (.cells #[.int .i64 (L : Nat), .int .i64 (t : Nat), .int .i64 (k : Nat), .int .u32 (D : Nat)] 27 (0, 0)) := by rw [hW0]; exact hal (hnew rfl)
  have hk8 : W0.heap[w.heap.size + 1]? = some (.cells #[.int .i64 0, .slice none 0 0, .int .i64 0, .int .i64 0, .slice none 0 0] 85 (0, 0)) := by rw [hW0]; exact hnew (by simp)
  have HBW := Lib.hid hBW
  clear hW0 hBW
  obtain ⟨g8, hg8⟩ : ∃ g8, g8 = w.heap.size + 1 := ⟨_, rfl⟩
  have HG8 : Hid (w.heap.size ≤ g8) := by show _ ≤ _; omega
  rw [← hg8] at hk8 ⊢
  clear hg8
  refine Calls.mono (SNew_ok L t k D q0 L c0 o W0 HPK.out (H0.out.keep HBW.out) HF.out rfl) ?_
  rintro e w0 ⟨gs, rfl, hgs, hsn, hb⟩
  have HSn := Lib.hid hsn
  have HB0 := Lib.hid (bl HBW.out hb HBW.out.size)
  have HGS : Hid (w.heap.size ≤ gs) := Nat.le_trans HBW.out.size hgs
  have kp0 := (hb.block _ (lt_of_block hk4)).trans hk4
  have k80 := Lib.hid ((hb.block _ (lt_of_block hk8)).trans hk8)
  clear hb hgs hsn hk4 hk8 HBW
  obtain ⟨z0, z1, z2, z3⟩ := cells_four kp0
  go_wp2_with fail
  refine Calls.mono (TNew_ok L t k D w0 HPK.out) ?_
  rintro e w1 ⟨gt, be, v0, rfl, ht, hb⟩
  have hst := ST.start HB0.out HGS.out HSn.out ht hb
  obtain ⟨base, hbase⟩ : ∃ base, base = w0.heap.size := ⟨_, rfl⟩
  rw [← hbase] at hst
  rw [← HFX.out] at hst
  have HS1 := Lib.hid hst
  have HK8 := Lib.hid ((hb.block _ (lt_of_block k80.out)).trans k80.out)
  have HL8 := Lib.hid (lt_of_block k80.out)
  clear hb ht hst HSn kp0 HB0 HGS hbase z0 z1 z2 z3 k80
  go_wp2
  go_loopw [13, 43] (fun sv iv wr => ∃ (i : Nat) (XS : List (List UInt8)), i ≤ n1 ∧ iv = .int .i64 (i : Nat) ∧ XS.length ≤ i ∧ Hid (XS = sendsS D k FX (srcs.take i)) ∧ Hid (∀ x, x ∈ XS → readC k t D x = 0) ∧ Hid (ST w w0 wr gs gt be base L t k D FX XS.length 0 v0 [] 0) ∧ Hid (HdrF 22 5 w0.heap.size wr sv XS.length XS) ∧ Hid (wr.heap[g8]? = some (.cells #[.int .i64 0, .slice none 0 0, .int .i64 0, .int .i64 0, .slice none 0 0] 85 (0, 0)))) (fun _ iv _ => n1 - (intOf iv).toNat)
  case atStart => exact ⟨0, [], Nat.zero_le _, rfl, Nat.le_refl _, rfl, fun x h => by simp at h, HS1.out, HdrF.nil _ _ _ _, HK8.out⟩
  case round =>
    obtain ⟨i, XS, hi, rfl, hXi, HXS, HRC, HR, HX, HK⟩ := hrel
    clear HS1 HK8
    obtain ⟨qs, cs, rfl⟩ := HX.out.shape
    by_cases hlt : i < n1
    · as_aux_lemma =>
        obtain ⟨b, ob, q, j, c', a, rfl, hga, f0, f1, f2, hs, hs64⟩ := H1.out.at hlt
        have x0 := (HR.out.bel.cell (p := ⟨b, ob + i * 3, none⟩) (lt_of_cell f0)).trans f0
        have x1 := (HR.out.bel.cell (p := ⟨b, ob + i * 3 + 1, none⟩) (lt_of_cell f1)).trans f1
        have x2 := (HR.out.bel.cell (p := ⟨b, ob + i * 3 + 2, none⟩) (lt_of_cell f2)).trans f2
        have hlt' : (i : Int) < (n1 : Int) := by omega
        have HSX := Lib.hid hs
        have hjl := hs.len
        have hj : j ≤ 1000000 := by rw [← hjl]; exact HSR.out a (List.mem_of_getElem? hga.out)
        have HNX : Hid (sendsS D k FX (srcs.take (i + 1)) = sendF D k FX XS a) := by show _ = _; rw [sends_snoc hga.out, ← HXS.out]
        have ba : Below wr.heap.size wr (wr.alloc (.cells #[B8 a.m, .slice q j c', .int .u64 (a.s : Nat)] 66 (0, 0))) := al (Below.refl _ _) (Nat.le_refl _)
        have HRa := Lib.hid (HR.out.keep ba)
        have hsend := ST_sendA HRa.out HT.out (by omega) ((HSX.out.keep HR.out.bel).keep ba) (show j ≤ 140737488355328 by omega) (m := a.m) (s := a.s)
        have HXa := Lib.hid (HX.out.keep ba)
        have HKa := Lib.hid ((ba.block _ (lt_of_block HK.out)).trans HK.out)
        have HLE := Lib.hid HR.out.le
        have HSD := Lib.hid hsend
        clear f0 f1 f2 hs hlt ba hsend HX HK HR hga
        by_cases hm : srcC a.m j k = 0
        · have hv := (sent_eq (k := k) (t := t) (D := D) (n := XS.length) (s := a.s) (m := a.m) (xs := a.xs) HFl.out HFk.out hk1 (by rw [hjl]; exact hm) hs64 HPK.out.d (by omega)).1
          have HRC2 : Hid (∀ x, x ∈ XS ++ [pktB a.m D XS.length a.xs a.s (combS (vecS a.m a.xs a.s k) FX).1] → readC k t D x = 0) := fun x hx => by
            rcases List.mem_append.1 hx with h | h
            · exact HRC.out x h
            · rw [List.mem_singleton.1 h]; exact hv
          have HNX2 : Hid (XS ++ [pktB a.m D XS.length a.xs a.s (combS (vecS a.m a.xs a.s k) FX).1] = sendsS D k FX (srcs.take (i + 1))) := by
            show _ = _
            rw [HNX.out]; unfold sendF; rw [hjl, if_pos hm]
          unfold sentX nextX at HSD
          rw [if_pos hm, if_pos hm, hm] at HSD
          clear hv hm HNX hjl
          generalize pktB a.m D XS.length a.xs a.s (combS (vecS a.m a.xs a.s k) FX).1 = pk at *
          go_wp2_with fail
          refine Calls.mono HSD.out ?_
          rintro e wd ⟨ql, nl, cl, rfl, hf, hS, hK⟩
          have ba : Below wd.heap.size wd (wd.alloc (.cells #[.slice ql nl cl] 22 (0, 0))) := al (Below.refl _ _) (Nat.le_refl _)
          have HSf := Lib.hid (hS.keep ba)
          have HXf := Lib.hid ((hK.hdr os_rows os_u8 HXa.out).keep ba)
          have HKf : Hid ((wd.alloc (.cells #[.slice ql nl cl] 22 (0, 0))).heap[g8]? = _) := (ba.block _ (lt_of_block (hK.blk os_rep HKa.out))).trans (hK.blk os_rep HKa.out)
          have FLf : Hid (Fresh 5 w0.heap.size (wd.alloc (.cells #[.slice ql nl cl] 22 (0, 0))) ql nl cl pk) := (hf.mono (by have := HLE.out; simp; omega)).keep ba
          clear ba hf hS hK x0 x1 x2 HRa HSD HXa HKa
          go_wp2_with (first | (at_builtin; refine wpList_hdr rfl _ _ rfl w0.heap.size XS.length (.slice qs XS.length cs) XS rfl HXf.out (by omega) HSf.out.le wd.heap.size rfl ql nl cl (0, 0) pk (hnew rfl) FLf.out ?_) | fail)
          rintro sA wA hA1 ⟨ys, hA2⟩ hA3 -
          obtain ⟨hSA, hsm⟩ := HSf.out.grown hA2 hA3 (by decide) (by decide) (by decide) (by decide)
          have HSA : Hid (ST w w0 wA gs gt be base L t k D FX (XS ++ [pk]).length 0 v0 [] 0) := by rw [List.length_append]; exact hSA
          have HXA : Hid (HdrF 22 5 w0.heap.size wA sA (XS ++ [pk]).length (XS ++ [pk])) := by rw [List.length_append]; exact hA1
          have HKA := Lib.hid ((hsm _ (by decide) _ _ _ HKf.out).trans HKf.out)
          clear hsm hA1 hA2 hA3 hSA HSf HXf HKf FLf
          go_wp2
          go_roundw
          case rel => exact ⟨i + 1, XS ++ [pk], by omega, by go_num, by rw [List.length_append]; simp; omega, HNX2.out, HRC2.out, HSA.out, HXA.out, HKA.out⟩
          case measure => simp [intOf]; omega
        · have HNX2 : Hid (XS = sendsS D k FX (srcs.take (i + 1))) := by
            show _ = _
            rw [HNX.out]; unfold sendF; rw [hjl, if_neg hm]
          unfold sentX nextX at HSD
          rw [if_neg hm, if_neg hm] at HSD
          have hz5 : (srcC a.m j k == 0) = false := beq_eq_false_iff_ne.2 hm
          generalize srcC a.m j k = R at *
          clear hm HNX hjl
          go_wp2_with fail
          refine Calls.mono HSD.out ?_
          rintro e wd ⟨ql, nl, cl, rfl, -, hS, hK⟩
          have HSA := Lib.hid hS
          have HXA := Lib.hid (hK.hdr os_rows os_u8 HXa.out)
          have HKA := Lib.hid (hK.blk os_rep HKa.out)
          clear hS hK x0 x1 x2 HRa HSD HXa HKa
          go_wp2
          go_roundw
          case rel => exact ⟨i + 1, XS, by omega, by go_num, by omega, HNX2.out, HRC.out, HSA.out, HXA.out, HKA.out⟩
          case measure => simp [intOf]; omega
    · obtain rfl : n1 = i := by omega
      clear hlt hi
      have HXE : Hid (XS = sendsS D k FX srcs) := by show _ = _; rw [HXS.out, ← H1.out.len, List.take_length]
      obtain ⟨came, hcame⟩ : ∃ came, came = (playS (initS XS) acs).map (·.1) := ⟨_, rfl⟩
      have hxr : ∀ x, x ∈ XS → Room x.length := fun x hx => read_roomT HPK.out (HRC.out x hx)
      have HCR : Hid (∀ x, x ∈ came → x.length ≤ 140737488355328) := fun x hx => by
        rw [hcame] at hx
        obtain ⟨p, hp, rfl⟩ := List.mem_map.1 hx
        refine playS_room (fun p hp => ?_) HAR.out p hp
        unfold initS at hp
        obtain ⟨i, hi, rfl⟩ := List.mem_map.1 hp
        have hi := List.mem_range.1 hi
        show Room (XS.getD i []).length
        rw [List.getD_eq_getElem?_getD, List.getElem?_eq_getElem hi]
        exact hxr _ (List.getElem_mem hi)
      have hcl : came.length ≤ 2000 := by
        rw [hcame, List.length_map]
        have := playS_len (initS XS) acs
        rw [initS_len, H2.out.len] at this; omega
      have HAP : Hid (∀ W, Sl2 W qs XS.length cs XS → SlA W p2 n2 c2 acs → Calls Tryz.prog 40 #[.slice qs XS.length cs, .slice p2 n2 c2] W (RetRows W came)) := fun W h3 h4 => by
        rw [hcame]; exact Apply_any qs p2 XS.length cs n2 c2 XS acs W h3 h4 hxr HAR.out (by omega)
      have HCM : Hid (came = (playS (initS (sendsS D k FX srcs)) acs).map (·.1)) := by show _ = _; rw [← HXE.out]; exact hcame
      have HMX : Hid (XS.length = (sendsS D k FX srcs).length) := by show _ = _; rw [← HXE.out]
      clear hcame hxr HXS HRC HXE
      obtain ⟨m0, hm0⟩ : ∃ m0, m0 = XS.length := ⟨_, rfl⟩
      rw [← hm0] at HAP HMX HR HX hXi ⊢
      clear hm0
      have ba : Below wr.heap.size wr (wr.alloc (.cells #[.int .i64 (m0 : Nat), .slice none 0 0, .int .i64 0, .int .i64 0, .slice none 0 0] 85 (0, 0))) := al (Below.refl _ _) (Nat.le_refl _)
      have HSa := Lib.hid (HR.out.keep ba)
      have HXa := Lib.hid (HX.out.keep ba)
      have HKa := Lib.hid ((ba.block _ (lt_of_block HK.out)).trans HK.out)
      have HBa : Hid ((wr.alloc (.cells #[.int .i64 (m0 : Nat), .slice none 0 0, .int .i64 0, .int .i64 0, .slice none 0 0] 85 (0, 0))).heap[wr.heap.size]? = some (.cells #[.int .i64 (m0 : Nat), .slice none 0 0, .int .i64 0, .int .i64 0, .slice none 0 0] 85 (0, 0))) := hnew rfl
      have HLE := Lib.hid HR.out.le
      have HG8L : Hid (g8 < wr.heap.size) := lt_of_block HK.out
      clear ba HR HX HK
      go_wp2_with fail
      generalize hW1 : wr.alloc (.cells #[.int .i64 (m0 : Nat), .slice none 0 0, .int .i64 0, .int .i64 0, .slice none 0 0] 85 (0, 0)) = W1 at *
      obtain ⟨g18, hg18⟩ : ∃ g18, g18 = wr.heap.size := ⟨_, rfl⟩
      rw [← hg18] at HBa HLE HG8L ⊢
      clear hW1 hg18
      refine Calls.mono (HAP.out _ HXa.out.sl2 (H2.out.keep HSa.out.bel)) ?_
      rintro e w2 ⟨qc, cc, rfl, ho, hb⟩
      have HSb := Lib.hid (HSa.out.keep hb)
      have HCb := Lib.hid (Own2.hdrF (T2 := 22) (T1 := 5) (B := w0.heap.size) ho HSa.out.le)
      have HKb := Lib.hid ((hb.block _ (lt_of_block HKa.out)).trans HKa.out)
      have HBb := Lib.hid ((hb.block _ (lt_of_block HBa.out)).trans HBa.out)
      obtain ⟨m, hm⟩ : ∃ m, m = came.length := ⟨_, rfl⟩
      rw [← hm] at HCb hcl ⊢
      have HM := Lib.hid hm
      have HNE : Hid (g18 ≠ g8) := by show _ ≠ _; have := HG8L.out; omega
      clear hb ho HSa HXa HKa HBa HAP hm HG8L
      go_wp2
      go_loopw [67] (fun iv wr => ∃ (i : Nat) (v : Value) (q : Option Addr) (c : Nat), i ≤ m ∧ iv = .int .i64 (i : Nat) ∧ Hid (ST w w0 wr gs gt be base L t k D FX m0 i v (tkR k t D (came.take i)).1 (tkR k t D (came.take i)).2) ∧ Hid (HdrF 22 5 w0.heap.size wr (.slice qc m cc) m came) ∧ Hid (wr.heap[g8]? = some (.cells #[.int .i64 0, .slice none 0 0, .int .i64 0, .int .i64 0, .slice none 0 0] 85 (0, 0))) ∧ Hid (wr.heap[g18]? = some (.cells #[.int .i64 (m0 : Nat), .slice q i c, .int .i64 0, .int .i64 0, .slice none 0 0] 85 (0, 0))) ∧ Hid (wr.ownsRow w0.heap.size 90 3 (.slice q i c) i (stepsV k t D came i))) (fun iv _ => m - (intOf iv).toNat)
      case atStart => exact ⟨0, v0, none, 0, Nat.zero_le _, rfl, HSb.out, HCb.out, HKb.out, HBb.out, World.ownsRow_nil _ _ _ _⟩
      case round =>
        obtain ⟨i, v, q, c, hi, rfl, HR, HC, HK, HB, HO⟩ := hrel
        clear HSb HCb HKb HBb
        by_cases hlt : i < m
        · as_aux_lemma =>
            obtain ⟨bc, oc, ql, nl, cl, xs, rfl, hcl1, hxs, hf⟩ := HC.out.at hlt
            have hlt' : (i : Int) < (m : Int) := by omega
            have hnr : nl ≤ 140737488355328 := by rw [← hf.sl.len]; exact HCR.out xs (List.mem_of_getElem? hxs.out)
            have hT1 := HR.out
            have HTK : Hid (tkR k t D (came.take (i + 1)) = tkF k t D (tkR k t D (came.take i)) xs) := tkR_snoc hxs.out
            have HGD : Hid (came.getD i [] = xs) := by show _ = _; rw [List.getD_eq_getElem?_getD, hxs.out]; rfl
            have hfx := hf.sl
            clear hxs hf hlt
            go_wp2_with fail
            refine Calls.mono (ST_take hT1 HT.out (by omega) hfx hnr) ?_
            rintro e wd ⟨rfl, v', hS, hK⟩
            rw [show takeK k t D (tkR k t D (came.take i)).1 (tkR k t D (came.take i)).2 xs = (tkR k t D (came.take (i + 1))).1 by rw [HTK.out]; rfl, show takeS k t D (tkR k t D (came.take i)).1 (tkR k t D (came.take i)).2 xs = (tkR k t D (came.take (i + 1))).2 by rw [HTK.out]; rfl] at hS
            have HSd := Lib.hid hS
            have HCd := Lib.hid (hK.hdr os_rows os_u8 HC.out)
            have HKd := Lib.hid (hK.blk os_rep HK.out)
            have hbd := hK.blk os_rep HB.out
            have HOd := Lib.hid (hK.owns os_step HO.out)
            obtain ⟨b0, b1, b2, b3, b4⟩ := cells_five hbd
            have HBD := Lib.hid hbd
            have HSV : Hid (stepV k t D came i = [.int .i64 (readC k t D xs), .int .i64 ((tkR k t D (came.take (i + 1))).1.length : Nat), .int .i64 ((tkR k t D (came.take (i + 1))).2 : Nat)]) := by show stepV k t D came i = _; unfold stepV; rw [HGD.out]
            have HRk : Hid (∀ W, Below wd.heap.size wd W → Calls Tryz.prog 18 #[.pointer (some ⟨gt, 0, none⟩)] W fun e w' => e = .returned (.int .i64 ((tkR k t D (came.take (i + 1))).1.length : Nat)) ∧ W = w') := fun W hb => ST_rank (HSd.out.keep hb)
            have HSs : Hid (∀ W, Below wd.heap.size wd W → Calls Tryz.prog 23 #[.pointer (some ⟨gt, 0, none⟩)] W fun e w' => e = .returned (.int .i64 ((tkR k t D (came.take (i + 1))).2 : Nat)) ∧ W = w') := fun W hb => ST_status (HSd.out.keep hb)
            obtain ⟨E, hE⟩ : ∃ E, E = readC k t D xs := ⟨_, rfl⟩
            obtain ⟨r2, hr2⟩ : ∃ r2, r2 = (tkR k t D (came.take (i + 1))).1.length := ⟨_, rfl⟩
            obtain ⟨s2, hs2⟩ : ∃ s2, s2 = (tkR k t D (came.take (i + 1))).2 := ⟨_, rfl⟩
            rw [← hE, ← hr2, ← hs2] at HSV
            rw [← hr2] at HRk
            rw [← hs2] at HSs
            rw [← hE]
            clear hS hK HR HC HK HB HO hT1 hfx hcl1 hE hr2 hs2 HTK HGD hbd
            obtain ⟨i0, hi0, hz0, hz1, hz2⟩ := info_parts info_step
            go_wp2_with fail
            refine wp_region_tail (fun ix => ([.val (.pointer (some ⟨g18, 1, none⟩)), .val (.slice q i c), .val (.int .i64 E), .val (.pointer (some ⟨gt, 0, none⟩)), .val (.int .i64 (r2 : Nat)), .val (.pointer (some ⟨gt, 0, none⟩)), .val (.int .i64 (s2 : Nat)), (.val (.agg #[.int .i64 E, .int .i64 (r2 : Nat), .int .i64 (s2 : Nat)])), (ShBld 90 wd.heap.size #[.int .i64 E, .int .i64 (r2 : Nat), .int .i64 (s2 : Nat)]), .any, .any, .any][ix]?).getD (.any)) 106 9 rfl (by kernel_rfl) (by decide +kernel) (by decide +kernel) (by decide +kernel) (by decide +kernel) ?_ ?_
            · refine ⟨?_, ?_, ?_, ?_, ?_, ?_, ?_, ?_, ?_, trivial⟩
              · intro a W hb0 hs hp hi; have hb := undrew hb0; clear hb0
                have t18 : sl a 18 = .pointer (some ⟨g18, 0, none⟩) := hi 18 (by decide)
                refine ite_y rfl (wp_val (.pointer (some ⟨g18, 1, none⟩)) ?_ ?_)
                · simp only [execOp, eval_tmp, eval_const, t18]; simp [go_sem]
                · exact ⟨_, rfl, Below.refl _ _, rfl⟩
              · intro a W hb0 hs hp hi; have hb := undrew hb0; clear hb0
                have tt : sl a 74 = .pointer (some ⟨g18, 1, none⟩) := hp 0 (by decide)
                have dd := (hb.cell (p := ⟨g18, 1, none⟩) (lt_of_cell b1)).trans b1
                refine ite_y rfl (wp_val (.slice q i c) ?_ ?_)
                · simp only [execOp, eval_tmp, tt]; simp [go_sem, dd]
                · exact ⟨_, rfl, Below.refl _ _, rfl⟩
              · intro a W hb0 hs hp hi; have hb := undrew hb0; clear hb0
                have t21 : sl a 21 = .int .i64 E := hi 21 (by decide)
                exact ite_y rfl (wp_val (sl a 21) rfl ⟨_, rfl, Below.refl _ _, t21⟩)
              · intro a W hb0 hs hp hi; have hb := undrew hb0; clear hb0
                have t12 : sl a 12 = .pointer (some ⟨gt, 0, none⟩) := hi 12 (by decide)
                exact ite_y rfl (wp_val (sl a 12) rfl ⟨_, rfl, Below.refl _ _, t12⟩)
              · intro a W hb0 hs hp hi; have hb := undrew hb0; clear hb0
                have t77 : sl a 77 = .pointer (some ⟨gt, 0, none⟩) := hp 3 (by decide)
                refine ite_y rfl (wp_enter 18 #[.pointer (some ⟨gt, 0, none⟩)] ?_ (HRk.out _ hb) ?_)
                · simp only [execOp, resolve, List.map_toArray, List.map, eval_tmp, eval_func, eval_const, t77]; simp [go_sem]
                · rintro e W' ⟨rfl, rfl⟩; exact ⟨_, rfl, _, rfl, Below.refl _ _, rfl⟩
              · intro a W hb0 hs hp hi; have hb := undrew hb0; clear hb0
                have t12 : sl a 12 = .pointer (some ⟨gt, 0, none⟩) := hi 12 (by decide)
                exact ite_y rfl (wp_val (sl a 12) rfl ⟨_, rfl, Below.refl _ _, t12⟩)
              · intro a W hb0 hs hp hi; have hb := undrew hb0; clear hb0
                have t79 : sl a 79 = .pointer (some ⟨gt, 0, none⟩) := hp 5 (by decide)
                refine ite_y rfl (wp_enter 23 #[.pointer (some ⟨gt, 0, none⟩)] ?_ (HSs.out _ hb) ?_)
                · simp only [execOp, resolve, List.map_toArray, List.map, eval_tmp, eval_func, eval_const, t79]; simp [go_sem]
                · rintro e W' ⟨rfl, rfl⟩; exact ⟨_, rfl, _, rfl, Below.refl _ _, rfl⟩
              · intro a W hb0 hs hp hi; have hb := undrew hb0; clear hb0
                have t76 : sl a 76 = .int .i64 E := hp 2 (by decide)
                have t78 : sl a 78 = .int .i64 (r2 : Nat) := hp 4 (by decide)
                have t80 : sl a 80 = .int .i64 (s2 : Nat) := hp 6 (by decide)
                have v76 : a.tmps[76]?.getD undef = sl a 76 := by simp [sl]
                rw [t76] at v76
                have v78 : a.tmps[78]?.getD undef = sl a 78 := by simp [sl]
                rw [t78] at v78
                have v80 : a.tmps[80]?.getD undef = sl a 80 := by simp [sl]
                rw [t80] at v80
                refine ite_y rfl (wp_val (.agg #[.int .i64 E, .int .i64 (r2 : Nat), .int .i64 (s2 : Nat)]) ?_ ?_)
                · simp only [execOp, eval_tmp, t76, t78, t80]; simp [go_sem, v76, v78, v80, Tryz.underlying90]
                · exact ⟨_, rfl, Below.refl _ _, rfl⟩
              · intro a W hb0 hs hp hi; have hb := undrew hb0; clear hb0
                have t81 : sl a 81 = .agg #[.int .i64 E, .int .i64 (r2 : Nat), .int .i64 (s2 : Nat)] := hp 7 (by decide)
                have v81 : a.tmps[81]?.getD undef = sl a 81 := by simp [sl]
                rw [t81] at v81
                refine ite_y rfl (wp_val' (w' := W.alloc (.cells #[.int .i64 E, .int .i64 (r2 : Nat), .int .i64 (s2 : Nat)] 90)) (.slice (some ⟨W.heap.size, 0, none⟩) 1 1) ?_ ?_)
                · simp only [execOp, eval_tmp, t81]; simp [go_sem, v81]
                · exact ⟨_, rfl, al (Below.refl _ _) (Nat.le_refl _), _, rfl, hb.size, hnew rfl⟩
            intro a wE hb hs hd hI ht
            have ha := act_is [74, 75, 76, 77, 78, 79, 80, 81, 82, 83, 84] hs hd ht (by decide)
            have t75 : sl a 75 = .slice q i c := hI 1 (by decide)
            have y82 := hI 8 (by decide)
            obtain ⟨g82, t82, hg82, hh82⟩ := y82
            simp only [List.foldl, t75, t82] at ha
            generalize sl a 74 = u74 at ha
            generalize sl a 76 = u76 at ha
            generalize sl a 77 = u77 at ha
            generalize sl a 78 = u78 at ha
            generalize sl a 79 = u79 at ha
            generalize sl a 80 = u80 at ha
            generalize sl a 81 = u81 at ha
            generalize sl a 83 = u83 at ha
            generalize sl a 84 = u84 at ha
            simp only [Act.put, List.setIfInBounds_toArray, List.set_cons_zero, List.set_cons_succ] at ha
            rw [ha]; clear ha hI ht hs hd
            simp only [List.drop_succ_cons, List.drop_zero]
            have HSe := Lib.hid (HSd.out.keep hb)
            have HCe := Lib.hid (HCd.out.keep hb)
            have HKe := Lib.hid ((hb.block _ (lt_of_block HKd.out)).trans HKd.out)
            have HBe := Lib.hid ((hb.block _ (lt_of_block HBD.out)).trans HBD.out)
            have HOe := Lib.hid (owns_keepv HOd.out hb)
            have HH82 := Lib.hid hh82
            clear hb HSd HCd HKd HBD HOd HRk HSs b0 b1 b2 b3 b4 hh82 hg82
            go_wp2_with (first | (at_builtin; refine wpList_append_where _ rfl (.tmp 75) (.tmp 82) 83 rfl w0.heap.size 90 i0 (.agg #[.int .i64 0, .int .i64 0, .int .i64 0]) 3 24 Tryz.underlying83 hi0 hz0 hz1 hz2 rfl (by decide) (.slice q i c) i (stepsV k t D came i) rfl HOe.out ⟨g82, 0, none⟩ 1 1 [.int .i64 E, .int .i64 (r2 : Nat), .int .i64 (s2 : Nat)] rfl rfl (news_three HH82.out) (by intro u hu; simp at hu; rcases hu with rfl | rfl | rfl <;> rfl) (by unfold maxLen; omega) (by omega) HSe.out.le (by decide) ?_) | fail)
            rintro vA wA hA1 hA2 -
            rw [← HSV.out, ← stepsV_succ] at hA1
            obtain ⟨hSA, hsm⟩ := HSe.out.grown HOe.out hA2 (by decide) (by decide) (by decide) (by decide)
            have HSA := Lib.hid hSA
            have HCA := Lib.hid (HCe.out.same hA2.size (hsm _ (by decide)) (hsm _ (by decide)))
            have HKA := Lib.hid ((hsm _ (by decide) _ _ _ HKe.out).trans HKe.out)
            have hBA := (hsm _ (by decide) _ _ _ HBe.out).trans HBe.out
            have HOA := Lib.hid hA1
            obtain ⟨qA, cA, rfl⟩ := owns_shape hA1
            have HBA := Lib.hid hBA
            obtain ⟨b0, b1, b2, b3, b4⟩ := cells_five hBA
            have z1 := frozen_of_row _ _ 1 _ _ hBA
            clear hA1 hA2 hSA hsm hBA HSe HCe HKe HBe HOe HH82 hi0 hz0 hz1 hz2
            go_wp2
            have HGL : Hid (w0.heap.size ≤ g18) := HLE.out
            obtain ⟨hSZ, hsm⟩ := HSA.out.turn (GChg.one (w := wA) (g := g18) (i := 1) (.slice qA (i + 1) cA)) HBA.out HGL.out (by decide) (by decide) (by decide) (by decide)
            have R1 := Lib.hid hSZ
            have R2 := Lib.hid (HCA.out.same (by simp [World.setCell]) (hsm _ (by decide)) (hsm _ (by decide)))
            have R3 : Hid ((wA.setCell ⟨g18, 1, none⟩ (.slice qA (i + 1) cA)).heap[g8]? = _) := (Below.heap_setCell _ _ _ _ HNE.out.symm).trans HKA.out
            have R4 : Hid ((wA.setCell ⟨g18, 1, none⟩ (.slice qA (i + 1) cA)).heap[g18]? = some (.cells #[.int .i64 (m0 : Nat), .slice qA (i + 1) cA, .int .i64 0, .int .i64 0, .slice none 0 0] 85 (0, 0))) := hss HBA.out
            have R5 := Lib.hid (KeepR.owns (hsm _ (by decide)) (by simp [World.setCell]) HOA.out)
            clear hSZ hsm b0 b1 b2 b3 b4 z1 HSA HCA HKA HBA HOA
            go_roundw
            case rel => exact ⟨i + 1, v', qA, cA, by omega, by go_num, R1.out, R2.out, R3.out, R4.out, R5.out⟩
            case measure => simp [intOf]; omega
        · obtain rfl : m = i := by omega
          have HTC : Hid (came.take m = came) := by show _ = _; rw [HM.out, List.take_length]
          rw [HTC.out] at HR
          obtain ⟨rr, hrr⟩ : ∃ rr, rr = (tkR k t D came).1.length := ⟨_, rfl⟩
          obtain ⟨ss, hss'⟩ : ∃ ss, ss = (tkR k t D came).2 := ⟨_, rfl⟩
          have hrk := ST_rank HR.out
          have hst := ST_status HR.out
          rw [← hrr] at hrk
          rw [← hss'] at hst
          have HRR := Lib.hid hrr
          have HSS := Lib.hid hss'
          have HRk := Lib.hid hrk
          have HSt := Lib.hid hst
          have hB := HB.out
          obtain ⟨b0, b1, b2, b3, b4⟩ := cells_five hB
          have z2 := frozen_of_row _ _ 2 _ _ hB
          have z3 := frozen_of_row _ _ 3 _ _ hB
          have hB2 : (wr.setCell ⟨g18, 2, none⟩ (.int .i64 (rr : Nat))).heap[g18]? = some (.cells #[.int .i64 (m0 : Nat), .slice q m c, .int .i64 (rr : Nat), .int .i64 0, .slice none 0 0] 85 (0, 0)) := hss hB
          have hB3 : ((wr.setCell ⟨g18, 2, none⟩ (.int .i64 (rr : Nat))).setCell ⟨g18, 3, none⟩ (.int .i64 (ss : Nat))).heap[g18]? = some (.cells #[.int .i64 (m0 : Nat), .slice q m c, .int .i64 (rr : Nat), .int .i64 (ss : Nat), .slice none 0 0] 85 (0, 0)) := hss hB2
          obtain ⟨hA, hsA⟩ := HR.out.turn (GChg.one (w := wr) (g := g18) (i := 2) (.int .i64 (rr : Nat))) hB HLE.out (by decide) (by decide) (by decide) (by decide)
          obtain ⟨hA2, hsA2⟩ := hA.turn (GChg.one (w := wr.setCell ⟨g18, 2, none⟩ (.int .i64 (rr : Nat))) (g := g18) (i := 3) (.int .i64 (ss : Nat))) hB2 HLE.out (by decide) (by decide) (by decide) (by decide)
          have HS2 := Lib.hid hA2
          have HK2 : Hid (((wr.setCell ⟨g18, 2, none⟩ (.int .i64 (rr : Nat))).setCell ⟨g18, 3, none⟩ (.int .i64 (ss : Nat))).heap[g8]? = some (.cells #[.int .i64 0, .slice none 0 0, .int .i64 0, .int .i64 0, .slice none 0 0] 85 (0, 0))) := (Below.heap_setCell _ _ _ _ HNE.out.symm).trans ((Below.heap_setCell _ _ _ _ HNE.out.symm).trans HK.out)
          have HO2 := Lib.hid (KeepR.owns (hsA2 _ (by decide)) (by simp [World.setCell]) (KeepR.owns (hsA _ (by decide)) (by simp [World.setCell]) HO.out))
          have HB3 := Lib.hid hB3
          have HBL : Hid (w.heap.size ≤ w0.heap.size) := HR.out.i0
          clear hrr hss' hrk hst hA hsA hA2 hsA2 hB2 hB3 HR HC HK HB HO hB hlt hi
          by_cases h1 : ss = 1
          · have h1' : ((ss : Int) == 1) = true := by rw [h1]; rfl
            have HOJ : Hid (Calls Tryz.prog 35 #[.pointer (some ⟨gt, 0, none⟩)] ((wr.setCell ⟨g18, 2, none⟩ (.int .i64 (rr : Nat))).setCell ⟨g18, 3, none⟩ (.int .i64 (ss : Nat))) (RetLT 5 ((wr.setCell ⟨g18, 2, none⟩ (.int .i64 (rr : Nat))).setCell ⟨g18, 3, none⟩ (.int .i64 (ss : Nat))) (joinS (L : Int) (t : Int) (k : Int) ((tkR k t D came).1.map (fun x : Rw => x.2))).1 0)) := by
              obtain ⟨M, C, h⟩ := HS2.out.tk
              have hs1 : (tkR k t D came).2 = 1 := by rw [← HSS.out]; exact h1
              rw [hs1] at h
              have hl := (tkR_good (k := k) (t := t) (D := D) came).1 hs1
              have := TObject_doneT _ _ _ _ _ _ _ _ _ _ _ _ _ h hl
              rw [join_full HPK.out.chk h.red hl] at this
              exact this
            have H11 := Lib.hid h1
            clear h1
            go_wp2_with fail
            refine Calls.mono HRk.out ?_
            rintro e w' ⟨rfl, rfl⟩
            go_wp2_with fail
            refine Calls.mono HSt.out ?_
            rintro e w' ⟨rfl, rfl⟩
            obtain ⟨c0', c1', c2', c3', c4'⟩ := cells_five HB3.out
            generalize hW3 : (wr.setCell ⟨g18, 2, none⟩ (.int .i64 (rr : Nat))).setCell ⟨g18, 3, none⟩ (.int .i64 (ss : Nat)) = W3 at *
            go_wp2_with fail
            try rw [hW3]
            clear hW3 b0 b1 b2 b3 b4 z2 z3 c0' c1' c2' c3' c4'
            refine Calls.mono HOJ.out ?_
            rintro e w5 ⟨qo, no, co, rfl, ho, hn5, hb⟩
            have hB5 := (hb.block _ (lt_of_block HB3.out)).trans HB3.out
            have hK5 := (hb.block _ (lt_of_block HK2.out)).trans HK2.out
            have hB6 : (w5.setCell ⟨g18, 4, none⟩ (.slice qo no co)).heap[g18]? = some (.cells #[.int .i64 (m0 : Nat), .slice q m c, .int .i64 (rr : Nat), .int .i64 (ss : Nat), .slice qo no co] 85 (0, 0)) := hss hB5
            have HK6 : Hid ((w5.setCell ⟨g18, 4, none⟩ (.slice qo no co)).heap[g8]? = some (.cells #[.int .i64 0, .slice none 0 0, .int .i64 0, .int .i64 0, .slice none 0 0] 85 (0, 0))) := (Below.heap_setCell _ _ _ _ HNE.out.symm).trans hK5
            have HO6 : Hid ((w5.setCell ⟨g18, 4, none⟩ (.slice qo no co)).ownsRow w0.heap.size 90 3 (.slice q m c) m (stepsV k t D came m)) := KeepR.owns (GChg.same (GChg.one (g := g18) (i := 4) _) hB5 (by decide)) (by simp [World.setCell]) (owns_keepv HO2.out hb)
            have HS6 : Hid (Fresh 5 w.heap.size (w5.setCell ⟨g18, 4, none⟩ (.slice qo no co)) qo no co (joinS (L : Int) (t : Int) (k : Int) ((tkR k t D came).1.map (fun x : Rw => x.2))).1) := Fresh.cell (⟨ho, fun a ha => Nat.le_trans HS2.out.bel.size (hn5 a ha).1, fun a ha => (hn5 a ha).2⟩ : Fresh 5 w.heap.size w5 qo no co _) hB5 (by decide)
            have HL6 : Hid (Below w.heap.size w (w5.setCell ⟨g18, 4, none⟩ (.slice qo no co))) := (bl HS2.out.bel hb HS2.out.bel.size).setCell (p := ⟨g18, 4, none⟩) (by have := HBL.out; have := HLE.out; show w.heap.size ≤ g18; omega) _
            obtain ⟨b0, b1, b2, b3, b4⟩ := cells_five hB5
            have z4 := frozen_of_row _ _ 4 _ _ hB5
            obtain ⟨d0, d1, d2, d3, d4⟩ := cells_five hB6
            clear hb ho hn5 hB5 hK5 hB6 HB3 HK2 HO2 HS2 HOJ
            go_wp2_with (refine wpList_store_row (o := ⟨none, .store 85 (.tmp 8) (.tmp 105), _, _, _, _⟩) rfl 85 (.tmp 8) (.tmp 105) rfl g8 #[.int .i64 (m0 : Nat), .slice q m c, .int .i64 (rr : Nat), .int .i64 (ss : Nat), .slice qo no co] rfl rfl _ _ HK6.out info_report rfl (by simp [Value.oneCell']) ?_)
            refine bodyPost_ret (res_ct rfl _ _ _ 85 #[.int .i64 (m0 : Nat), .slice q m c, .int .i64 (rr : Nat), .int .i64 (ss : Nat), .slice qo no co] (0, 0) _ (.int .i64 0) rfl (hrs HK6.out) rfl Tryz.underlying85 rfl info_report) rfl ?_
            rw [← HCM.out, ← HMX.out]
            refine ⟨q, c, qo, no, co, by rw [← HM.out, ← HRR.out, ← HSS.out], ?_, ?_, below_row HL6.out HG8.out⟩
            · rw [← HM.out]; exact owns_mono (rep_owns HO6.out HK6.out) HBL.out
            · rw [if_pos (by rw [← HSS.out]; exact H11.out)]; exact HS6.out.row HK6.out (by decide)
          · have h1' : ((ss : Int) == 1) = false := beq_eq_false_iff_ne.2 (by omega)
            have H11 := Lib.hid h1
            clear h1
            go_wp2_with fail
            refine Calls.mono HRk.out ?_
            rintro e w' ⟨rfl, rfl⟩
            go_wp2_with fail
            refine Calls.mono HSt.out ?_
            rintro e w' ⟨rfl, rfl⟩
            go_wp2_with (refine wpList_store_row (o := ⟨none, .store 85 (.tmp 8) (.tmp 105), _, _, _, _⟩) rfl 85 (.tmp 8) (.tmp 105) rfl g8 #[.int .i64 (m0 : Nat), .slice q m c, .int .i64 (rr : Nat), .int .i64 (ss : Nat), .slice none 0 0] rfl rfl _ _ HK2.out info_report rfl (by simp [Value.oneCell']) ?_)
            refine bodyPost_ret (res_ct rfl _ _ _ 85 #[.int .i64 (m0 : Nat), .slice q m c, .int .i64 (rr : Nat), .int .i64 (ss : Nat), .slice none 0 0] (0, 0) _ (.int .i64 0) rfl (hrs HK2.out) rfl Tryz.underlying85 rfl info_report) rfl ?_
            rw [← HCM.out, ← HMX.out]
            refine ⟨q, c, none, 0, 0, by rw [← HM.out, ← HRR.out, ← HSS.out], ?_, ?_, below_row HS2.out.bel HG8.out⟩
            · rw [← HM.out]; exact owns_mono (rep_owns HO2.out HK2.out) HBL.out
            · rw [if_neg (by rw [← HSS.out]; exact H11.out)]; exact Fresh.none _ _ _
end Go.Proofs.YtfbmdlfkipipfaaGreatDoor
namespace Go.By
open Go.RowKit Go.Proofs.YtfbmdlfkipipfaaGreatDoor
def ExpT (xs : List UInt8) (v : Value) (w : World) : Prop := ∃ q n c, v = SVal 0 q n c 0 ∧ Sl B8 w q n c xs
def ShExp (xs : List UInt8) : Shp := ⟨ExpT xs, fun _ _ _ ⟨q, n, c, e, h⟩ hb => ⟨q, n, c, e, h.keep hb⟩⟩
def SrcT (n : Nat) (l : List SrcD) (v : Value) (w : World) : Prop := ∃ q, v = .slice q n n ∧ SlS w q n n l
def ShSrcs (n : Nat) (l : List SrcD) : Shp := ⟨SrcT n l, fun _ _ _ ⟨q, e, h⟩ hb => ⟨q, e, h.keep hb⟩⟩
def RepT (B T : Nat) (sent m rr ss : Nat) (st : List Value) (obj : List UInt8) (v : Value) (w : World) : Prop := ∃ q c q2 n2 c2, v = .agg #[.int .i64 (sent : Nat), .slice q m c, .int .i64 (rr : Nat), .int .i64 (ss : Nat), .slice q2 n2 c2] ∧ w.ownsRow B T 3 (.slice q m c) m st ∧ Sl B8 w q2 n2 c2 obj
def ShRep (B T : Nat) (sent m rr ss : Nat) (st : List Value) (obj : List UInt8) : Shp := ⟨RepT B T sent m rr ss st obj, fun _ _ _ ⟨q, c, q2, n2, c2, e, h1, h2⟩ hb => ⟨q, c, q2, n2, c2, e, owns_keepv h1 hb, h2.keep hb⟩⟩
def RepTT (B T : Nat) (sent m rr ss : Nat) (st : List Value) (obj : List UInt8) (v : Value) (w : World) : Prop := ∃ q c q2 n2 c2, v = .tuple #[.agg #[.int .i64 (sent : Nat), .slice q m c, .int .i64 (rr : Nat), .int .i64 (ss : Nat), .slice q2 n2 c2], .int .i64 0] ∧ w.ownsRow B T 3 (.slice q m c) m st ∧ Sl B8 w q2 n2 c2 obj
def ShRepT (B T : Nat) (sent m rr ss : Nat) (st : List Value) (obj : List UInt8) : Shp := ⟨RepTT B T sent m rr ss st obj, fun _ _ _ ⟨q, c, q2, n2, c2, e, h1, h2⟩ hb => ⟨q, c, q2, n2, c2, e, owns_keepv h1 hb, h2.keep hb⟩⟩
theorem sls_two {W : World} {g T : Nat} {fr : Nat × Nat} {q1 q2 : Option Addr} {n1 n2 c1 c2 : Nat} {xs ys : List UInt8} (hW : W.heap[g]? = some (.cells #[B8 0, .slice q1 n1 c1, .int .u64 0, B8 0, .slice q2 n2 c2, .int .u64 0] T fr)) (h1 : Sl B8 W q1 n1 c1 xs) (h2 : Sl B8 W q2 n2 c2 ys) :
    SlS W (some ⟨g, 0, none⟩) 2 2 [⟨0, xs, 0⟩, ⟨0, ys, 0⟩] := by
  refine ⟨rfl, by simp [maxLen], Nat.le_refl _, fun k y hk => ?_⟩
  match k, hk with
  | 0, hk =>
    simp at hk; subst hk
    exact ⟨g, 0, q1, n1, c1, rfl, cell_of_row _ _ 0 _ _ _ hW, cell_of_row _ _ 1 _ _ _ hW, cell_of_row _ _ 2 _ _ _ hW, h1, by show 0 < _; decide⟩
  | 1, hk =>
    simp at hk; subst hk
    exact ⟨g, 0, q2, n2, c2, rfl, cell_of_row _ _ 3 _ _ _ hW, cell_of_row _ _ 4 _ _ _ hW, cell_of_row _ _ 5 _ _ _ hW, h2, by show 0 < _; decide⟩
end Go.By
namespace Go.Proofs.YtfbmdlfkipipfaaGreatDoor
open Go.RowKit Go.By Gf Go.Maps
theorem pok22 : POK 2 2 1 0 := ⟨by decide, by decide, by decide, by decide, by decide, by decide, by decide⟩
theorem of22 : ofS 2 2 0 = .tuple #[PVal 2 2 1 0, .int .i64 0] := by
  have h : fitS 2 2 = 0 := by decide
  have h2 : needS 2 2 = 1 := by decide
  unfold ofS; rw [if_pos h, h2]; rfl
def pk22a : List UInt8 := pktB 0 0 0 [0] 0 (combS [0] [[8, 9]]).1
def pk22b : List UInt8 := pktB 0 0 1 [5] 0 (combS [5] [[8, 9]]).1
theorem pieces22 : (List.range 1).map (pieceS [8, 9] 2) = [[8, 9]] := by decide
theorem len22 : (combS [0] [[8, 9]]).1.length = 2 ∧ (combS [5] [[8, 9]]).1.length = 2 := by decide +kernel
theorem put22a : putK [] ([0], (combS [0] [[8, 9]]).1) = [] ∧ nextS [] ([0], (combS [0] [[8, 9]]).1) 1 = 0 := by decide +kernel
theorem put22b : putK [] ([5], (combS [5] [[8, 9]]).1) = [([1], [8, 9])] ∧ nextS [] ([5], (combS [5] [[8, 9]]).1) 1 = 1 := by decide +kernel
theorem read22a : readC 1 2 0 pk22a = 0 ∧ eqX 1 2 pk22a = ([0], (combS [0] [[8, 9]]).1) := by
  obtain ⟨h1, h2, h3, h4, h5, h6⟩ := read_write (m := 0) (D := 0) (n := 0) (s := 0) (k := 1) (t := 2) (xs := [0]) (ys := (combS [0] [[8, 9]]).1) rfl (fun _ => rfl) len22.1 (by decide) (by decide)
  refine ⟨h1, ?_⟩
  unfold eqX
  rw [show pktM pk22a = 0 from h2, show pktX 1 pk22a = [0] from h4, show pktY 1 2 pk22a = (combS [0] [[8, 9]]).1 from h6]
  rfl
theorem read22b : readC 1 2 0 pk22b = 0 ∧ eqX 1 2 pk22b = ([5], (combS [5] [[8, 9]]).1) := by
  obtain ⟨h1, h2, h3, h4, h5, h6⟩ := read_write (m := 0) (D := 0) (n := 1) (s := 0) (k := 1) (t := 2) (xs := [5]) (ys := (combS [5] [[8, 9]]).1) rfl (fun _ => rfl) len22.2 (by decide) (by decide)
  refine ⟨h1, ?_⟩
  unfold eqX
  rw [show pktM pk22b = 0 from h2, show pktX 1 pk22b = [5] from h4, show pktY 1 2 pk22b = (combS [5] [[8, 9]]).1 from h6]
  rfl
theorem tk22a : tkR 1 2 0 [pk22a] = ([], 0) := by
  show (takeK 1 2 0 [] 0 pk22a, takeS 1 2 0 [] 0 pk22a) = _
  unfold takeK takeS
  rw [if_pos ⟨read22a.1, rfl⟩, if_pos ⟨read22a.1, rfl⟩, read22a.2, put22a.1, put22a.2]
theorem tk22b : tkR 1 2 0 [pk22a, pk22b] = ([([1], [8, 9])], 1) := by
  show tkF 1 2 0 (tkR 1 2 0 [pk22a]) pk22b = _
  rw [tk22a]
  show (takeK 1 2 0 [] 0 pk22b, takeS 1 2 0 [] 0 pk22b) = _
  unfold takeK takeS
  rw [if_pos ⟨read22b.1, rfl⟩, if_pos ⟨read22b.1, rfl⟩, read22b.2, put22b.1, put22b.2]
theorem sends22 : sendsS 0 1 [[8, 9]] [⟨0, [0], 0⟩, ⟨0, [5], 0⟩] = [pk22a, pk22b] := by
  show sendF 0 1 [[8, 9]] (sendF 0 1 [[8, 9]] [] ⟨0, [0], 0⟩) ⟨0, [5], 0⟩ = _
  have e1 : srcC 0 1 1 = 0 := by decide
  unfold sendF
  simp only [List.length_cons, List.length_nil, Nat.zero_add]
  rw [if_pos e1, if_pos e1]
  rfl
theorem join22 : joinS 2 2 1 (([([1], [8, 9])] : List Rw).map (fun x : Rw => x.2)) = ([8, 9], 0) := by decide +kernel
theorem steps22 : (stepsV 1 2 0 [pk22a, pk22b] 2)[1]? = some (.int .i64 0) := by
  rw [show (1 : Nat) = 0 * 3 + 1 from rfl, stepsV_at 1 2 0 _ (by decide) (by decide)]
  unfold stepV
  rw [show ([pk22a, pk22b] : List (List UInt8)).take (0 + 1) = [pk22a] from rfl, tk22a]
  rfl
set_option maxRecDepth 100000 in
set_option maxHeartbeats 4000000 in
theorem Run22 (q0 : Option Addr) (c0 : Nat) (p1 : Option Addr) (c1 : Nat) (w : World) (h0 : Sl B8 w q0 2 c0 [8, 9]) (h1 : SlS w p1 2 c1 [⟨0, [0], 0⟩, ⟨0, [5], 0⟩]) (hT : HalfT w) :
    Calls Tryz.prog 39 #[PVal 2 2 1 0, .slice q0 2 c0, .slice p1 2 c1, .slice none 0 0] w fun e w' => ∃ v, e = .returned v ∧ RepTT w.heap.size 90 2 2 1 1 (stepsV 1 2 0 [pk22a, pk22b] 2) [8, 9] v w' ∧ Below w.heap.size w w' := by
  refine Calls.mono (Run_ok 2 2 1 0 q0 c0 [8, 9] p1 2 c1 _ none 0 0 [] w pok22 (fun i hi => by omega) h0 h1 ⟨rfl, by simp [maxLen], Nat.le_refl _, fun k a h => by simp at h⟩ hT (by decide) (by decide) (fun a ha => by simp at ha; rcases ha with rfl | rfl <;> decide) (fun a ha => by simp at ha)) ?_
  rw [pieces22, sends22]
  rw [show (playS (initS [pk22a, pk22b]) []).map (·.1) = [pk22a, pk22b] from init_bytes _]
  rintro e w' ⟨q, c, q2, n2, c2, rfl, ho, hs, hb⟩
  rw [tk22b, if_pos rfl, show joinS ((2 : Nat) : Int) ((2 : Nat) : Int) ((1 : Nat) : Int) (([([1], [8, 9])] : List Rw).map (fun x : Rw => x.2)) = ([8, 9], 0) from join22] at hs
  refine ⟨_, rfl, ⟨q, c, q2, n2, c2, ?_, ho, hs.sl⟩, hb⟩
  rw [tk22b]; rfl
set_option maxRecDepth 100000 in
set_option maxHeartbeats 8000000 in
theorem awake22 (w : World) (hT : HalfT w) : Calls Tryz.prog 37 #[] w fun e w' => e = .returned (.bool true) ∧ Below w.heap.size w w' := by
  have HT := Lib.hid hT
  have HOf : Hid (∀ w, Calls Tryz.prog 24 #[.int .i64 2, .int .i64 2, .int .u32 0] w fun e w' => e = .returned (.tuple #[PVal 2 2 1 0, .int .i64 0]) ∧ Below w.heap.size w w') := fun w => by have := POf_any 2 2 0 w (by decide); rw [of22] at this; exact this
  clear hT
  go_enter Tryz.func37, Tryz.ntmps37
  go_wp2_with fail
  refine Calls.mono (HOf.out w) ?_
  rintro e w1 ⟨rfl, hb1⟩
  have HB1 := Lib.hid hb1
  clear hb1
  go_wp2_with fail
  have ba : Below w1.heap.size w1 (w1.alloc (.cells #[.int .i64 2, .int .i64 2, .int .i64 1, .int .u32 0] 27 (0, 0))) := al (Below.refl _ _) (Nat.le_refl _)
  have hk : (w1.alloc (.cells #[.int .i64 2, .int .i64 2, .int .i64 1, .int .u32 0] 27 (0, 0))).heap[w1.heap.size]? = some (.cells #[.int .i64 2, .int .i64 2, .int .i64 1, .int .u32 0] 27 (0, 0)) := hnew rfl
  generalize hw2 : w1.alloc (.cells #[.int .i64 2, .int .i64 2, .int .i64 1, .int .u32 0] 27 (0, 0)) = w2 at *
  obtain ⟨g1, hg1⟩ : ∃ g1, g1 = w1.heap.size := ⟨_, rfl⟩
  rw [← hg1] at hk ⊢
  have HB2 := Lib.hid (bl HB1.out ba HB1.out.size)
  obtain ⟨z0, z1, z2, z3⟩ := cells_four hk
  clear hw2 hg1 ba HB1 hk
  refine wp_region_slip (fun ix => ([.val (.agg #[.int .i64 2, .int .i64 2, .int .i64 1, .int .u32 0]), .bytes ([8, 9]), .bytes ([0]), (ShExp [0]), .bytes ([5]), (ShExp [5]), (ShSrcs 2 [⟨0, [0], 0⟩, ⟨0, [5], 0⟩]), (ShRepT w2.heap.size 90 2 2 1 1 (stepsV 1 2 0 [pk22a, pk22b] 2) [8, 9]), (ShRepT w2.heap.size 90 2 2 1 1 (stepsV 1 2 0 [pk22a, pk22b] 2) [8, 9]), (ShRep w2.heap.size 90 2 2 1 1 (stepsV 1 2 0 [pk22a, pk22b] 2) [8, 9]), (.val (.int .i64 0)), (ShNew 85 w2.heap.size #[.int .i64 0, .slice none 0 0, .int .i64 0, .int .i64 0, .slice none 0 0]), .any, .any][ix]?).getD (.any)) 56 12 10 9 19 (.int .i64 0) rfl (by kernel_rfl) (by decide +kernel) (by decide +kernel) (by decide +kernel) _ rfl rfl rfl (by decide) rfl (fun a x w h => run_extract_two _ rfl h) (by decide) ?_ ?_
  · refine ⟨?_, ?_, ?_, ?_, ?_, ?_, ?_, ?_, ?_, ?_, ?_, ?_, trivial⟩
    · intro a W hb0 hs hp hi; have hb := undrew hb0; clear hb0
      have tt : sl a 1 = .pointer (some ⟨g1, 0, none⟩) := hi 1 (by decide)
      have dd0 := (hb.cell (p := ⟨g1, 0, none⟩) (lt_of_cell z0)).trans z0
      have dd1 := (hb.cell (p := ⟨g1, 1, none⟩) (lt_of_cell z1)).trans z1
      have dd2 := (hb.cell (p := ⟨g1, 2, none⟩) (lt_of_cell z2)).trans z2
      have dd3 := (hb.cell (p := ⟨g1, 3, none⟩) (lt_of_cell z3)).trans z3
      refine ite_y rfl (wp_val (.agg #[.int .i64 2, .int .i64 2, .int .i64 1, .int .u32 0]) ?_ ?_)
      · simp only [execOp, eval_tmp, tt]; simp [go_sem, dd0, dd1, dd2, dd3]
      · exact ⟨_, rfl, Below.refl _ _, rfl⟩
    · intro a W hb0 hs hp hi; have hb := undrew hb0; clear hb0
      refine ite_y rfl (wp_val' (w' := W.alloc (.cells #[.int .u8 8, .int .u8 9] 5)) (.slice (some ⟨W.heap.size, 0, none⟩) 2 2) ?_ ?_)
      · simp only [execOp, eval_tmp, eval_const]; simp [go_sem]
      · exact ⟨_, rfl, (al (Below.refl _ _) (Nat.le_refl _)), _, _, _, rfl, sl_block ([8, 9]) 2 (hnew rfl) rfl rfl (by simp [maxLen])⟩
    · intro a W hb0 hs hp hi; have hb := undrew hb0; clear hb0
      refine ite_y rfl (wp_val' (w' := W.alloc (.cells #[.int .u8 0] 5)) (.slice (some ⟨W.heap.size, 0, none⟩) 1 1) ?_ ?_)
      · simp only [execOp, eval_tmp, eval_const]; simp [go_sem]
      · exact ⟨_, rfl, (al (Below.refl _ _) (Nat.le_refl _)), _, _, _, rfl, sl_block ([0]) 1 (hnew rfl) rfl rfl (by simp [maxLen])⟩
    · intro a W hb0 hs hp hi; have hb := undrew hb0; clear hb0
      have t12 : BytesIs ([0]) (sl a 12) W := hp 2 (by decide)
      obtain ⟨ya, yb, yc, t12, zz⟩ := t12
      refine ite_y rfl (wp_enter 92 #[.slice ya yb yc] ?_ (RExplicit_any ya yb yc [0] W zz (by have := zz.len; simp at this; show yb ≤ _; omega)) ?_)
      · simp only [execOp, resolve, List.map_toArray, List.map, eval_tmp, eval_func, eval_const, t12]; simp [go_sem]
      · rintro e W' ⟨q5, c5, rfl, hf, hw⟩; exact ⟨_, rfl, _, rfl, hw, q5, _, c5, rfl, hf.sl⟩
    · intro a W hb0 hs hp hi; have hb := undrew hb0; clear hb0
      refine ite_y rfl (wp_val' (w' := W.alloc (.cells #[.int .u8 5] 5)) (.slice (some ⟨W.heap.size, 0, none⟩) 1 1) ?_ ?_)
      · simp only [execOp, eval_tmp, eval_const]; simp [go_sem]
      · exact ⟨_, rfl, (al (Below.refl _ _) (Nat.le_refl _)), _, _, _, rfl, sl_block ([5]) 1 (hnew rfl) rfl rfl (by simp [maxLen])⟩
    · intro a W hb0 hs hp hi; have hb := undrew hb0; clear hb0
      have t14 : BytesIs ([5]) (sl a 14) W := hp 4 (by decide)
      obtain ⟨ya, yb, yc, t14, zz⟩ := t14
      refine ite_y rfl (wp_enter 92 #[.slice ya yb yc] ?_ (RExplicit_any ya yb yc [5] W zz (by have := zz.len; simp at this; show yb ≤ _; omega)) ?_)
      · simp only [execOp, resolve, List.map_toArray, List.map, eval_tmp, eval_func, eval_const, t14]; simp [go_sem]
      · rintro e W' ⟨q5, c5, rfl, hf, hw⟩; exact ⟨_, rfl, _, rfl, hw, q5, _, c5, rfl, hf.sl⟩
    · intro a W hb0 hs hp hi; have hb := undrew hb0; clear hb0
      have t13 : ExpT [0] (sl a 13) W := hp 3 (by decide)
      obtain ⟨qa, na, ca, t13, za⟩ := t13
      have t15 : ExpT [5] (sl a 15) W := hp 5 (by decide)
      obtain ⟨qb, nb, cb, t15, zb⟩ := t15
      have v13 : a.tmps[13]?.getD undef = sl a 13 := by simp [sl]
      have v15 : a.tmps[15]?.getD undef = sl a 15 := by simp [sl]
      rw [t13] at v13
      rw [t15] at v15
      refine ite_y rfl (wp_val' (w' := W.alloc (.cells #[B8 0, .slice qa na ca, .int .u64 0, B8 0, .slice qb nb cb, .int .u64 0] 66)) (.slice (some ⟨W.heap.size, 0, none⟩) 2 2) ?_ ?_)
      · simp only [execOp, eval_tmp, t13, t15]; simp [go_sem, v13, v15]
      · exact ⟨_, rfl, al (Below.refl _ _) (Nat.le_refl _), _, rfl, sls_two (hnew rfl) (za.keep (al (Below.refl _ _) (Nat.le_refl _))) (zb.keep (al (Below.refl _ _) (Nat.le_refl _)))⟩
    · intro a W hb0 hs hp hi; have hb := undrew hb0; clear hb0
      have t10 : sl a 10 = PVal 2 2 1 0 := hp 0 (by decide)
      have t11 : BytesIs ([8, 9]) (sl a 11) W := hp 1 (by decide)
      obtain ⟨ya, yb, yc, t11, zz⟩ := t11
      have hyb : yb = 2 := zz.len.symm
      subst hyb
      have t16 : SrcT 2 [⟨0, [0], 0⟩, ⟨0, [5], 0⟩] (sl a 16) W := hp 6 (by decide)
      obtain ⟨qs, t16, zs⟩ := t16
      refine ite_y rfl (wp_enter 39 #[PVal 2 2 1 0, .slice ya 2 yc, .slice qs 2 2, .slice none 0 0] ?_ (Run22 ya yc qs 2 W zz zs (HT.out.keep (bl HB2.out hb HB2.out.size))) ?_)
      · simp only [execOp, resolve, List.map_toArray, List.map, eval_tmp, eval_func, eval_const, t10, t11, t16]; simp [go_sem]
      · rintro e W' ⟨v5, rfl, ⟨q5, c5, q6, n6, c6, rfl, o5, s5⟩, hw⟩; exact ⟨_, rfl, _, rfl, hw, q5, c5, q6, n6, c6, rfl, owns_mono o5 hb.size, s5⟩
    · intro a W hb0 hs hp hi; have hb := undrew hb0; clear hb0
      exact ite_y rfl (wp_val (sl a 17) rfl ⟨_, rfl, Below.refl _ _, hp 7 (by decide)⟩)
    · intro a W hb0 hs hp hi; have hb := undrew hb0; clear hb0
      have tt : RepTT w2.heap.size 90 2 2 1 1 (stepsV 1 2 0 [pk22a, pk22b] 2) [8, 9] (sl a 9) W := hp 8 (by decide)
      obtain ⟨q5, c5, q6, n6, c6, tt, o5, s5⟩ := tt
      refine ite_y rfl (wp_val (.agg #[.int .i64 (2 : Nat), .slice q5 2 c5, .int .i64 (1 : Nat), .int .i64 (1 : Nat), .slice q6 n6 c6]) ?_ ?_)
      · simp only [execOp, eval_tmp, tt]; rfl
      · exact ⟨_, rfl, Below.refl _ _, q5, c5, q6, n6, c6, rfl, o5, s5⟩
    · intro a W hb0 hs hp hi; have hb := undrew hb0; clear hb0
      have tt : RepTT w2.heap.size 90 2 2 1 1 (stepsV 1 2 0 [pk22a, pk22b] 2) [8, 9] (sl a 9) W := hp 8 (by decide)
      obtain ⟨q5, c5, q6, n6, c6, tt, o5, s5⟩ := tt
      refine ite_y rfl (wp_val (.int .i64 0) ?_ ?_)
      · simp only [execOp, eval_tmp, tt]; rfl
      · exact ⟨_, rfl, Below.refl _ _, rfl⟩
    · intro a W hb0 hs hp hi; have hb := undrew hb0; clear hb0
      refine ite_y rfl (wp_val' (w' := W.alloc (.cells #[.int .i64 0, .slice none 0 0, .int .i64 0, .int .i64 0, .slice none 0 0] 85)) (.pointer (some ⟨W.heap.size, 0, none⟩)) ?_ ?_)
      · simp only [execOp]; simp [go_sem]
      · exact ⟨_, rfl, al (Below.refl _ _) (Nat.le_refl _), _, rfl, hb.size, hnew rfl⟩
  intro a w3 o ho hb hs hd hI ht
  simp at ho; subst ho
  have y3 := hI 11 (by decide) (by decide)
  obtain ⟨g3, t3, hg3, hh3⟩ := y3
  have y18 := hI 9 (by decide) (by decide)
  obtain ⟨q8, c8, q9, n9, c9, t18, o18, s18⟩ := y18
  have y9 := hI 8 (by decide) (by decide)
  obtain ⟨_, _, _, _, _, t9, _, _⟩ := y9
  refine ⟨⟨_, t9⟩, ?_⟩
  refine wp_store_row 85 (.tmp 3) (.tmp 18) rfl g3 #[.int .i64 (2 : Nat), .slice q8 2 c8, .int .i64 (1 : Nat), .int .i64 (1 : Nat), .slice q9 n9 c9] (by rw [eval_tmp]; exact t3) (by rw [eval_tmp]; exact t18) _ _ hh3 info_report rfl (by simp [Value.oneCell']) ?_
  refine ⟨rfl, fun ab hbs hbd hbt hbu => ?_⟩
  have ha := act_is [10, 11, 12, 13, 14, 15, 16, 17, 9, 18, 19, 3, 4] hbs hbd (fun t h => (hbt t (fun e => by subst e; revert h; decide)).trans (ht t h)) (by decide)
  have s3 := (hbt 3 (by decide)).trans t3
  simp only [List.foldl, hbu, s3] at ha
  generalize sl ab 10 = u10 at ha
  generalize sl ab 11 = u11 at ha
  generalize sl ab 12 = u12 at ha
  generalize sl ab 13 = u13 at ha
  generalize sl ab 14 = u14 at ha
  generalize sl ab 15 = u15 at ha
  generalize sl ab 16 = u16 at ha
  generalize sl ab 17 = u17 at ha
  generalize sl ab 9 = u9 at ha
  generalize sl ab 18 = u18 at ha
  generalize sl ab 4 = u4 at ha
  simp only [Act.put, List.setIfInBounds_toArray, List.set_cons_zero, List.set_cons_succ] at ha
  rw [ha]; clear ha hbu hbt hbs hbd hI ht hs hd s3
  simp only [List.drop_succ_cons, List.drop_zero]
  have HB3 : Hid (Below w.heap.size w (w3.setRow g3 #[.int .i64 (2 : Nat), .slice q8 2 c8, .int .i64 (1 : Nat), .int .i64 (1 : Nat), .slice q9 n9 c9])) := below_row (bl HB2.out hb HB2.out.size) (by have := HB2.out.size; omega)
  have o19 := rep_owns (new := #[.int .i64 (2 : Nat), .slice q8 2 c8, .int .i64 (1 : Nat), .int .i64 (1 : Nat), .slice q9 n9 c9]) o18 hh3
  have HS9 : Hid (Sl B8 (w3.setRow g3 #[.int .i64 (2 : Nat), .slice q8 2 c8, .int .i64 (1 : Nat), .int .i64 (1 : Nat), .slice q9 n9 c9]) q9 n9 c9 [8, 9]) := sl_noByteRow s18 hh3 noByte5
  have hbx : (w3.setRow g3 #[.int .i64 (2 : Nat), .slice q8 2 c8, .int .i64 (1 : Nat), .int .i64 (1 : Nat), .slice q9 n9 c9]).heap[g3]? = _ := hrs hh3
  obtain ⟨g, e8⟩ : ∃ g, q8 = some ⟨g, 0, none⟩ := by
    rcases o19.2 with ⟨h2, h3⟩ | ⟨g, cap, cur, hv, _⟩
    · omega
    · cases hv; exact ⟨_, rfl⟩
  subst e8
  have hc8 := o19.cellAt 1 (by decide)
  rw [steps22] at hc8
  generalize w3.setRow g3 #[.int .i64 (2 : Nat), .slice (some ⟨g, 0, none⟩) 2 c8, .int .i64 (1 : Nat), .int .i64 (1 : Nat), .slice q9 n9 c9] = w4 at *
  obtain ⟨b0, b1, b2, b3, b4⟩ := cells_five hbx
  clear o18 o19 s18 hh3 hb hbx z0 z1 z2 z3 t3 t9 t18
  go_wp2_with fail
  have hsame := Same_any q9 (some ⟨w4.heap.size, 0, none⟩) n9 2 c9 2 [8, 9] [8, 9] (w4.alloc (.cells #[.int .u8 8, .int .u8 9] 5 (0, 0))) (HS9.out.keep (al (Below.refl _ _) (Nat.le_refl _))) (sl_block [8, 9] 2 (hnew rfl) rfl rfl (by simp [maxLen]))
  rw [decide_eq_true rfl] at hsame
  refine Calls.mono hsame ?_
  rintro e w5 ⟨rfl, hb⟩
  have HB5 := Lib.hid (bl HB3.out (one_of hb).1 HB3.out.size)
  clear hb hsame
  go_wp2
  go_ret
  exact ⟨rfl, HB5.out⟩
end Go.Proofs.YtfbmdlfkipipfaaGreatDoor
namespace Go.Proofs.YtfbmdlfkipipfaaGreatDoor
open Go.RowKit Go.By Gf Go.Maps
/-- is it gone through -/
def few22 (n0 : Nat) (srcs : List SrcD) (acs : List ActD) : Bool := srcs.all (fun a => decide (a.xs.length ≤ 60)) && (decide (n0 ≤ 240) && (decide (srcs.length ≤ 20) && few20 [] acs))
set_option maxRecDepth 100000 in
set_option maxHeartbeats 2000000 in
theorem Few22_any (q0 : Option Addr) (n0 c0 : Nat) (p1 : Option Addr) (n1 c1 : Nat) (srcs : List SrcD) (p2 : Option Addr) (n2 c2 : Nat) (acs : List ActD) (w : World) (hn0 : n0 ≤ 9223372036854775807) (h1 : SlS w p1 n1 c1 srcs) (h2 : SlA w p2 n2 c2 acs) :
    Calls Tryz.prog 38 #[.slice q0 n0 c0, .slice p1 n1 c1, .slice p2 n2 c2] w fun e w' => e = .returned (.bool (few22 n0 srcs acs)) ∧ Below w.heap.size w w' := by
  have H1 := Lib.hid h1
  have H2 := Lib.hid h2
  have hb1 := h1.bound
  have HL := Lib.hid h1.len
  clear h1 h2
  go_enter Tryz.func38, Tryz.ntmps38
  go_wp2
  go_loopw [11] (fun iv wr => ∃ i : Nat, i ≤ n1 ∧ iv = .int .i64 (i : Nat) ∧ Hid (∀ (j : Nat) (a : SrcD), j < i → srcs[j]? = some a → a.xs.length ≤ 60) ∧ Hid (Below w.heap.size w wr)) (fun iv _ => n1 - (intOf iv).toNat)
  case atStart => exact ⟨0, Nat.zero_le _, rfl, fun j a hj => by omega, Below.refl _ _⟩
  case round =>
    obtain ⟨i, hi, rfl, hA, hB⟩ := hrel
    by_cases hlt : i < n1
    · obtain ⟨b, ob, q, j, c', a, rfl, hga, f0, f1, f2, hs, hs64⟩ := H1.out.at hlt
      have x0 := (hB.out.cell (p := ⟨b, ob + i * 3, none⟩) (lt_of_cell f0)).trans f0
      have x1 := (hB.out.cell (p := ⟨b, ob + i * 3 + 1, none⟩) (lt_of_cell f1)).trans f1
      have x2 := (hB.out.cell (p := ⟨b, ob + i * 3 + 2, none⟩) (lt_of_cell f2)).trans f2
      have hlt' : (i : Int) < (n1 : Int) := by omega
      have HJ := Lib.hid hs.len
      have hjb := hs.bound
      clear f0 f1 f2 hs hlt
      by_cases hj : j ≤ 60
      · have hj' : ¬ (60 : Int) < (j : Int) := by omega
        have HX : Hid (∀ (j : Nat) (a : SrcD), j < i + 1 → srcs[j]? = some a → a.xs.length ≤ 60) := fun j2 a2 h1 h2 => by
          by_cases e : j2 = i
          · subst e; have := hga.out.symm.trans h2; cases this; rw [HJ.out]; exact hj
          · exact hA.out j2 a2 (by omega) h2
        have HB' := Lib.hid (al (o := .cells #[B8 a.m, .slice q j c', .int .u64 (a.s : Nat)] 66 (0, 0)) hB.out hB.out.size)
        clear hA hga
        go_wp2
        go_roundw
        case rel => exact ⟨i + 1, by omega, by go_num, HX.out, HB'.out⟩
        case measure => simp [intOf]; omega
      · have hj' : (60 : Int) < (j : Int) := by omega
        have HF : Hid (few22 n0 srcs acs = false) := by
          show _ = _
          unfold few22
          have : srcs.all (fun a => decide (a.xs.length ≤ 60)) = false := by
            rw [List.all_eq_false]; exact ⟨a, List.mem_of_getElem? hga.out, by have := HJ.out; simp; omega⟩
          rw [this]; rfl
        go_wp2
        go_ret
        exact ⟨by rw [HF.out]; rfl, al hB.out hB.out.size⟩
    · have HA : Hid (few22 n0 srcs acs = (decide (n0 ≤ 240) && (decide (n1 ≤ 20) && few20 [] acs))) := by
        show _ = _
        unfold few22
        have : srcs.all (fun a => decide (a.xs.length ≤ 60)) = true := List.all_eq_true.2 fun x hx => by
          obtain ⟨r, hr, e⟩ := List.getElem_of_mem hx
          exact decide_eq_true (hA.out r x (by have := HL.out; omega) (by rw [List.getElem?_eq_getElem hr, e]))
        rw [this, HL.out]; rfl
      have hlt' : ¬ (i : Int) < (n1 : Int) := by omega
      have HFW := Lib.hid (Few20_any none p2 0 0 n2 c2 [] acs wr (Sl2.nil0 _) (H2.out.keep hB.out))
      clear hA hlt
      by_cases h0 : n0 ≤ 240
      · have h0' : (n0 : Int) ≤ 240 := by omega
        by_cases h3 : n1 ≤ 20
        · have h3' : (n1 : Int) ≤ 20 := by omega
          have HR : Hid (few22 n0 srcs acs = few20 [] acs) := by show _ = _; rw [HA.out, decide_eq_true h0, decide_eq_true h3]; rfl
          clear h0 h3
          go_wp2_with fail
          refine Calls.mono HFW.out ?_
          rintro e w2 ⟨rfl, hb⟩
          have HB2 := Lib.hid (bl hB.out hb hB.out.size)
          clear hb
          go_wp2
          go_ret
          exact ⟨by rw [HR.out]; rfl, HB2.out⟩
        · have h3' : ¬ (n1 : Int) ≤ 20 := by omega
          have HR : Hid (few22 n0 srcs acs = false) := by show _ = _; rw [HA.out, decide_eq_false h3]; simp
          clear h0 h3
          go_wp2
          go_ret
          exact ⟨by rw [HR.out]; rfl, hB.out⟩
      · have h0' : ¬ (n0 : Int) ≤ 240 := by omega
        have HR : Hid (few22 n0 srcs acs = false) := by show _ = _; rw [HA.out, decide_eq_false h0]; rfl
        clear h0
        go_wp2
        go_ret
        exact ⟨by rw [HR.out]; rfl, hB.out⟩
set_option maxRecDepth 100000 in
set_option maxHeartbeats 2000000 in
theorem Run_bad (l s m d : Int) (q : Option Addr) (n c : Nat) (p1 : Option Addr) (n1 c1 : Nat) (p2 : Option Addr) (n2 c2 : Nat) (w : World) (hl2 : l ≤ 9223372036854775807) (hk : cutC l s m n ≠ 0) :
    Calls Tryz.prog 39 #[.agg #[.int .i64 l, .int .i64 s, .int .i64 m, .int .u32 d], .slice q n c, .slice p1 n1 c1, .slice p2 n2 c2] w fun e w' => e = .returned (.tuple #[.agg #[.int .i64 0, .slice none 0 0, .int .i64 0, .int .i64 0, .slice none 0 0], .int .i64 (cutC l s m n)]) ∧ Below w.heap.size w w' := by
  have HK := Lib.hid (fun w => SNew_bad l s m d q n c w hl2 hk)
  have hz : (cutC l s m n != 0) = true := bne_iff_ne.2 hk
  clear hk
  generalize cutC l s m n = C at *
  go_enter Tryz.func39, Tryz.ntmps39
  go_wp2_with fail
  refine Calls.mono (HK.out _) ?_
  rintro e w1 ⟨rfl, hb⟩
  obtain ⟨hb1, h1, h2, hs⟩ := two_of hb
  have HB := Lib.hid hb1
  clear hb hb1
  go_wp2_with (refine wpList_store_row (o := ⟨none, .store 85 (.tmp 8) (.tmp 30), _, _, _, _⟩) rfl 85 (.tmp 8) (.tmp 30) rfl (w.heap.size + 1) #[.int .i64 0, .slice none 0 0, .int .i64 0, .int .i64 0, .slice none 0 0] rfl rfl _ _ h2 info_report rfl (by simp [Value.oneCell']) ?_)
  refine bodyPost_ret (res_ct rfl _ _ _ 85 #[.int .i64 0, .slice none 0 0, .int .i64 0, .int .i64 0, .slice none 0 0] (0, 0) _ (.int .i64 C) rfl (hrs h2) rfl Tryz.underlying85 rfl info_report) rfl ?_
  exact ⟨rfl, below_row HB.out (by omega)⟩
end Go.Proofs.YtfbmdlfkipipfaaGreatDoor
