/- Acts that came in: a slice of structs of five cells, and one by value, opened. -/
import Derived.Test.YtlfcijpkdhdmeaaAc
import Derived.Test.YtlfcijpkdhdmeaaB5
import Derived.Lib.SmallJoins
namespace Go.Proofs.Ytlfcijpkdhdmeaa
open Go.RowKit Go.By Go.ChangeShapes Go.WideShapes Go.Deep
section
variable {H : Type} {enc : TypeId × Value → H} {P : Program} {w : World} {base : Nat} {held : Bool}
instance : Inhabited ActD := ⟨⟨0, 0, 0, 0, []⟩⟩
theorem trod_struct5 {t : TypeId} {f0 f1 f2 f3 f4 : Field} {fuel : Nat} {cs : List Value} {x : DataW H × List MemPlace} {spare : Nat → Bool} (ht : P.underlying t = some (.struct #[f0, f1, f2, f3, f4])) (h : DataW.trod enc P w base spare held fuel t cs = some x) :
    ∃ y0 y1 y2 y3 y4 n, cs.length = P.cellsOf t ∧ DataW.trod enc P w base spare held n f0.type ((cs.drop f0.offset).take (P.cellsOf f0.type)) = some y0 ∧
      DataW.trod enc P w base spare held n f1.type ((cs.drop f1.offset).take (P.cellsOf f1.type)) = some y1 ∧ DataW.trod enc P w base spare held n f2.type ((cs.drop f2.offset).take (P.cellsOf f2.type)) = some y2 ∧
      DataW.trod enc P w base spare held n f3.type ((cs.drop f3.offset).take (P.cellsOf f3.type)) = some y3 ∧ DataW.trod enc P w base spare held n f4.type ((cs.drop f4.offset).take (P.cellsOf f4.type)) = some y4 := by
  obtain ⟨xs, n, _, rfl, hl, hlen, hf⟩ := DataW.trod_struct ht h
  match xs, hlen with
  | [y0, y1, y2, y3, y4], _ => exact ⟨y0, y1, y2, y3, y4, n, hl, by simpa using hf 0 f0 rfl, by simpa using hf 1 f1 rfl, by simpa using hf 2 f2 rfl, by simpa using hf 3 f3 rfl, by simpa using hf 4 f4 rfl⟩
theorem list5 {α : Type} {cs : List α} (h : cs.length = 5) : ∃ c0 c1 c2 c3 c4, cs = [c0, c1, c2, c3, c4] := by
  match cs, h with
  | [c0, c1, c2, c3, c4], _ => exact ⟨c0, c1, c2, c3, c4, rfl⟩
/-- one act, cell by cell -/
theorem open_act {t q : TypeId} {f0 f1 f2 f3 f4 : Field} {fuel : Nat} {cs : List Value} {x : DataW H × List MemPlace} (ht : P.underlying t = some (.struct #[f0, f1, f2, f3, f4])) (hone : oneCellFields P #[f0, f1, f2, f3, f4] = true) (hC : P.cellsOf t = 5)
    (h0 : P.underlying f0.type = some (.int .i64)) (h1 : P.underlying f1.type = some (.int .i64)) (h2 : P.underlying f2.type = some (.int .i64)) (h3 : P.underlying f3.type = some (.int .u32)) (h4 : P.underlying f4.type = some (.slice q)) (hq : P.underlying q = some (.int .u8)) (cq : P.cellsOf q = 1)
    (h : DataW.trod enc P w base (fun _ => true) held fuel t cs = some x) :
    ∃ (a : ActD) (p : Option Addr) (m c : Nat), cs = [.int .i64 a.d, .int .i64 a.i, .int .i64 a.j, .int .u32 a.b, .slice p m c] ∧ Sl B8 w p m c a.bs ∧ a.i ≤ 9223372036854775807 ∧ a.j ≤ 9223372036854775807 ∧ a.b < 4294967296 := by
  obtain ⟨y0, y1, y2, y3, y4, n, hl, g0, g1, g2, g3, g4⟩ := trod_struct5 ht h
  obtain ⟨c0, c1, c2, c3, c4, rfl⟩ := list5 (hl.trans hC)
  obtain ⟨o0, k0⟩ := hone_of hone 0 f0 rfl
  obtain ⟨o1, k1⟩ := hone_of hone 1 f1 rfl
  obtain ⟨o2, k2⟩ := hone_of hone 2 f2 rfl
  obtain ⟨o3, k3⟩ := hone_of hone 3 f3 rfl
  obtain ⟨o4, k4⟩ := hone_of hone 4 f4 rfl
  rw [o0, k0] at g0; rw [o1, k1] at g1; rw [o2, k2] at g2; rw [o3, k3] at g3; rw [o4, k4] at g4
  obtain ⟨d, e0, -, w0⟩ := DataW.trod_int h0 g0
  obtain ⟨i, e1, -, w1⟩ := DataW.trod_int h1 g1
  obtain ⟨j, e2, -, w2⟩ := DataW.trod_int h2 g2
  obtain ⟨b, e3, -, w3⟩ := DataW.trod_int h3 g3
  obtain ⟨p, m, c, bs, e4, hs⟩ : ∃ p m c bs, c4 = .slice p m c ∧ Sl B8 w p m c bs := by
    rcases open_ints h4 hq cq g4 with ⟨hcs, _⟩ | ⟨x, l, c, zs, hcs, _, hl, hm, hz, _, hcell, hwz⟩
    · simp at hcs
      exact ⟨none, 0, 0, [], hcs, Sl.nil0 _ _⟩
    · simp at hcs
      obtain ⟨xs, hx⟩ := sl_of_row (.inr ⟨_, rfl, hl, hm, by simpa using hz, hcell, hwz⟩)
      exact ⟨_, _, _, xs, hcs, hx⟩
  have b3 : 0 ≤ b ∧ b ≤ 4294967295 := by
    simp [Lit.wf, IntKind.min, IntKind.max, IntKind.signed, IntKind.bits] at w3
    omega
  obtain ⟨bn, rfl⟩ := Int.eq_ofNat_of_zero_le b3.1
  simp at e0 e1 e2 e3
  subst e0; subst e1; subst e2; subst e3; subst e4
  exact ⟨⟨d, i, j, bn, bs⟩, p, m, c, rfl, hs, (Go.bounds_i64 w1).2, (Go.bounds_i64 w2).2, by show bn < 4294967296; have := b3.2; omega⟩
theorem open_acts {t e q : TypeId} {f0 f1 f2 f3 f4 : Field} {fuel : Nat} {cs : List Value} {x : DataW H × List MemPlace} (ht : P.underlying t = some (.slice e)) (he : P.underlying e = some (.struct #[f0, f1, f2, f3, f4])) (hone : oneCellFields P #[f0, f1, f2, f3, f4] = true) (hC : P.cellsOf e = 5)
    (h0 : P.underlying f0.type = some (.int .i64)) (h1 : P.underlying f1.type = some (.int .i64)) (h2 : P.underlying f2.type = some (.int .i64)) (h3 : P.underlying f3.type = some (.int .u32)) (h4 : P.underlying f4.type = some (.slice q)) (hq : P.underlying q = some (.int .u8)) (cq : P.cellsOf q = 1)
    (h : DataW.trod enc P w base (fun _ => true) held fuel t cs = some x) : ∃ p n c acs, cs = [.slice p n c] ∧ SlA w p n c acs := by
  rcases open_slice ht h with ⟨hcs, _⟩ | ⟨a, len, cap, m, n, D, Pl, rfl, hb, hl, hm, hmm, rfl, hx⟩
  · exact ⟨none, 0, 0, [], hcs, ⟨rfl, by simp [maxLen], Nat.le_refl _, fun k a hk => by simp at hk⟩⟩
  simp only [if_true] at hmm
  have hmm' := hmm.symm
  subst hmm'
  have hsp : 0 < len → a.spot = none := fun h => by
    obtain ⟨cs', hc, htr⟩ := hx 0 (by omega)
    obtain ⟨y, p, m', c', rfl, -⟩ := open_act he hone hC h0 h1 h2 h3 h4 hq cq htr
    obtain ⟨_, _, hcell⟩ := World.cells?_some hc
    have z0 := hcell 0 (by omega)
    simpa [Addr.add] using World.cell?_spot (z0.trans rfl)
  have each : ∀ k, k < len → ∃ y : ActD, ∃ b o q m c', a = ⟨b, o, none⟩ ∧ w.cell? ⟨b, o + k * 5, none⟩ = some (.int .i64 y.d) ∧ w.cell? ⟨b, o + k * 5 + 1, none⟩ = some (.int .i64 y.i) ∧ w.cell? ⟨b, o + k * 5 + 2, none⟩ = some (.int .i64 y.j) ∧
      w.cell? ⟨b, o + k * 5 + 3, none⟩ = some (.int .u32 y.b) ∧ w.cell? ⟨b, o + k * 5 + 4, none⟩ = some (.slice q m c') ∧ Sl B8 w q m c' y.bs ∧ y.i ≤ 9223372036854775807 ∧ y.j ≤ 9223372036854775807 ∧ y.b < 4294967296 := by
    intro k hk
    obtain ⟨cs', hc, htr⟩ := hx k (by omega)
    obtain ⟨y, p, m', c', rfl, hs, hb1, hb2, hb3⟩ := open_act he hone hC h0 h1 h2 h3 h4 hq cq htr
    obtain ⟨_, _, hcell⟩ := World.cells?_some hc
    rw [hC] at hcell
    obtain ⟨b, o, spot⟩ := a
    have z0 := hcell 0 (by omega)
    have hspot : spot = none := hsp (by omega)
    subst hspot
    have z1 := hcell 1 (by omega); have z2 := hcell 2 (by omega); have z3 := hcell 3 (by omega); have z4 := hcell 4 (by omega)
    simp only [add_plain] at z0 z1 z2 z3 z4
    exact ⟨y, b, o, p, m', c', rfl, z0, z1, z2, z3, z4, hs, hb1, hb2, hb3⟩
  obtain ⟨f, hf⟩ := choose_lt each
  refine ⟨some a, len, cap, (List.range len).map f, rfl, ⟨by simp, hm, hl, fun k y hk => ?_⟩⟩
  rw [List.getElem?_map] at hk
  cases hr : (List.range len)[k]? with
  | none => rw [hr] at hk; simp at hk
  | some k' =>
    rw [hr] at hk
    obtain ⟨hk1, hk2⟩ := List.getElem?_eq_some_iff.1 hr
    simp at hk1 hk2 hk
    subst hk2; subst hk
    obtain ⟨b, o, q, m, c', e, r⟩ := hf k hk1
    exact ⟨b, o, q, m, c', by rw [e], r⟩
end
end Go.Proofs.Ytlfcijpkdhdmeaa
