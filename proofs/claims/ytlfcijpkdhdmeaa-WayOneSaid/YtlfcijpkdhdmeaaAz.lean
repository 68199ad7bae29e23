/- An act that came in by value, with the reach of its bytes. -/
import Derived.Test.YtlfcijpkdhdmeaaAg
import Derived.SizedLaws
import Derived.WideShapes
namespace Go.Proofs.Ytlfcijpkdhdmeaa
open Go.RowKit Go.By Go.ChangeShapes Go.WideShapes Go.Deep
section
variable {H : Type} {enc : TypeId × Value → H} {P : Program} {w : World} {base : Nat} {held : Bool}
theorem sized_bytes {ts : List TypeId} {ds : List (DataW H)} {j : Nat} {t e : TypeId} {k : IntKind} {zs : List Int} {len : Nat} (hsz : (DataW.weightsEach P ts ds).all (· ≤ reachBytes) = true) (ht : ts[j]? = some t) (hd : ds[j]? = some (.slice (lits k (zs.take len)) (lits k (zs.drop len)))) (hu : P.underlying t = some (.slice e)) (hb : P.bytesOf e = 1) (hl : len ≤ zs.length) : len ≤ 140737488355328 := by
  have := sized_slice hsz ht hd hu
  rw [hb] at this
  simp only [lits, List.length_map, List.length_take, List.length_drop, reachBytes] at this
  omega
theorem open_agg5 {r : Reach} {b0 : Nat} {t q : TypeId} {f0 f1 f2 f3 f4 : Field} {v : Value} {d : DataW H} {pl : List MemPlace} {ts : List TypeId} {ds : List (DataW H)} {jj : Nat}
    (ht : P.underlying t = some (.struct #[f0, f1, f2, f3, f4])) (hone : oneCellFields P #[f0, f1, f2, f3, f4] = true) (hC : P.cellsOf t = 5)
    (h0 : P.underlying f0.type = some (.int .i64)) (h1 : P.underlying f1.type = some (.int .i64)) (h2 : P.underlying f2.type = some (.int .i64)) (h3 : P.underlying f3.type = some (.int .u32)) (h4 : P.underlying f4.type = some (.slice q)) (hq : P.underlying q = some (.int .u8)) (cq : P.cellsOf q = 1) (bq : P.bytesOf q = 1)
    (hv : Value.okWide P w r b0 t v) (h : DataW.Trod enc P w base (fun _ => true) held t v d pl)
    (hsz : (DataW.weightsEach P ts ds).all (· ≤ reachBytes) = true) (hts : ts[jj]? = some t) (hds : ds[jj]? = some d) :
    ∃ (a : ActD) (p : Option Addr) (m c : Nat), v = .agg #[.int .i64 a.d, .int .i64 a.i, .int .i64 a.j, .int .u32 a.b, .slice p m c] ∧ Sl B8 w p m c a.bs ∧ a.i ≤ 9223372036854775807 ∧ a.j ≤ 9223372036854775807 ∧ a.b < 4294967296 ∧ m ≤ 140737488355328 := by
  obtain ⟨cs, rfl, hsz'⟩ := okWide_struct ht hv
  obtain ⟨fuel, hf⟩ := h
  obtain ⟨a, p, m, c, hcs, g1, g2, g3, g4⟩ := open_act ht hone hC h0 h1 h2 h3 h4 hq cq hf
  refine ⟨a, p, m, c, ?_, g1, g2, g3, g4, ?_⟩
  · simp only [Value.cells] at hcs
    rw [← hcs]
  · obtain ⟨xs, n, _, hx, hl, hlen, hfs⟩ := DataW.trod_struct ht hf
    match xs, hlen with
    | [y0, y1, y2, y3, y4], _ =>
      have k4 := hfs 4 f4 rfl
      simp only [List.getElem?_cons_succ, List.getElem?_cons_zero] at k4
      obtain ⟨o4, z4⟩ := hone_of hone 4 f4 rfl
      rw [o4, z4, hcs] at k4
      simp only [List.drop_succ_cons, List.drop_zero, List.take_succ_cons, List.take_zero] at k4
      simp only [Prod.mk.injEq] at hx
      have hd := hx.1
      subst hd
      rcases open_ints h4 hq cq k4 with ⟨hcs', _⟩ | ⟨x, l, c', zs, hcs', _, hl', hm', hz', hx4, _⟩
      · simp at hcs'; omega
      · simp at hcs'
        obtain ⟨_, rfl, rfl⟩ := hcs'
        have hmem := List.all_eq_true.1 hsz ((lits (H := H) .u8 (zs.take m)).length + (lits (H := H) .u8 (zs.drop m)).length) (DataW.weights_mem_each hts hds _ (by
          simp [DataW.weights, DataW.weightsEach, ht, h4, hx4, bq]))
        simp only [lits, List.length_map, List.length_take, List.length_drop, reachBytes, decide_eq_true_eq] at hmem
        have : m ≤ zs.length := by rw [hz']; simp; exact hl'
        omega
end
end Go.Proofs.Ytlfcijpkdhdmeaa
