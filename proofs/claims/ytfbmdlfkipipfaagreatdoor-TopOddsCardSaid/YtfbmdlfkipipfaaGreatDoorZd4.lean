/- Chapter 18: gate.Look. Chapter 18: gate.Look of a gate that nothing came to. The contracts of a grid's parts: blank, row, Width, Height, Same. The contracts of grid.Of, and of the reference's Of; Few. The contracts of grid.Unit and Rows. A slice of rows that the call owns. The walk of the law KernPairs. The contracts of the reference's functions of layer 3, and its inverse. The contracts of the reference's functions of layer 3. The contracts of the reference's Less and Same of layer 3, of the law's helpers, and of Unit. The plain law of VecLeads: what is normed leads with a 1, and so on. Linear algebra over the field of 256 elements: combinations, spans, independence, exchange, elimination. Nothing of the program. Vectors of n places: units, coordinates; products of rows; rows and columns have one rank; what is inverse from the left is from the right. Rows kept one by one, as the grid's rank and the document's keep them: as many as the rank says. A region that draws its order, whose last operation (a store) waits for all others but one extract. The contract of the grid's Rank. Slices of rows that read so; the contract of the reference's Rest. Appends of rows: any part of a slice of rows onto a slice that the call owns. The contract of the reference's Insert. The contract of the reference's Turned. The contract of the reference's Rank. Determinants by the first row, over the field of 256 elements: linear in each row, nought where two rows are the same; what row steps do to them. Gauss-Jordan on rows with data: what each step keeps. slices.IndexFunc of rows; the closure of Inverse. The rows of Inverse in memory: one block of n rows. Rows that lead, reduced: what they span tells them; a row more, as a system of equations puts it. A row more into reduced rows (putF); reduced rows out of rows that lead by rising places (backB); both are the same. The document's reduced rows: one behind the other cleared, in place; they are the system's. The contracts of the reference's Same of layer 3, and of a law's rows: made, and as the document's. The contract of a grid's Turned. The contracts of grid.Of where rows fit, or are uneven. The contract of the law's Made. -/
import Derived.Test.YtfbmdlfkipipfaaGreatDoorZd3
import Derived.Deep.AppendLies
import Derived.Laws.AppendOwnNone
import Derived.Deep.RegionWith
import Derived.Laws.CopyOwn
namespace Go.By
open Go.RowKit Go.Maps
theorem res_cct {P : Program} {fn : Func} {p q u : Tmp} {ty ty2 : TypeId} (h : fn.results = #[.cell p ty, .cell q ty2, .tmp u]) (tmps : Array Value) (w : World) (g g2 : Nat) (t t2 : TypeId) (cs cs2 : Array Value) (fr fr2 : Nat × Nat) (d d2 : TypeDesc) (v : Value)
    (hp : tmps.getD p undef = .pointer (some ⟨g, 0, none⟩)) (hg : w.heap[g]? = some (.cells cs t fr)) (hq : tmps.getD q undef = .pointer (some ⟨g2, 0, none⟩)) (hg2 : w.heap[g2]? = some (.cells cs2 t2 fr2)) (hv : tmps.getD u undef = v)
    (hu : P.underlying ty = some d) (hd : (match d with | .struct _ | .array _ _ => true | _ => false) = true) (hi : (P.info? ty).map (·.size) = some cs.size) (hu2 : P.underlying ty2 = some d2) (hd2 : (match d2 with | .struct _ | .array _ _ => true | _ => false) = true) (hi2 : (P.info? ty2).map (·.size) = some cs2.size) :
    (results fn tmps).run P w = .ok (.tuple #[.agg cs, .agg cs2, v]) w := by
  have hp' : tmps[p]?.getD undef = .pointer (some ⟨g, 0, none⟩) := by simpa using hp
  have hq' : tmps[q]?.getD undef = .pointer (some ⟨g2, 0, none⟩) := by simpa using hq
  have hv' : tmps[u]?.getD undef = v := by simpa using hv
  simp [results, h, hp', hq', hv', asAddr, run_loadVar_row w g t ty cs fr d hg hu hd hi, run_loadVar_row w g2 t2 ty2 cs2 fr2 d2 hg2 hu2 hd2 hi2]
theorem Fresh.two {T T1 T2 : TypeId} {B g1 g2 : Nat} {w w' : World} {q : Option Addr} {n c : Nat} {xs : List UInt8} {o1 o2 : Array Value} {f1 f2 : Nat × Nat} (h : Fresh T B w q n c xs) (hE : TwoE w g1 g2 w') (h1 : w.heap[g1]? = some (.cells o1 T1 f1)) (h2 : w.heap[g2]? = some (.cells o2 T2 f2)) (n1 : T1 ≠ T) (n2 : T2 ≠ T) : Fresh T B w' q n c xs := by
  have hd : ∀ a, q = some a → a.block ≠ g1 ∧ a.block ≠ g2 := fun a ha => by
    obtain ⟨cs, fr, e⟩ := h.ty a ha
    refine ⟨fun e1 => ?_, fun e1 => ?_⟩
    · rw [e1, h1] at e; injection e with e; injection e with _ e _; exact n1 e
    · rw [e1, h2] at e; injection e with e; injection e with _ e _; exact n2 e
  refine ⟨⟨h.sl.len, h.sl.le, h.sl.max, h.sl.nil, fun i hi => ?_⟩, h.new, fun a ha => ?_⟩
  · obtain ⟨b, o, e, hc⟩ := h.sl.rs i hi
    exact ⟨b, o, e, hE.cell (hd _ e).1 (hd _ e).2 hc⟩
  · obtain ⟨cs, fr, e⟩ := h.ty a ha
    exact ⟨cs, fr, (hE.block _ (hd a ha).1 (hd a ha).2).trans e⟩
/-- the world behind a store of a whole row -/
structure IsRow (w : World) (g : Nat) (cs : Array Value) (w' : World) : Prop where
  eq : w' = w.setRow g cs
theorem wpList_store_rowS {P : Program} {ops : Array Oper} {rest : List Oper} {o : Oper} {a : Act} {w : World} {Q : Exit → Act → World → Prop} (hgd : o.guard = none) (ty : TypeId) (x y : Operand) (ho : o.op = .store ty x y)
    (g : Nat) (cells : Array Value) (hx : a.eval x = .pointer (some ⟨g, 0, none⟩)) (hy : a.eval y = .agg cells)
    (t : TypeId) (old : Array Value) (hg : w.heap[g]? = some (.cells old t (0, 0))) (hi : (P.info? ty).map (·.size) = some cells.size)
    (hold : old.size = cells.size) (h1 : cells.all (·.oneCell') = true)
    (h : ∀ w', IsRow w g cells w' → wpList P ops Q rest (a.put o.dst undef) w') : wpList P ops Q (o :: rest) a w :=
  wpList_store_row hgd ty x y ho g cells hx hy t old hg hi hold h1 (h _ ⟨rfl⟩)
theorem ownsMap_keep {P : Program} {k : TypeId} {R : Value → Option (DataW Unit × List MemPlace)} {w w' : World} {b n : Nat} {D : DataW Unit} (h : w.ownsMap P k R b n D) (hb : Below w.heap.size w w') : w'.ownsMap P k R b n D := by
  have hlt := h.lt
  obtain ⟨es, clock, h1, F, hs, hD⟩ := h
  exact ⟨es, clock, (hb.block _ hlt).trans h1, F, hs, hD⟩
theorem run_makeMapN {P : Program} {t k e : TypeId} (ht : P.underlying t = some (.map k e)) (x : Int) (w : World) : (Instr.makeMap t (some (.int .i64 x))).run P w = .ok (.map (some w.heap.size)) (w.alloc (.map #[] 0)) := by
  simp [Instr.makeMap, run_underlying ht, asInt, asIntOf]
theorem ownsMap_size {P : Program} {k : TypeId} {R : Value → Option (DataW Unit × List MemPlace)} {w : World} {b n : Nat} {D : DataW Unit} (h : w.ownsMap P k R b n D) : Maps.size D ≤ n := by
  obtain ⟨es, clock, h1, F, hs, rfl⟩ := h
  simpa [Maps.size, length_sorted] using hs
end Go.By
namespace Go.Proofs.YtfbmdlfkipipfaaGreatDoor
open Go.RowKit Go.By Go.Maps
theorem zeroI (W : World) : (zeroValue 3).run Tryz.prog W = .ok (.int .i64 0) W := by simp [Tryz.underlying3]
theorem keyE (k t D : Nat) (xs : List UInt8) : keyOf Tryz.prog 35 (.int .i64 (readC k t D xs)) = some (.int .i64 (readC k t D xs)) := by
  refine keyOf_int_mk Tryz.underlying35 ?_
  rcases readC_cases k t D xs with h | h | h | h | h | h | h <;> rw [h] <;> decide
/-- a packet's seven cells, whatever they are; told where there is no error -/
def PkC (w : World) (B k t D : Nat) (xs : List UInt8) (v0 v1 v2 v3 v4 v5 v6 : Value) : Prop :=
  (v0.oneCell' = true ∧ v1.oneCell' = true ∧ v2.oneCell' = true ∧ v3.oneCell' = true ∧ v4.oneCell' = true ∧ v5.oneCell' = true ∧ v6.oneCell' = true) ∧
  (readC k t D xs = 0 → ∃ q n c q2 n2 c2, v0 = B8 (pktM xs) ∧ v1 = .int .u32 (D : Nat) ∧ v2 = .int .u32 (pktN xs : Nat) ∧ v3 = B8 (pktM xs) ∧ v4 = .slice q n c ∧ v5 = .int .u64 (pktS k xs : Nat) ∧ v6 = .slice q2 n2 c2 ∧ Fresh 5 B w q n c (pktX k xs) ∧ Fresh 5 B w q2 n2 c2 (pktY k t xs))
theorem PkC.keep {w w' : World} {B k t D : Nat} {xs : List UInt8} {v0 v1 v2 v3 v4 v5 v6 : Value} (h : PkC w B k t D xs v0 v1 v2 v3 v4 v5 v6) (hb : Below w.heap.size w w') : PkC w' B k t D xs v0 v1 v2 v3 v4 v5 v6 :=
  ⟨h.1, fun hc => by obtain ⟨q, n, c, q2, n2, c2, e0, e1, e2, e3, e4, e5, e6, f1, f2⟩ := h.2 hc; exact ⟨q, n, c, q2, n2, c2, e0, e1, e2, e3, e4, e5, e6, f1.keep hb, f2.keep hb⟩⟩
theorem PkC.mono {w : World} {B B' k t D : Nat} {xs : List UInt8} {v0 v1 v2 v3 v4 v5 v6 : Value} (h : PkC w B k t D xs v0 v1 v2 v3 v4 v5 v6) (hb : B' ≤ B) : PkC w B' k t D xs v0 v1 v2 v3 v4 v5 v6 :=
  ⟨h.1, fun hc => by obtain ⟨q, n, c, q2, n2, c2, e0, e1, e2, e3, e4, e5, e6, f1, f2⟩ := h.2 hc; exact ⟨q, n, c, q2, n2, c2, e0, e1, e2, e3, e4, e5, e6, f1.mono hb, f2.mono hb⟩⟩
theorem PkC.row {w : World} {B k t D : Nat} {xs : List UInt8} {v0 v1 v2 v3 v4 v5 v6 : Value} (h : PkC w B k t D xs v0 v1 v2 v3 v4 v5 v6) {T g : Nat} {cs old : Array Value} {fr : Nat × Nat} (hg : w.heap[g]? = some (.cells old T fr)) (hne : T ≠ 5) : PkC (w.setRow g cs) B k t D xs v0 v1 v2 v3 v4 v5 v6 :=
  ⟨h.1, fun hc => by obtain ⟨q, n, c, q2, n2, c2, e0, e1, e2, e3, e4, e5, e6, f1, f2⟩ := h.2 hc; exact ⟨q, n, c, q2, n2, c2, e0, e1, e2, e3, e4, e5, e6, f1.row hg hne, f2.row hg hne⟩⟩
theorem PkC.two {w w' : World} {B k t D : Nat} {xs : List UInt8} {v0 v1 v2 v3 v4 v5 v6 : Value} (h : PkC w B k t D xs v0 v1 v2 v3 v4 v5 v6) {T1 T2 g1 g2 : Nat} {o1 o2 : Array Value} {f1 f2 : Nat × Nat} (hE : TwoE w g1 g2 w') (h1 : w.heap[g1]? = some (.cells o1 T1 f1)) (h2 : w.heap[g2]? = some (.cells o2 T2 f2)) (n1 : T1 ≠ 5) (n2 : T2 ≠ 5) : PkC w' B k t D xs v0 v1 v2 v3 v4 v5 v6 :=
  ⟨h.1, fun hc => by obtain ⟨q, n, c, q2, n2', c2, e0, e1, e2, e3, e4, e5, e6, f1, f2⟩ := h.2 hc; exact ⟨q, n, c, q2, n2', c2, e0, e1, e2, e3, e4, e5, e6, f1.two hE h1 h2 n1 n2, f2.two hE h1 h2 n1 n2⟩⟩
theorem gate_ne : 105 ≠ 5 := by decide
theorem getN_put {C : DataW Unit} (hC : IsMap C) {e : Int} (hk : WideAt.IsKeyLit (.int .i64 e)) (c x : Int) : getN (C.put (.int .i64 e) (.lit (.int .i64 c))) x = if x = e then c else getN C x := by
  by_cases h : x = e
  · subst h
    rw [if_pos rfl]
    unfold getN
    rw [atKey_put_same hC hk]
  · rw [if_neg h]
    unfold getN
    rw [atKey_put_other (fun e1 => h (by injection e1))]
theorem PRead_gen (L t k D : Nat) (p : Option Addr) (n c : Nat) (xs : List UInt8) (w : World) (hP : POK L t k D) (hT : HalfT w) (h : Sl B8 w p n c xs) (hr : Room n) :
    Calls Tryz.prog 110 #[PVal L t k D, .slice p n c] w fun e w' => ∃ v0 v1 v2 v3 v4 v5 v6, e = .returned (.tuple #[.agg #[v0, v1, v2, v3, v4, v5, v6], .int .i64 (readC k t D xs)]) ∧ PkC w' w.heap.size k t D xs v0 v1 v2 v3 v4 v5 v6 ∧ Below w.heap.size w w' := by
  refine Calls.mono (PRead_any L t k D p n c xs w hP hT h hr) ?_
  intro e w' he
  by_cases hc : readC k t D xs = 0
  · rw [if_pos hc] at he
    obtain ⟨q, n, c, q2, n2, c2, rfl, f1, f2, hb⟩ := he
    rw [hc]
    exact ⟨_, _, _, _, _, _, _, rfl, ⟨⟨rfl, rfl, rfl, rfl, rfl, rfl, rfl⟩, fun _ => ⟨q, n, c, q2, n2, c2, rfl, rfl, rfl, rfl, rfl, rfl, rfl, f1, f2⟩⟩, hb⟩
  · rw [if_neg hc] at he
    obtain ⟨rfl, hb⟩ := he
    exact ⟨_, _, _, _, _, _, _, rfl, ⟨⟨rfl, rfl, rfl, rfl, rfl, rfl, rfl⟩, fun h => absurd h hc⟩, hb⟩
set_option maxRecDepth 100000 in
set_option maxHeartbeats 4000000 in
theorem GLook_own (L t k D b N : Nat) (C : DataW Unit) (p : Option Addr) (n c : Nat) (xs : List UInt8) (w : World) (hP : POK L t k D) (hT : HalfT w) (ho : w.ownsMap Tryz.prog 35 (plainElem Tryz.prog 3) b N C) (hsm : ∀ x, 0 ≤ getN C x ∧ getN C x ≤ N) (hN : N < 1000000) (h : Sl B8 w p n c xs) (hr : Room n) :
    Calls Tryz.prog 62 #[GVal L t k D (.map (some b)), .slice p n c] w fun e w' => ∃ b2 v0 v1 v2 v3 v4 v5 v6, e = .returned (.tuple #[GVal L t k D (.map (some b2)), .agg #[v0, v1, v2, v3, v4, v5, v6], .int .i64 (readC k t D xs)]) ∧
      CntM w' (.map (some b2)) (N + 1) (C.put (.int .i64 (readC k t D xs)) (.lit (.int .i64 (getN C (readC k t D xs) + 1)))) ∧ PkC w' w.heap.size k t D xs v0 v1 v2 v3 v4 v5 v6 ∧ Below w.heap.size w w' := by
  have HR : Hid (∀ w, HalfT w → Sl B8 w p n c xs → Calls Tryz.prog 110 #[PVal L t k D, .slice p n c] w fun e w' => ∃ v0 v1 v2 v3 v4 v5 v6, e = .returned (.tuple #[.agg #[v0, v1, v2, v3, v4, v5, v6], .int .i64 (readC k t D xs)]) ∧ PkC w' w.heap.size k t D xs v0 v1 v2 v3 v4 v5 v6 ∧ Below w.heap.size w w') := fun w hT h => PRead_gen L t k D p n c xs w hP hT h hr
  have H := Lib.hid h
  have HT := Lib.hid hT
  have HM := Lib.hid ho
  have HSm := Lib.hid hsm
  clear hP h hr hT ho hsm
  generalize hE : readC k t D xs = E at *
  have HE := Lib.hid hE
  clear hE
  go_enter Tryz.func62, Tryz.ntmps62
  go_wp2_with fail
  refine Calls.mono (HR.out _ (HT.out.keep (by exact al (al (al (Below.refl _ _) (Nat.le_refl _)) (by simp)) (by simp; omega))) (H.out.keep (by exact al (al (al (Below.refl _ _) (Nat.le_refl _)) (by simp)) (by simp; omega)))) ?_
  rintro e w1 ⟨v0, v1, v2, v3, v4, v5, v6, rfl, hpk, hb⟩
  obtain ⟨hb1, h1, h2, h3, hs⟩ := three_of hb
  have HB := Lib.hid hb1
  have HPk := Lib.hid (hpk.mono (B' := w.heap.size) (by simp; omega))
  obtain ⟨o0, o1, o2, o3, o4, o5, o6⟩ := hpk.1
  obtain ⟨c0, c1, c2, c3, c4⟩ := cells_five h1
  have d4 : ∀ o', (w1.alloc o').cell? ⟨w.heap.size, 4, none⟩ = _ := fun _ => calloc c4
  clear hb hb1 hpk
  go_wp2_with (refine wpList_store_rowS (o := ⟨none, .store 135 (.tmp 7) (.tmp 17), _, _, _, _⟩) rfl 135 (.tmp 7) (.tmp 17) rfl w1.heap.size #[v0, v1, v2, v3, v4, v5, v6] rfl rfl _ _ (hnew rfl) info_packet rfl (by simp [o0, o1, o2, o3, o4, o5, o6]) ?_)
  intro w2 hr2
  have HB2 : Hid (Below w.heap.size w w2) := by rw [hr2.eq]; exact below_row (al HB.out HB.out.size) HB.out.size
  have h1' : w2.heap[w.heap.size]? = some (.cells #[.int .i64 (L : Nat), .int .i64 (t : Nat), .int .i64 (k : Nat), .int .u32 (D : Nat), .map (some b)] 105 (0, 0)) := by rw [hr2.eq]; exact hro (hal h1) (by omega)
  have h2' : w2.heap[w.heap.size + 1]? = some (.cells #[.int .i64 0, .int .i64 0, .int .i64 0, .int .u32 0, .map none] 105 (0, 0)) := by rw [hr2.eq]; exact hro (hal h2) (by omega)
  have h3' : w2.heap[w.heap.size + 2]? = some (.cells #[.int .u8 0, .int .u32 0, .int .u32 0, .int .u8 0, .slice none 0 0, .int .u64 0, .slice none 0 0] 135 (0, 0)) := by rw [hr2.eq]; exact hro (hal h3) (by omega)
  have h7 : w2.heap[w1.heap.size]? = some (.cells #[v0, v1, v2, v3, v4, v5, v6] 135 (0, 0)) := by rw [hr2.eq]; exact hrs (hnew rfl)
  have HPk2 : Hid (PkC w2 w.heap.size k t D xs v0 v1 v2 v3 v4 v5 v6) := by rw [hr2.eq]; exact (HPk.out.keep (al (Below.refl _ _) (Nat.le_refl _))).row (hnew rfl) pkt_ne
  have HM2 := Lib.hid (ownsMap_keep HM.out HB2.out)
  have hs2 : w1.heap.size + 1 ≤ w2.heap.size := by rw [hr2.eq]; simp [World.setRow]
  clear hr2 h1 h2 h3 c0 c1 c2 c3 c4 d4
  generalize hG7 : w1.heap.size = g7 at *
  have HG7 : Hid (w.heap.size + 3 ≤ g7) := hs
  clear hG7
  obtain ⟨c0, c1, c2, c3, c4⟩ := cells_five h1'
  have hmk := fun x => run_makeMapN (P := Tryz.prog) Tryz.underlying103 x w2
  have d4 : ∀ o', (w2.alloc o').cell? ⟨w.heap.size, 4, none⟩ = some (.map (some b)) := fun _ => calloc c4
  go_wp2_with (first | (at_len; refine wpList_len_own _ rfl _ 103 rfl 35 3 Tryz.underlying103 _ b N C rfl HM2.out ?_) | (at_range; refine wpList_range_own _ rfl _ 103 rfl 35 3 keyedG Tryz.underlying103 _ b N C rfl (HM2.out.alloc _) ?_))
  intro w3 hrg hg3 hs3
  try go_frame
  have SC : Maps.size C ≤ N := ownsMap_size HM2.out
  have hbl : b < w2.heap.size := HM2.out.lt
  obtain ⟨b2, hb2⟩ : ∃ b2, b2 = w2.heap.size := ⟨_, rfl⟩
  have hm0 : (w2.alloc (.map #[] 0)).ownsMap Tryz.prog 35 (plainElem Tryz.prog 3) b2 0 (.map [] : DataW Unit) := by rw [hb2]; exact World.ownsMap_made _ _ _ _
  rw [← hb2] at hrg hs3 ⊢
  have HRG := Lib.hid hrg
  have HM3 := Lib.hid (hm0.kept hg3 (by simp))
  have HBL : Hid (b < b2) := by rw [hb2]; exact hbl
  have HB3 : Hid (Below w2.heap.size w2 w3) := (al (Below.refl _ _) (Nat.le_refl _)).grown hg3 (by simp) (fun r hr' => by cases hr')
  have HZ : Hid (b2 = w2.heap.size) := hb2
  have HSC : Hid (Maps.size C ≤ N) := SC
  clear hrg hm0 hbl hg3 hs3 hmk d4 SC hb2 c0 c1 c2 c3 c4
  go_wp2_with fail
  go_loopw [10] (fun _ wr => ∃ left cnt j C2, Hid (wr.ranges Tryz.prog 35 (plainElem Tryz.prog 3) b (b2 + 1) N C left cnt) ∧ Hid (wr.ownsMap Tryz.prog 35 (plainElem Tryz.prog 3) b2 j C2) ∧ Hid (Agree C2 C left) ∧ Hid (j + cnt ≤ N) ∧ Hid (Below w2.heap.size w2 wr)) (fun _ wr => wr.rangeLeft b (b2 + 1))
  case atStart => exact ⟨_, _, 0, _, HRG.out, HM3.out, agree_start C, by rw [Nat.zero_add]; exact HSC.out, HB3.out⟩
  case round =>
    clear HRG HM3 HB3
    obtain ⟨left, cnt, j, C2, R1, R2, R3, R4, R5⟩ := hrel
    go_wp2_with (at_next; refine wpList_next_ranges_ii _ rfl _ rfl 35 3 .i64 .i64 keyedG Tryz.underlying35 Tryz.underlying3 b (b2 + 1) N _ _ _ rfl R1.out ?_ ?_)
    · intro hc0 hl0
      have eC : C2 = C := agree_end R3.out hl0 (R2.out.canon keyedG) (R1.out.owns.canon keyedG)
      subst eC
      have HJ : Hid (j ≤ N) := by have := R4.out; show j ≤ N; omega
      have hkE := keyE k t D xs
      rw [HE.out] at hkE
      have HKE := Lib.hid hkE
      have HBW := Lib.hid (bl HB2.out R5.out HB2.out.size)
      have q1 := (R5.out.block _ (by have := lt_of_block h1'; omega)).trans h1'
      have q2 := (R5.out.block _ (by have := lt_of_block h2'; omega)).trans h2'
      have q3 := (R5.out.block _ (by have := lt_of_block h3'; omega)).trans h3'
      have q7 := (R5.out.block _ (by have := lt_of_block h7; omega)).trans h7
      have HPk3 := Lib.hid (HPk2.out.keep R5.out)
      have HL2 : Hid (g7 < w2.heap.size) := lt_of_block h7
      clear h1' h2' h3' h7 hc0 hl0 R1 R3 R4 hkE
      go_wp2_with (first | (at_lookup; refine wpList_lookup_own_int _ rfl _ _ 103 rfl 35 3 .i64 keyedG Tryz.underlying103 Tryz.underlying3 (zeroI _) b2 j _ rfl R2.out _ _ rfl HKE.out ?_) | (at_mapUpdate; fail) | fail)
      intro cc hat hwc
      have eN : cc = getN C2 E := by unfold getN; rw [hat]
      have hsmE := HSm.out E
      rw [← eN] at hsmE
      have ec : wrap64 (cc + 1) = cc + 1 := by unfold wrap64; omega
      have hw1 : (Lit.int .i64 (cc + 1)).wf = true := by simp [Lit.wf, IntKind.min, IntKind.max, IntKind.signed, IntKind.bits]; omega
      have HEN := Lib.hid eN
      clear hat eN
      go_wp2_with (first | (at_mapUpdate; refine wpList_mapUpdate_own _ rfl _ _ _ 103 rfl 35 3 keyedG Tryz.underlying103 (plainElem Tryz.prog 3) b2 j C2 rfl R2.out (by have := HJ.out; unfold maxLen; omega) _ _ (.int .i64 E) rfl rfl HKE.out (.lit (.int .i64 (cc + 1))) [] (plainElem_int Tryz.underlying3 hw1) ?_) | fail)
      intro w5 hown5 hg5
      have HO5 := Lib.hid hown5
      have HSZ2 := HZ.out
      have B5 := R5.out.grown hg5 R5.out.size (fun r hr => by cases hr; omega)
      have hx5 := B5.size
      have HB5 := Lib.hid (bl HB2.out B5 HB2.out.size)
      have p1 := (hg5.block _ (lt_of_block q1) (by have := HL2.out; have := HG7.out; simp; omega)).trans q1
      have p2 := (hg5.block _ (lt_of_block q2) (by have := HL2.out; have := HG7.out; simp; omega)).trans q2
      have p3 := (hg5.block _ (lt_of_block q3) (by have := HL2.out; have := HG7.out; simp; omega)).trans q3
      have p7 := (hg5.block _ (lt_of_block q7) (by have := HL2.out; simp; omega)).trans q7
      have HPk5 := Lib.hid (HPk2.out.keep B5)
      have HE1 := Lib.hid ec
      have hne7 : g7 ≠ w.heap.size + 1 ∧ g7 ≠ w.heap.size + 2 := by have := HG7.out; omega
      clear hown5 hg5 B5 q1 q2 q3 q7 ec hw1 hsmE hwc HSZ2 hx5
      obtain ⟨c0, c1, c2, c3, c4⟩ := cells_five p1
      obtain ⟨e0, e1, e2, e3, e4, e5, e6⟩ := cells_seven p7
      go_wp2_with fail
      refine wp_region_pair (fun ix => ([.pointer (some ⟨w.heap.size, 0, none⟩), PVal L t k D, .map (some b2), .agg #[.int .i64 (L : Nat), .int .i64 (t : Nat), .int .i64 (k : Nat), .int .u32 (D : Nat), .map (some b2)], .agg #[v0, v1, v2, v3, v4, v5, v6], .int .i64 E, undef, undef, .int .i64 E][ix]?).getD undef) 45 6 7 (w.heap.size + 1) (w.heap.size + 1 + 1) 105 135 #[.int .i64 (L : Nat), .int .i64 (t : Nat), .int .i64 (k : Nat), .int .u32 (D : Nat), .map (some b2)] #[v0, v1, v2, v3, v4, v5, v6] rfl (by kernel_rfl) (by decide) (by decide) (by decide) (by decide) (by omega) ⟨_, p2, rfl⟩ ⟨_, p3, rfl⟩ ?_ ?_ ?_ (by decide) (by decide) ?_
      · intro i o h1 h2 ho a W hE hs hp hi
        match i, h1, h2, ho with
        | 0, _, _, ho =>
          simp at ho; subst ho
          have t2 : sl a 2 = .pointer (some ⟨w.heap.size, 0, none⟩) := hi 2 (by decide)
          simp only [execOp, eval_tmp, t2]; simp [go_sem]
        | 1, _, _, ho =>
          simp at ho; subst ho
          have t39 : sl a 39 = .pointer (some ⟨w.heap.size, 0, none⟩) := hp 0 39 (by decide) (by decide) (by decide) rfl
          have f0 := hE.cell (by omega) (by omega) c0; have f1 := hE.cell (by omega) (by omega) c1; have f2 := hE.cell (by omega) (by omega) c2; have f3 := hE.cell (by omega) (by omega) c3
          simp only [execOp, eval_tmp, t39]; simp [go_sem, f0, f1, f2, f3]
        | 2, _, _, ho =>
          simp at ho; subst ho
          have t9 : sl a 9 = .map (some b2) := hi 9 (by decide)
          simp only [execOp, eval_tmp, t9]; rfl
        | 3, _, _, ho =>
          simp at ho; subst ho
          have t40 : sl a 40 = PVal L t k D := hp 1 40 (by decide) (by decide) (by decide) rfl
          have t41 : sl a 41 = .map (some b2) := hp 2 41 (by decide) (by decide) (by decide) rfl
          have u40 : a.tmps[40]?.getD undef = sl a 40 := by simp [sl]
          have u41 : a.tmps[41]?.getD undef = sl a 41 := by simp [sl]
          rw [t40] at u40; rw [t41] at u41
          simp only [execOp, eval_tmp, t40, t41]; simp [go_sem, u40, u41, Tryz.underlying105, Tryz.underlying27]
        | 4, _, _, ho =>
          simp at ho; subst ho
          have t7 : sl a 7 = .pointer (some ⟨g7, 0, none⟩) := hi 7 (by decide)
          have f0 := hE.cell hne7.1 hne7.2 e0; have f1 := hE.cell hne7.1 hne7.2 e1; have f2 := hE.cell hne7.1 hne7.2 e2; have f3 := hE.cell hne7.1 hne7.2 e3; have f4 := hE.cell hne7.1 hne7.2 e4; have f5 := hE.cell hne7.1 hne7.2 e5; have f6 := hE.cell hne7.1 hne7.2 e6
          simp only [execOp, eval_tmp, t7]; simp [go_sem, f0, f1, f2, f3, f4, f5, f6]
        | 5, _, _, ho =>
          simp at ho; subst ho
          have t8 : sl a 8 = .int .i64 E := hi 8 (by decide)
          simp only [execOp, eval_tmp, t8]; rfl
        | 8, _, _, ho =>
          simp at ho; subst ho
          have t44 : sl a 44 = .int .i64 E := hp 5 44 (by decide) (by decide) (by decide) rfl
          simp only [execOp, eval_tmp, t44]; rfl
        | 6, h, _, _ => exact absurd rfl h
        | 7, _, h, _ => exact absurd rfl h
        | j + 9, _, _, ho => simp at ho
      · intro o ho a W hE hs hp hi old hold hsz
        simp at ho; subst ho
        have t4 : sl a 4 = .pointer (some ⟨w.heap.size + 1, 0, none⟩) := hi 4 (by decide)
        have t42 : sl a 42 = .agg #[.int .i64 (L : Nat), .int .i64 (t : Nat), .int .i64 (k : Nat), .int .u32 (D : Nat), .map (some b2)] := hp 3 42 (by decide) (by decide) (by decide) rfl
        exact wp_store_row 105 (.tmp 4) (.tmp 42) rfl (w.heap.size + 1) #[.int .i64 (L : Nat), .int .i64 (t : Nat), .int .i64 (k : Nat), .int .u32 (D : Nat), .map (some b2)] (by rw [eval_tmp]; exact t4) (by rw [eval_tmp]; exact t42) _ old hold info_gate hsz (by simp [Value.oneCell']) ⟨rfl, rfl⟩
      · intro o ho a W hE hs hp hi old hold hsz
        simp at ho; subst ho
        have t5 : sl a 5 = .pointer (some ⟨w.heap.size + 1 + 1, 0, none⟩) := hi 5 (by decide)
        have t43 : sl a 43 = .agg #[v0, v1, v2, v3, v4, v5, v6] := hp 4 43 (by decide) (by decide) (by decide) rfl
        exact wp_store_row 135 (.tmp 5) (.tmp 43) rfl (w.heap.size + 1 + 1) #[v0, v1, v2, v3, v4, v5, v6] (by rw [eval_tmp]; exact t5) (by rw [eval_tmp]; exact t43) _ old hold info_packet hsz (by simp [o0, o1, o2, o3, o4, o5, o6]) ⟨rfl, rfl⟩
      · intro a W hE i1 i2 hs hd hI ht
        have ha := act_is [39, 40, 41, 42, 43, 44, 6] hs hd ht (by decide)
        have t6 : sl a 6 = .int .i64 E := hI 8 6 (by decide) (by decide) (by decide) rfl
        simp only [List.foldl, t6] at ha
        generalize sl a 39 = u39 at ha
        generalize sl a 40 = u40 at ha
        generalize sl a 41 = u41 at ha
        generalize sl a 42 = u42 at ha
        generalize sl a 43 = u43 at ha
        generalize sl a 44 = u44 at ha
        simp only [Act.put, List.setIfInBounds_toArray, List.set_cons_zero, List.set_cons_succ] at ha
        rw [ha]
        clear ha hI ht hs hd t6 c0 c1 c2 c3 c4 e0 e1 e2 e3 e4 e5 e6
        have hW := hE.size
        have HO6 : Hid (W.ownsMap Tryz.prog 35 (plainElem Tryz.prog 3) b2 (j + 1) (C2.put (.int .i64 E) (.lit (.int .i64 (cc + 1))))) := by
          obtain ⟨es, clock, m1, F, m2, m3⟩ := HO5.out
          exact ⟨es, clock, (hE.block b2 (by have := HL2.out; have := HG7.out; have := HZ.out; omega) (by have := HL2.out; have := HG7.out; have := HZ.out; omega)).trans m1, F, m2, m3⟩
        have HPk6 := Lib.hid (HPk5.out.two hE p2 p3 gate_ne pkt_ne)
        have HB6 : Hid (Below w.heap.size w W) := HB5.out.trans (hE.below (by omega) (by omega))
        have HMp : Hid (IsMap C2) := R2.out.isMap
        clear hE p1 p2 p3 p7 hW
        go_wp2
        refine bodyPost_ret (res_cct rfl _ _ _ _ 105 135 #[.int .i64 (L : Nat), .int .i64 (t : Nat), .int .i64 (k : Nat), .int .u32 (D : Nat), .map (some b2)] #[v0, v1, v2, v3, v4, v5, v6] (0, 0) (0, 0) _ _ (.int .i64 E) rfl i1 rfl i2 rfl Tryz.underlying105 rfl info_gate Tryz.underlying135 rfl info_packet) rfl ?_
        refine ⟨b2, v0, v1, v2, v3, v4, v5, v6, rfl, ⟨.inr ⟨b2, rfl, ?_⟩, fun x => ?_⟩, HPk6.out, HB6.out⟩
        · rw [← HEN.out]
          exact HO6.out.mono (by have := HJ.out; omega)
        · rw [getN_put HMp.out (keyedG.key HKE.out), ← HEN.out]
          have g1 := HSm.out x
          have g2 := HSm.out E
          rw [← HEN.out] at g2
          split <;> omega
    · intro x cc w4 cnt4 hwx hwc hlx hat hrg4 hlt hg4 hs4 hen
      have R2' := Lib.hid (R2.out.kept hg4 (by simp))
      have RG4 := Lib.hid hrg4
      have HAT := Lib.hid hat
      have hkx := keyOf_int_mk (P := Tryz.prog) Tryz.underlying35 hwx
      have HJ : Hid (j < maxLen) := by have := R4.out; show j < maxLen; unfold maxLen; omega
      have R5' := Lib.hid (R5.out.grown hg4 R5.out.size (fun r hr => by have := HZ.out; cases hr; omega))
      clear hrg4 hat hg4 hlx
      go_wp2_with (first | (at_mapUpdate; refine wpList_mapUpdate_own _ rfl _ _ _ 103 rfl 35 3 keyedG Tryz.underlying103 (plainElem Tryz.prog 3) b2 j C2 rfl R2'.out HJ.out _ _ (.int .i64 x) rfl rfl hkx (.lit (.int .i64 cc)) [] (plainElem_int Tryz.underlying3 hwc) ?_) | fail)
      intro w5 hown5 hg5
      have HO5 := Lib.hid hown5
      have RG5 := Lib.hid (RG4.out.kept hg5 (by have := HBL.out; simp; omega) (by simp))
      have R5'' := Lib.hid (R5'.out.grown hg5 R5'.out.size (fun r hr => by have := HZ.out; cases hr; omega))
      have A5 := Lib.hid (agree_step R3.out R2.out.isMap (keyedG.key hkx) HAT.out)
      clear hown5 hg5 hen
      go_wp2
      go_roundw
      case rel => exact ⟨_, cnt4, j + 1, _, RG5.out, HO5.out, A5.out, by have := R4.out; show j + 1 + cnt4 ≤ N; omega, R5''.out⟩
      case measure => rw [RG5.out.left_eq, R1.out.left_eq]; omega
end Go.Proofs.YtfbmdlfkipipfaaGreatDoor
namespace Go.Proofs.YtfbmdlfkipipfaaGreatDoor
open Go.RowKit Go.By Go.Maps
set_option maxRecDepth 100000 in
set_option maxHeartbeats 4000000 in
theorem GLook_nil (L t k D : Nat) (p : Option Addr) (n c : Nat) (xs : List UInt8) (w : World) (hP : POK L t k D) (hT : HalfT w) (h : Sl B8 w p n c xs) (hr : Room n) :
    Calls Tryz.prog 62 #[GVal L t k D (.map none), .slice p n c] w fun e w' => ∃ b2 v0 v1 v2 v3 v4 v5 v6, e = .returned (.tuple #[GVal L t k D (.map (some b2)), .agg #[v0, v1, v2, v3, v4, v5, v6], .int .i64 (readC k t D xs)]) ∧
      CntM w' (.map (some b2)) 1 ((DataW.map [] : DataW Unit).put (.int .i64 (readC k t D xs)) (.lit (.int .i64 (getN (.map []) (readC k t D xs) + 1)))) ∧ PkC w' w.heap.size k t D xs v0 v1 v2 v3 v4 v5 v6 ∧ Below w.heap.size w w' := by
  have HR : Hid (∀ w, HalfT w → Sl B8 w p n c xs → Calls Tryz.prog 110 #[PVal L t k D, .slice p n c] w fun e w' => ∃ v0 v1 v2 v3 v4 v5 v6, e = .returned (.tuple #[.agg #[v0, v1, v2, v3, v4, v5, v6], .int .i64 (readC k t D xs)]) ∧ PkC w' w.heap.size k t D xs v0 v1 v2 v3 v4 v5 v6 ∧ Below w.heap.size w w') := fun w hT h => PRead_gen L t k D p n c xs w hP hT h hr
  have H := Lib.hid h
  have HT := Lib.hid hT
  clear hP h hr hT
  generalize hE : readC k t D xs = E at *
  have HE := Lib.hid hE
  clear hE
  obtain ⟨C2, hC2⟩ : ∃ C2 : DataW Unit, C2 = .map [] := ⟨_, rfl⟩
  have HSm : Hid (∀ x, 0 ≤ getN C2 x ∧ getN C2 x ≤ 0) := fun x => by rw [hC2]; exact ⟨Int.le_refl _, Int.le_refl _⟩
  rw [← hC2]
  have HC2 := Lib.hid hC2
  clear hC2
  go_enter Tryz.func62, Tryz.ntmps62
  go_wp2_with fail
  refine Calls.mono (HR.out _ (HT.out.keep (by exact al (al (al (Below.refl _ _) (Nat.le_refl _)) (by simp)) (by simp; omega))) (H.out.keep (by exact al (al (al (Below.refl _ _) (Nat.le_refl _)) (by simp)) (by simp; omega)))) ?_
  rintro e w1 ⟨v0, v1, v2, v3, v4, v5, v6, rfl, hpk, hb⟩
  obtain ⟨hb1, h1, h2, h3, hs⟩ := three_of hb
  have HB := Lib.hid hb1
  have HPk := Lib.hid (hpk.mono (B' := w.heap.size) (by simp; omega))
  obtain ⟨o0, o1, o2, o3, o4, o5, o6⟩ := hpk.1
  obtain ⟨c0, c1, c2, c3, c4⟩ := cells_five h1
  have d4 : ∀ o', (w1.alloc o').cell? ⟨w.heap.size, 4, none⟩ = _ := fun _ => calloc c4
  clear hb hb1 hpk
  go_wp2_with (refine wpList_store_rowS (o := ⟨none, .store 135 (.tmp 7) (.tmp 17), _, _, _, _⟩) rfl 135 (.tmp 7) (.tmp 17) rfl w1.heap.size #[v0, v1, v2, v3, v4, v5, v6] rfl rfl _ _ (hnew rfl) info_packet rfl (by simp [o0, o1, o2, o3, o4, o5, o6]) ?_)
  intro w2 hr2
  have HB2 : Hid (Below w.heap.size w w2) := by rw [hr2.eq]; exact below_row (al HB.out HB.out.size) HB.out.size
  have h1' : w2.heap[w.heap.size]? = some (.cells #[.int .i64 (L : Nat), .int .i64 (t : Nat), .int .i64 (k : Nat), .int .u32 (D : Nat), .map none] 105 (0, 0)) := by rw [hr2.eq]; exact hro (hal h1) (by omega)
  have h2' : w2.heap[w.heap.size + 1]? = some (.cells #[.int .i64 0, .int .i64 0, .int .i64 0, .int .u32 0, .map none] 105 (0, 0)) := by rw [hr2.eq]; exact hro (hal h2) (by omega)
  have h3' : w2.heap[w.heap.size + 2]? = some (.cells #[.int .u8 0, .int .u32 0, .int .u32 0, .int .u8 0, .slice none 0 0, .int .u64 0, .slice none 0 0] 135 (0, 0)) := by rw [hr2.eq]; exact hro (hal h3) (by omega)
  have h7 : w2.heap[w1.heap.size]? = some (.cells #[v0, v1, v2, v3, v4, v5, v6] 135 (0, 0)) := by rw [hr2.eq]; exact hrs (hnew rfl)
  have HPk2 : Hid (PkC w2 w.heap.size k t D xs v0 v1 v2 v3 v4 v5 v6) := by rw [hr2.eq]; exact (HPk.out.keep (al (Below.refl _ _) (Nat.le_refl _))).row (hnew rfl) pkt_ne
  have hs2 : w1.heap.size + 1 ≤ w2.heap.size := by rw [hr2.eq]; simp [World.setRow]
  clear hr2 h1 h2 h3 c0 c1 c2 c3 c4 d4
  generalize hG7 : w1.heap.size = g7 at *
  have HG7 : Hid (w.heap.size + 3 ≤ g7) := hs
  clear hG7
  obtain ⟨c0, c1, c2, c3, c4⟩ := cells_five h1'
  have hmk := fun x => run_makeMapN (P := Tryz.prog) Tryz.underlying103 x w2
  have d4 : ∀ o', (w2.alloc o').cell? ⟨w.heap.size, 4, none⟩ = some (.map none) := fun _ => calloc c4
  have hrn := fun W => run_range_nilMap (P := Tryz.prog) W 103 _ _ Tryz.underlying103
  go_wp2_with fail
  obtain ⟨b2, hb2⟩ : ∃ b2, b2 = w2.heap.size := ⟨_, rfl⟩
  have hm0 : (w2.alloc (.map #[] 0)).ownsMap Tryz.prog 35 (plainElem Tryz.prog 3) b2 0 (.map [] : DataW Unit) := by rw [hb2]; exact World.ownsMap_made _ _ _ _
  have hnx := run_next_nilMap (P := Tryz.prog) (w2.alloc (.map #[] 0)) 0 0 0 #[]
  rw [show (w2.alloc (.map #[] 0)).heap.size = w2.heap.size + 1 by simp] at hnx
  have R2 : Hid (((w2.alloc (.map #[] 0)).alloc (.mapIter none 0 #[] 0)).ownsMap Tryz.prog 35 (plainElem Tryz.prog 3) b2 0 (.map [] : DataW Unit)) := hm0.alloc _
  have R5 : Hid (Below w2.heap.size w2 ((w2.alloc (.map #[] 0)).alloc (.mapIter none 0 #[] 0))) := al (al (Below.refl _ _) (Nat.le_refl _)) (by simp)
  have HZ : Hid (b2 = w2.heap.size) := hb2
  rw [← hb2] at hnx ⊢
  have HNX := Lib.hid hnx
  clear hm0 hnx hmk d4 hb2 hrn c0 c1 c2 c3 c4
  obtain ⟨W3, hW3⟩ : ∃ W3, W3 = (w2.alloc (.map #[] 0)).alloc (.mapIter none 0 #[] 0) := ⟨_, rfl⟩
  rw [← hW3] at R2 R5 HNX ⊢
  clear hW3
  rw [← HC2.out] at R2
  go_loopw [10] (fun _ wr => Hid (wr = W3)) (fun _ _ => 0)
  case atStart => rfl
  case round =>
      have hwr := hrel.out
      subst hwr
      have hnx := HNX.out
      have hkE := keyE k t D xs
      rw [HE.out] at hkE
      have HKE := Lib.hid hkE
      have HBW := Lib.hid (bl HB2.out R5.out HB2.out.size)
      have q1 := (R5.out.block _ (by have := lt_of_block h1'; omega)).trans h1'
      have q2 := (R5.out.block _ (by have := lt_of_block h2'; omega)).trans h2'
      have q3 := (R5.out.block _ (by have := lt_of_block h3'; omega)).trans h3'
      have q7 := (R5.out.block _ (by have := lt_of_block h7; omega)).trans h7
      have HPk3 := Lib.hid (HPk2.out.keep R5.out)
      have HL2 : Hid (g7 < w2.heap.size) := lt_of_block h7
      clear h1' h2' h3' h7 hkE
      go_wp2_with (first | (at_lookup; refine wpList_lookup_own_int _ rfl _ _ 103 rfl 35 3 .i64 keyedG Tryz.underlying103 Tryz.underlying3 (zeroI _) b2 0 _ rfl R2.out _ _ rfl HKE.out ?_) | (at_mapUpdate; fail) | fail)
      intro cc hat hwc
      have eN : cc = getN C2 E := by unfold getN; rw [hat]
      have hsmE := HSm.out E
      rw [← eN] at hsmE
      have ec : wrap64 (cc + 1) = cc + 1 := by unfold wrap64; omega
      have hw1 : (Lit.int .i64 (cc + 1)).wf = true := by simp [Lit.wf, IntKind.min, IntKind.max, IntKind.signed, IntKind.bits]; omega
      have HEN := Lib.hid eN
      clear hat eN
      go_wp2_with (first | (at_mapUpdate; refine wpList_mapUpdate_own _ rfl _ _ _ 103 rfl 35 3 keyedG Tryz.underlying103 (plainElem Tryz.prog 3) b2 0 C2 rfl R2.out (by unfold maxLen; omega) _ _ (.int .i64 E) rfl rfl HKE.out (.lit (.int .i64 (cc + 1))) [] (plainElem_int Tryz.underlying3 hw1) ?_) | fail)
      intro w5 hown5 hg5
      have HO5 := Lib.hid hown5
      have HSZ2 := HZ.out
      have B5 := R5.out.grown hg5 R5.out.size (fun r hr => by cases hr; omega)
      have hx5 := B5.size
      have HB5 := Lib.hid (bl HB2.out B5 HB2.out.size)
      have p1 := (hg5.block _ (lt_of_block q1) (by have := HL2.out; have := HG7.out; simp; omega)).trans q1
      have p2 := (hg5.block _ (lt_of_block q2) (by have := HL2.out; have := HG7.out; simp; omega)).trans q2
      have p3 := (hg5.block _ (lt_of_block q3) (by have := HL2.out; have := HG7.out; simp; omega)).trans q3
      have p7 := (hg5.block _ (lt_of_block q7) (by have := HL2.out; simp; omega)).trans q7
      have HPk5 := Lib.hid (HPk2.out.keep B5)
      have HE1 := Lib.hid ec
      have hne7 : g7 ≠ w.heap.size + 1 ∧ g7 ≠ w.heap.size + 2 := by have := HG7.out; omega
      clear hown5 hg5 B5 q1 q2 q3 q7 ec hw1 hsmE hwc HSZ2 hx5
      obtain ⟨c0, c1, c2, c3, c4⟩ := cells_five p1
      obtain ⟨e0, e1, e2, e3, e4, e5, e6⟩ := cells_seven p7
      go_wp2_with fail
      refine wp_region_pair (fun ix => ([.pointer (some ⟨w.heap.size, 0, none⟩), PVal L t k D, .map (some b2), .agg #[.int .i64 (L : Nat), .int .i64 (t : Nat), .int .i64 (k : Nat), .int .u32 (D : Nat), .map (some b2)], .agg #[v0, v1, v2, v3, v4, v5, v6], .int .i64 E, undef, undef, .int .i64 E][ix]?).getD undef) 45 6 7 (w.heap.size + 1) (w.heap.size + 1 + 1) 105 135 #[.int .i64 (L : Nat), .int .i64 (t : Nat), .int .i64 (k : Nat), .int .u32 (D : Nat), .map (some b2)] #[v0, v1, v2, v3, v4, v5, v6] rfl (by kernel_rfl) (by decide) (by decide) (by decide) (by decide) (by omega) ⟨_, p2, rfl⟩ ⟨_, p3, rfl⟩ ?_ ?_ ?_ (by decide) (by decide) ?_
      · intro i o h1 h2 ho a W hE hs hp hi
        match i, h1, h2, ho with
        | 0, _, _, ho =>
          simp at ho; subst ho
          have t2 : sl a 2 = .pointer (some ⟨w.heap.size, 0, none⟩) := hi 2 (by decide)
          simp only [execOp, eval_tmp, t2]; simp [go_sem]
        | 1, _, _, ho =>
          simp at ho; subst ho
          have t39 : sl a 39 = .pointer (some ⟨w.heap.size, 0, none⟩) := hp 0 39 (by decide) (by decide) (by decide) rfl
          have f0 := hE.cell (by omega) (by omega) c0; have f1 := hE.cell (by omega) (by omega) c1; have f2 := hE.cell (by omega) (by omega) c2; have f3 := hE.cell (by omega) (by omega) c3
          simp only [execOp, eval_tmp, t39]; simp [go_sem, f0, f1, f2, f3]
        | 2, _, _, ho =>
          simp at ho; subst ho
          have t9 : sl a 9 = .map (some b2) := hi 9 (by decide)
          simp only [execOp, eval_tmp, t9]; rfl
        | 3, _, _, ho =>
          simp at ho; subst ho
          have t40 : sl a 40 = PVal L t k D := hp 1 40 (by decide) (by decide) (by decide) rfl
          have t41 : sl a 41 = .map (some b2) := hp 2 41 (by decide) (by decide) (by decide) rfl
          have u40 : a.tmps[40]?.getD undef = sl a 40 := by simp [sl]
          have u41 : a.tmps[41]?.getD undef = sl a 41 := by simp [sl]
          rw [t40] at u40; rw [t41] at u41
          simp only [execOp, eval_tmp, t40, t41]; simp [go_sem, u40, u41, Tryz.underlying105, Tryz.underlying27]
        | 4, _, _, ho =>
          simp at ho; subst ho
          have t7 : sl a 7 = .pointer (some ⟨g7, 0, none⟩) := hi 7 (by decide)
          have f0 := hE.cell hne7.1 hne7.2 e0; have f1 := hE.cell hne7.1 hne7.2 e1; have f2 := hE.cell hne7.1 hne7.2 e2; have f3 := hE.cell hne7.1 hne7.2 e3; have f4 := hE.cell hne7.1 hne7.2 e4; have f5 := hE.cell hne7.1 hne7.2 e5; have f6 := hE.cell hne7.1 hne7.2 e6
          simp only [execOp, eval_tmp, t7]; simp [go_sem, f0, f1, f2, f3, f4, f5, f6]
        | 5, _, _, ho =>
          simp at ho; subst ho
          have t8 : sl a 8 = .int .i64 E := hi 8 (by decide)
          simp only [execOp, eval_tmp, t8]; rfl
        | 8, _, _, ho =>
          simp at ho; subst ho
          have t44 : sl a 44 = .int .i64 E := hp 5 44 (by decide) (by decide) (by decide) rfl
          simp only [execOp, eval_tmp, t44]; rfl
        | 6, h, _, _ => exact absurd rfl h
        | 7, _, h, _ => exact absurd rfl h
        | j + 9, _, _, ho => simp at ho
      · intro o ho a W hE hs hp hi old hold hsz
        simp at ho; subst ho
        have t4 : sl a 4 = .pointer (some ⟨w.heap.size + 1, 0, none⟩) := hi 4 (by decide)
        have t42 : sl a 42 = .agg #[.int .i64 (L : Nat), .int .i64 (t : Nat), .int .i64 (k : Nat), .int .u32 (D : Nat), .map (some b2)] := hp 3 42 (by decide) (by decide) (by decide) rfl
        exact wp_store_row 105 (.tmp 4) (.tmp 42) rfl (w.heap.size + 1) #[.int .i64 (L : Nat), .int .i64 (t : Nat), .int .i64 (k : Nat), .int .u32 (D : Nat), .map (some b2)] (by rw [eval_tmp]; exact t4) (by rw [eval_tmp]; exact t42) _ old hold info_gate hsz (by simp [Value.oneCell']) ⟨rfl, rfl⟩
      · intro o ho a W hE hs hp hi old hold hsz
        simp at ho; subst ho
        have t5 : sl a 5 = .pointer (some ⟨w.heap.size + 1 + 1, 0, none⟩) := hi 5 (by decide)
        have t43 : sl a 43 = .agg #[v0, v1, v2, v3, v4, v5, v6] := hp 4 43 (by decide) (by decide) (by decide) rfl
        exact wp_store_row 135 (.tmp 5) (.tmp 43) rfl (w.heap.size + 1 + 1) #[v0, v1, v2, v3, v4, v5, v6] (by rw [eval_tmp]; exact t5) (by rw [eval_tmp]; exact t43) _ old hold info_packet hsz (by simp [o0, o1, o2, o3, o4, o5, o6]) ⟨rfl, rfl⟩
      · intro a W hE i1 i2 hs hd hI ht
        have ha := act_is [39, 40, 41, 42, 43, 44, 6] hs hd ht (by decide)
        have t6 : sl a 6 = .int .i64 E := hI 8 6 (by decide) (by decide) (by decide) rfl
        simp only [List.foldl, t6] at ha
        generalize sl a 39 = u39 at ha
        generalize sl a 40 = u40 at ha
        generalize sl a 41 = u41 at ha
        generalize sl a 42 = u42 at ha
        generalize sl a 43 = u43 at ha
        generalize sl a 44 = u44 at ha
        simp only [Act.put, List.setIfInBounds_toArray, List.set_cons_zero, List.set_cons_succ] at ha
        rw [ha]
        clear ha hI ht hs hd t6 c0 c1 c2 c3 c4 e0 e1 e2 e3 e4 e5 e6
        have hW := hE.size
        have HO6 : Hid (W.ownsMap Tryz.prog 35 (plainElem Tryz.prog 3) b2 (0 + 1) (C2.put (.int .i64 E) (.lit (.int .i64 (cc + 1))))) := by
          obtain ⟨es, clock, m1, F, m2, m3⟩ := HO5.out
          exact ⟨es, clock, (hE.block b2 (by have := HL2.out; have := HG7.out; have := HZ.out; omega) (by have := HL2.out; have := HG7.out; have := HZ.out; omega)).trans m1, F, m2, m3⟩
        have HPk6 := Lib.hid (HPk5.out.two hE p2 p3 gate_ne pkt_ne)
        have HB6 : Hid (Below w.heap.size w W) := HB5.out.trans (hE.below (by omega) (by omega))
        have HMp : Hid (IsMap C2) := R2.out.isMap
        clear hE p1 p2 p3 p7 hW
        go_wp2
        refine bodyPost_ret (res_cct rfl _ _ _ _ 105 135 #[.int .i64 (L : Nat), .int .i64 (t : Nat), .int .i64 (k : Nat), .int .u32 (D : Nat), .map (some b2)] #[v0, v1, v2, v3, v4, v5, v6] (0, 0) (0, 0) _ _ (.int .i64 E) rfl i1 rfl i2 rfl Tryz.underlying105 rfl info_gate Tryz.underlying135 rfl info_packet) rfl ?_
        refine ⟨b2, v0, v1, v2, v3, v4, v5, v6, rfl, ⟨.inr ⟨b2, rfl, ?_⟩, fun x => ?_⟩, HPk6.out, HB6.out⟩
        · rw [← HEN.out]
          exact HO6.out
        · rw [getN_put HMp.out (keyedG.key HKE.out), ← HEN.out]
          have g1 := HSm.out x
          have g2 := HSm.out E
          rw [← HEN.out] at g2
          split <;> omega
theorem CntM.mono {w : World} {M : Value} {N N' : Nat} {C : DataW Unit} (h : CntM w M N C) (hN : N ≤ N') : CntM w M N' C := by
  refine ⟨?_, fun x => by have := h.small x; omega⟩
  rcases h.at_ with h1 | ⟨b, e, ho⟩
  · exact .inl h1
  · exact .inr ⟨b, e, ho.mono hN⟩
/-- one more of a code -/
def bump (C : DataW Unit) (x : Int) : DataW Unit := C.put (.int .i64 x) (.lit (.int .i64 (getN C x + 1)))
/-- gate.Look, whatever came to it -/
theorem GLook_any (L t k D N : Nat) (M : Value) (C : DataW Unit) (p : Option Addr) (n c : Nat) (xs : List UInt8) (w : World) (hP : POK L t k D) (hT : HalfT w) (hC : CntM w M N C) (hN : N < 1000000) (h : Sl B8 w p n c xs) (hr : Room n) :
    Calls Tryz.prog 62 #[GVal L t k D M, .slice p n c] w fun e w' => ∃ b2 v0 v1 v2 v3 v4 v5 v6, e = .returned (.tuple #[GVal L t k D (.map (some b2)), .agg #[v0, v1, v2, v3, v4, v5, v6], .int .i64 (readC k t D xs)]) ∧
      CntM w' (.map (some b2)) (N + 1) (bump C (readC k t D xs)) ∧ PkC w' w.heap.size k t D xs v0 v1 v2 v3 v4 v5 v6 ∧ Below w.heap.size w w' := by
  rcases hC.at_ with ⟨rfl, rfl⟩ | ⟨b, rfl, ho⟩
  · refine Calls.mono (GLook_nil L t k D p n c xs w hP hT h hr) ?_
    rintro e w' ⟨b2, v0, v1, v2, v3, v4, v5, v6, rfl, g1, g2, g3⟩
    exact ⟨b2, v0, v1, v2, v3, v4, v5, v6, rfl, g1.mono (by omega), g2, g3⟩
  · exact GLook_own L t k D b N C p n c xs w hP hT ho hC.small hN h hr
end Go.Proofs.YtfbmdlfkipipfaaGreatDoor
namespace Go.By
open Go.RowKit
theorem cells3 {w : World} {b T : Nat} {u v x : Value} (h : w.heap[b]? = some (.cells #[u, v, x] T (0, 0))) : w.cell? ⟨b, 0, none⟩ = some u ∧ w.cell? ⟨b, 1, none⟩ = some v ∧ w.cell? ⟨b, 2, none⟩ = some x :=
  ⟨cell_of_row _ _ 0 _ _ _ h, cell_of_row _ _ 1 _ _ _ h, cell_of_row _ _ 2 _ _ _ h⟩
theorem Sl.mid {α : Type} {enc : α → Value} {w : World} {b o n c k m : Nat} {xs : List α} (h : Sl enc w (some ⟨b, o, none⟩) n c xs) (hk : k + m ≤ n) : Sl enc w (some ⟨b, o + k, none⟩) m (c - k) ((xs.drop k).take m) := by
  have h1 := h.len; have h2 := h.le; have h3 := h.max
  refine ⟨by rw [List.length_take, List.length_drop]; omega, by omega, by omega, fun e => (by cases e), ?_⟩
  intro i hi
  have hi' : k + i < xs.length := by rw [List.length_take, List.length_drop] at hi; omega
  obtain ⟨b', o', hp, hc⟩ := h.rs (k + i) hi'
  cases hp
  exact ⟨b, o + k, rfl, by rw [show o + k + i = o + (k + i) by omega, hc]; simp⟩
end Go.By
namespace Go.Proofs.YtfbmdlfkipipfaaGreatDoor
open Go.RowKit Go.By
end Go.Proofs.YtfbmdlfkipipfaaGreatDoor
namespace Go.Proofs.YtfbmdlfkipipfaaGreatDoor
open Go.RowKit Go.By
end Go.Proofs.YtfbmdlfkipipfaaGreatDoor
namespace Go.By
end Go.By
namespace Go.Proofs.YtfbmdlfkipipfaaGreatDoor
open Go.RowKit Go.By
theorem info_rows : (Tryz.prog.info? 22).map (fun i => (i.zero, i.size, i.bytes)) = some (some (.slice none 0 0), 1, 24) := by kernel_rfl
end Go.Proofs.YtfbmdlfkipipfaaGreatDoor
namespace Go.By
open Go.RowKit
def fl2 (vs : List (Value × Value)) : List Value := vs.flatMap fun u => [u.1, u.2]
theorem fl2_append (a b : List (Value × Value)) : fl2 (a ++ b) = fl2 a ++ fl2 b := by simp [fl2]
theorem fl2_length (vs : List (Value × Value)) : (fl2 vs).length = vs.length * 2 := by
  induction vs with
  | nil => rfl
  | cons u vs ih => show (u.1 :: u.2 :: fl2 vs).length = _; simp only [List.length_cons, ih]; omega
theorem fl2_at : ∀ {vs : List (Value × Value)} {i : Nat} {u : Value × Value}, vs[i]? = some u → (fl2 vs)[i * 2]? = some u.1 ∧ (fl2 vs)[i * 2 + 1]? = some u.2
  | v :: vs, 0, u, h => by obtain rfl : v = u := by simpa using h
                           exact ⟨rfl, rfl⟩
  | v :: vs, i + 1, u, h => by
    have ih := fl2_at (vs := vs) (i := i) (u := u) (by simpa using h)
    have e : fl2 (v :: vs) = v.1 :: v.2 :: fl2 vs := rfl
    rw [e, show (i + 1) * 2 = i * 2 + 2 by omega]
    exact ⟨by simpa using ih.1, by simpa using ih.2⟩
/-- a slice value that owns these bytes -/
def Bw (T1 : TypeId) (w : World) (base : Nat) (v : Value) (xs : List UInt8) : Prop := ∃ q m c, v = .slice q m c ∧ xs.length = m ∧ w.ownsRow base T1 1 (.slice q m c) m (xs.map B8)
/-- rows, each with bytes of its own -/
def RwL (T2 T1 : TypeId) (w : World) (base : Nat) (v : Value) (n : Nat) (K : List (List UInt8 × List UInt8)) : Prop :=
  ∃ vs : List (Value × Value), vs.length = n ∧ K.length = n ∧ w.ownsRow base T2 2 v n (fl2 vs) ∧ ∀ (j : Nat) (u : Value × Value), vs[j]? = some u → ∃ k, K[j]? = some k ∧ Bw T1 w base u.1 k.1 ∧ Bw T1 w base u.2 k.2
section
variable {T2 T1 : TypeId} {w w' : World} {base n : Nat} {v : Value} {K : List (List UInt8 × List UInt8)}
theorem Bw.keep {xs : List UInt8} (h : Bw T1 w base v xs) (hb : Below w.heap.size w w') : Bw T1 w' base v xs := by
  obtain ⟨q, m, c, e, l, o⟩ := h; exact ⟨q, m, c, e, l, owns_keep o hb⟩
theorem Bw.sl {xs : List UInt8} (h : Bw T1 w base v xs) : ∃ q m c, v = .slice q m c ∧ Sl B8 w q m c xs := by
  obtain ⟨q, m, c, e, l, o⟩ := h; exact ⟨q, m, c, e, Sl.of_owns o⟩
theorem Bw.grown {xs : List UInt8} {u : Value} {L : List Value} {m : Nat} (h : Bw T1 w base v xs) (hT : T1 ≠ T2) (ho : w.ownsRow base T2 2 u m L) (hg : w.grownBy w' u.ownBlock) : Bw T1 w' base v xs := by
  obtain ⟨q, m, c, e, l, o⟩ := h; exact ⟨q, m, c, e, l, owns_kept o hg (owns_ne o ho hT)⟩
theorem RwL.nil (T2 T1 : TypeId) (w : World) (base : Nat) : RwL T2 T1 w base (.slice none 0 0) 0 [] := ⟨[], rfl, rfl, World.ownsRow_nil _ _ _ _, fun j u h => by simp at h⟩
theorem RwL.keep (h : RwL T2 T1 w base v n K) (hb : Below w.heap.size w w') : RwL T2 T1 w' base v n K := by
  obtain ⟨vs, a, b, o, r⟩ := h
  exact ⟨vs, a, b, owns_keepv o hb, fun j u hj => by obtain ⟨k, hk, g1, g2⟩ := r j u hj; exact ⟨k, hk, g1.keep hb, g2.keep hb⟩⟩
theorem RwL.len (h : RwL T2 T1 w base v n K) : K.length = n := by obtain ⟨vs, a, b, o, r⟩ := h; exact b
theorem RwL.shape (h : RwL T2 T1 w base v n K) : ∃ q c, v = .slice q n c := by obtain ⟨vs, a, b, o, r⟩ := h; exact owns_shape o
/-- one row, in memory -/
theorem RwL.at {q : Option Addr} {c : Nat} (h : RwL T2 T1 w base (.slice q n c) n K) {j : Nat} (hj : j < n) : ∃ g k q1 m1 c1 q2 m2 c2, q = some ⟨g, 0, none⟩ ∧ w.cell? ⟨g, j * 2, none⟩ = some (.slice q1 m1 c1) ∧ w.cell? ⟨g, j * 2 + 1, none⟩ = some (.slice q2 m2 c2) ∧
    Hid (K[j]? = some k) ∧ Sl B8 w q1 m1 c1 k.1 ∧ Sl B8 w q2 m2 c2 k.2 := by
  obtain ⟨vs, a, b, o, r⟩ := h
  obtain ⟨u, hu⟩ : ∃ u, vs[j]? = some u := ⟨_, List.getElem?_eq_getElem (by omega)⟩
  obtain ⟨k, hk, g1, g2⟩ := r j u hu
  obtain ⟨q1, m1, c1, e1, s1⟩ := g1.sl
  obtain ⟨q2, m2, c2, e2, s2⟩ := g2.sl
  rcases o.2 with ⟨hv, _⟩ | ⟨g, cap, cur, hv, _⟩
  · simp at hv; omega
  · obtain ⟨rfl, rfl⟩ : q = some ⟨g, 0, none⟩ ∧ c = cap := by simpa using hv
    obtain ⟨f1, f2⟩ := fl2_at hu
    refine ⟨g, k, q1, m1, c1, q2, m2, c2, rfl, ?_, ?_, hk, s1, s2⟩
    · rw [o.cellAt _ (by omega), f1, e1]
    · rw [o.cellAt _ (by omega), f2, e2]
theorem RwL.lt (h : RwL T2 T1 w base v n K) : ∀ k, v.ownBlock = some k → base ≤ k ∧ k < w.heap.size := by
  obtain ⟨vs, a, b, o, r⟩ := h; exact fun k hk => o.lt k hk
theorem Bw.set {xs : List UInt8} {g o : Nat} {u : Value} (h : Bw T1 w base v xs) (hne : ∀ k, v.ownBlock = some k → k ≠ g) (hg : w.grownBy w' (some g)) : Bw T1 w' base v xs := by
  obtain ⟨q, m, c, rfl, l, ho⟩ := h; exact ⟨q, m, c, rfl, l, owns_kept ho hg (fun k hk e => hne k hk (by injection e))⟩
/-- what is written into a block of another type leaves them -/
theorem RwL.set {g TX : Nat} {cs : Array Value} {fr : Nat × Nat} (h : RwL T2 T1 w base v n K) (hX : w.heap[g]? = some (.cells cs TX fr)) (h1 : T1 ≠ TX) (h2 : v.ownBlock ≠ some g) (hg : w.grownBy w' (some g)) : RwL T2 T1 w' base v n K := by
  obtain ⟨vs, a, b, o, r⟩ := h
  have hB : ∀ (u : Value) (xs : List UInt8), Bw T1 w base u xs → Bw T1 w' base u xs := fun u xs hu => by
    refine hu.set (g := g) (o := 0) (u := u) (fun k hk e => ?_) hg
    obtain ⟨q, m, c, rfl, l, ho⟩ := hu
    rcases ho.2 with ⟨hv, _⟩ | ⟨g', cap, cur, hv, _, hh, _⟩
    · rw [hv] at hk; simp [Value.ownBlock] at hk
    · rw [hv] at hk; simp [Value.ownBlock] at hk
      rw [e] at hk; rw [hk, hX] at hh
      injection hh with hh; injection hh with _ hh _; exact h1 hh.symm
  exact ⟨vs, a, b, owns_kept o hg (fun k hk e => h2 (by rw [hk, e])), fun j u hj => by obtain ⟨k, hk, g1, g2⟩ := r j u hj; exact ⟨k, hk, hB _ _ g1, hB _ _ g2⟩⟩
/-- one more -/
theorem RwL.push {w1 : World} {v' : Value} {u1 u2 : Value} {k : List UInt8 × List UInt8} {vs : List (Value × Value)} (a : vs.length = n) (b : K.length = n) (o : w.ownsRow base T2 2 v n (fl2 vs))
    (r : ∀ (j : Nat) (u : Value × Value), vs[j]? = some u → ∃ k, K[j]? = some k ∧ Bw T1 w base u.1 k.1 ∧ Bw T1 w base u.2 k.2) (hT : T1 ≠ T2) (h1 : Bw T1 w base u1 k.1) (h2 : Bw T1 w base u2 k.2)
    (ho : w1.ownsRow base T2 2 v' (n + 1) (fl2 vs ++ [u1, u2])) (hg : w.grownBy w1 v.ownBlock) : RwL T2 T1 w1 base v' (n + 1) (K ++ [k]) := by
  refine ⟨vs ++ [(u1, u2)], by simp [a], by simp [b], by rw [fl2_append]; exact ho, ?_⟩
  intro j u hj
  by_cases hjn : j < vs.length
  · rw [List.getElem?_append_left hjn] at hj
    obtain ⟨k', hk, g1, g2⟩ := r j u hj
    exact ⟨k', by rw [List.getElem?_append_left (by omega)]; exact hk, g1.grown hT o hg, g2.grown hT o hg⟩
  · have hj2 := (List.getElem?_eq_some_iff.1 hj).1
    rw [List.length_append, List.length_singleton] at hj2
    obtain rfl : j = vs.length := by omega
    rw [List.getElem?_append_right (Nat.le_refl _), Nat.sub_self] at hj
    have hu : (u1, u2) = u := by simpa using hj
    subst hu
    exact ⟨k, by rw [a, ← b, List.getElem?_append_right (Nat.le_refl _), Nat.sub_self]; rfl, h1.grown hT o hg, h2.grown hT o hg⟩
end
end Go.By
namespace Go.Proofs.YtfbmdlfkipipfaaGreatDoor
open Go.RowKit Go.By
end Go.Proofs.YtfbmdlfkipipfaaGreatDoor
namespace Go.Proofs.YtfbmdlfkipipfaaGreatDoor
open Go.RowKit Go.By
end Go.Proofs.YtfbmdlfkipipfaaGreatDoor
namespace Go.Proofs.YtfbmdlfkipipfaaGreatDoor
open Go.RowKit Go.By
/-- where a vector leads: nowhere, or at a place with a byte that isn't 0 -/
theorem leadS_cases (v : List UInt8) : (leadS v = -1 ∧ atS v (leadS v) = 0 ∧ ∀ x, x ∈ v → x = 0) ∨ ∃ (k : Nat) (x : UInt8), leadS v = (k : Int) ∧ v[k]? = some x ∧ x ≠ 0 ∧ atS v (leadS v) = x ∧ ∀ (j : Nat) (y : UInt8), j < k → v[j]? = some y → y = 0 := by
  unfold leadS idxf
  cases h : v.findIdx? (fun b => decide (b ≠ 0)) with
  | none =>
    left
    refine ⟨rfl, by simp [atS], ?_⟩
    rw [List.findIdx?_eq_none_iff] at h
    intro x hx
    have := h x hx
    simpa using this
  | some i =>
    right
    obtain ⟨hi, hf, hb⟩ := List.findIdx?_eq_some_iff_getElem.1 h
    refine ⟨i, v[i], rfl, List.getElem?_eq_getElem hi, by simpa using hf, by simp [atS, List.getD, hi], ?_⟩
    intro j y hj hy
    obtain ⟨hj', e⟩ := List.getElem?_eq_some_iff.1 hy
    have := hb j hj
    rw [e] at this
    simpa using this
end Go.Proofs.YtfbmdlfkipipfaaGreatDoor
namespace Go.Proofs.YtfbmdlfkipipfaaGreatDoor
open Go.RowKit Go.By
end Go.Proofs.YtfbmdlfkipipfaaGreatDoor
namespace Go.Proofs.YtfbmdlfkipipfaaGreatDoor
open Go.By
theorem lead_is {v : List UInt8} {k : Nat} {x : UInt8} (h : v[k]? = some x) (hx : x ≠ 0) (hj : ∀ (j : Nat) (y : UInt8), j < k → v[j]? = some y → y = 0) : leadS v = (k : Int) := by
  rcases leadS_cases v with ⟨_, _, h3⟩ | ⟨k', x', e, h1, h2, _, h4⟩
  · exact absurd (h3 x (List.mem_of_getElem? h)) hx
  · rw [e]
    rcases Nat.lt_trichotomy k' k with g | g | g
    · exact absurd (hj k' x' g h1) h2
    · rw [g]
    · exact absurd (h4 k x g h) hx
theorem norm_cases (v d : List UInt8) : (leadS v = -1 ∧ normS (v, d) = (v, d)) ∨
    ∃ (k : Nat) (x : UInt8), leadS v = (k : Int) ∧ x ≠ 0 ∧ v[k]? = some x ∧ (∀ (j : Nat) (y : UInt8), j < k → v[j]? = some y → y = 0) ∧ normS (v, d) = (v.map (Gf.gmul (Gf.ginv x)), d.map (Gf.gmul (Gf.ginv x))) := by
  rcases leadS_cases v with ⟨h1, h2, _⟩ | ⟨k, x, e, h1, h2, h3, h4⟩
  · exact .inl ⟨h1, if_pos h2⟩
  · right
    refine ⟨k, x, e, h2, h1, h4, ?_⟩
    unfold normS
    simp only [h3, if_neg h2]
theorem norm_lead (v d : List UInt8) : leadS (normS (v, d)).1 = leadS v := by
  rcases norm_cases v d with ⟨_, h⟩ | ⟨k, x, e, hx, hk, hj, h⟩
  · rw [h]
  · rw [h, e]
    refine lead_is (x := 1) ?_ (by decide) ?_
    · simp [List.getElem?_map, hk, Gf.ginv_gmul x hx]
    · intro j y hjk hy
      simp only [List.getElem?_map, Option.map_eq_some_iff] at hy
      obtain ⟨z, hz, rfl⟩ := hy
      rw [hj j z hjk hz, Gf.gmul_zero]
theorem at_of {v : List UInt8} {k : Nat} {x : UInt8} (h : v[k]? = some x) : atS v (k : Int) = x := by
  simp [atS, List.getD_eq_getElem?_getD, h]
end Go.Proofs.YtfbmdlfkipipfaaGreatDoor
namespace Gf
abbrev V := Nat → UInt8
/-- the combination of vectors -/
def comb : List UInt8 → List V → V
  | c :: cs, a :: az => fun j => gmul c (a j) ^^^ comb cs az j
  | _, _ => fun _ => 0
theorem comb_nil (c : List UInt8) (j : Nat) : comb c [] j = 0 := by cases c <;> rfl
theorem comb_nil' (A : List V) (j : Nat) : comb [] A j = 0 := by cases A <;> rfl
theorem comb_cons (c : UInt8) (cs : List UInt8) (a : V) (az : List V) (j : Nat) : comb (c :: cs) (a :: az) j = gmul c (a j) ^^^ comb cs az j := rfl
theorem comb_append (c2 : List UInt8) (A2 : List V) (j : Nat) : ∀ (c1 : List UInt8) (A1 : List V), c1.length = A1.length → comb (c1 ++ c2) (A1 ++ A2) j = comb c1 A1 j ^^^ comb c2 A2 j
  | [], [], _ => by simp [comb_nil', zero_xor]
  | c :: cs, a :: az, h => by
    simp only [List.cons_append, comb_cons]
    rw [comb_append c2 A2 j cs az (by simpa using h), xor_assoc]
theorem comb_add (j : Nat) : ∀ (c d : List UInt8) (A : List V), c.length = d.length → comb (List.zipWith (· ^^^ ·) c d) A j = comb c A j ^^^ comb d A j
  | [], [], A, _ => by simp [comb_nil', xor_self]
  | c :: cs, d :: ds, [], _ => by simp [comb_nil, xor_self]
  | c :: cs, d :: ds, a :: az, h => by
    simp only [List.zipWith_cons_cons, comb_cons]
    rw [comb_add j cs ds az (by simpa using h), gmul_xor_left, xor4]
theorem comb_scale (x : UInt8) (j : Nat) : ∀ (c : List UInt8) (A : List V), comb (c.map (gmul x)) A j = gmul x (comb c A j)
  | [], A => by simp [comb_nil', gmul_zero]
  | c :: cs, [] => by simp [comb_nil, gmul_zero]
  | c :: cs, a :: az => by
    simp only [List.map_cons, comb_cons]
    rw [comb_scale x j cs az, gmul_assoc, gmul_xor_right]
theorem comb_zeros (j : Nat) : ∀ (n : Nat) (A : List V), comb (List.replicate n 0) A j = 0
  | 0, A => by simp [comb_nil']
  | n + 1, [] => by simp [comb_nil]
  | n + 1, a :: az => by simp only [List.replicate_succ, comb_cons]; rw [comb_zeros j n az, zero_gmul, xor_self]
/-- a combination of vectors that are nought at a place is nought there -/
theorem comb_at_zero (j : Nat) : ∀ (c : List UInt8) (A : List V), (∀ a, a ∈ A → a j = 0) → comb c A j = 0
  | [], A, _ => comb_nil' _ _
  | c :: cs, [], _ => comb_nil _ _
  | c :: cs, a :: az, h => by rw [comb_cons, h a (by simp), gmul_zero, zero_xor, comb_at_zero j cs az (fun b hb => h b (by simp [hb]))]
/-- in the span -/
def Sp (B : List V) (v : V) : Prop := ∃ c : List UInt8, c.length = B.length ∧ v = comb c B
theorem Sp.zero (B : List V) : Sp B (fun _ => 0) := ⟨List.replicate B.length 0, by simp, by funext j; rw [comb_zeros]⟩
theorem Sp.add {B : List V} {u v : V} (h : Sp B u) (g : Sp B v) : Sp B (fun j => u j ^^^ v j) := by
  obtain ⟨c, hc, rfl⟩ := h; obtain ⟨d, hd, rfl⟩ := g
  exact ⟨List.zipWith (· ^^^ ·) c d, by simp [hc, hd], by funext j; rw [comb_add j c d B (by rw [hc, hd])]⟩
theorem Sp.scale {B : List V} {u : V} (x : UInt8) (h : Sp B u) : Sp B (fun j => gmul x (u j)) := by
  obtain ⟨c, hc, rfl⟩ := h
  exact ⟨c.map (gmul x), by simp [hc], by funext j; rw [comb_scale]⟩
theorem Sp.cons {B : List V} {u : V} (b : V) (h : Sp B u) : Sp (b :: B) u := by
  obtain ⟨c, hc, rfl⟩ := h
  exact ⟨0 :: c, by simp [hc], by funext j; rw [comb_cons, zero_gmul, zero_xor]⟩
theorem Sp.mem {a : V} : ∀ {B : List V}, a ∈ B → Sp B a
  | b :: B, h => by
    rcases List.mem_cons.1 h with rfl | h
    · exact ⟨1 :: List.replicate B.length 0, by simp, by funext j; rw [comb_cons, one_gmul, comb_zeros, xor_zero]⟩
    · exact (Sp.mem h).cons b
theorem Sp.comb {B : List V} : ∀ (c : List UInt8) (A : List V), (∀ a, a ∈ A → Sp B a) → Sp B (Gf.comb c A)
  | [], A, _ => by have : Gf.comb [] A = fun _ => 0 := by funext j; exact comb_nil' A j
                   rw [this]; exact Sp.zero B
  | c :: cs, [], _ => Sp.zero B
  | c :: cs, a :: az, h => Sp.add (Sp.scale c (h a (by simp))) (Sp.comb cs az (fun b hb => h b (by simp [hb])))
theorem Sp.trans {A B : List V} {v : V} (h : ∀ a, a ∈ A → Sp B a) (g : Sp A v) : Sp B v := by
  obtain ⟨c, _, rfl⟩ := g; exact Sp.comb c A h
theorem Sp.sub {A B : List V} {v : V} (h : ∀ a, a ∈ A → a ∈ B) (g : Sp A v) : Sp B v := Sp.trans (fun a ha => Sp.mem (h a ha)) g
theorem Sp.at_zero {A : List V} {v : V} {j : Nat} (h : Sp A v) (hz : ∀ a, a ∈ A → a j = 0) : v j = 0 := by
  obtain ⟨c, _, rfl⟩ := h; exact comb_at_zero j c A hz
/-- independent -/
def Ind (A : List V) : Prop := ∀ c : List UInt8, c.length = A.length → (∀ j, comb c A j = 0) → ∀ x, x ∈ c → x = 0
theorem Ind.nil : Ind [] := fun c hc _ x hx => by
  have : c = [] := List.length_eq_zero_iff.1 hc
  subst this; simp at hx
def dot : List UInt8 → List UInt8 → UInt8
  | c :: cs, t :: ts => gmul c t ^^^ dot cs ts
  | _, _ => 0
theorem comb_shift (a0 : V) (f : V → UInt8) (j : Nat) : ∀ (c : List UInt8) (L : List V), c.length = L.length → comb c (L.map (fun a j => a j ^^^ gmul (f a) (a0 j))) j = comb c L j ^^^ gmul (dot c (L.map f)) (a0 j)
  | [], [], _ => by simp [comb_nil', dot, zero_gmul, xor_self]
  | c :: cs, a :: az, h => by
    simp only [List.map_cons, comb_cons, dot]
    rw [comb_shift a0 f j cs az (by simpa using h), gmul_xor_left, gmul_xor_right, gmul_assoc, xor4]
/-- the exchange: independent vectors in the span of others are no more than these -/
theorem exchange : ∀ (W A : List V), Ind A → (∀ a, a ∈ A → Sp W a) → A.length ≤ W.length
  | [], A, hA, hS => by
    cases A with
    | nil => simp
    | cons a az =>
      exfalso
      obtain ⟨c, hc, ha⟩ := hS a (by simp)
      have h1 := hA (1 :: List.replicate az.length 0) (by simp) (fun j => by rw [comb_cons, comb_zeros, ha, comb_nil]; rw [gmul_zero, xor_zero]) 1 (by simp)
      exact absurd h1 (by decide)
  | w :: W, A, hA, hS => by
    by_cases hall : ∀ a, a ∈ A → Sp W a
    · exact Nat.le_succ_of_le (exchange W A hA hall)
    · have hex : ∃ a0, a0 ∈ A ∧ ¬ Sp W a0 := by
        apply Classical.byContradiction
        intro hn
        exact hall (fun a ha => Classical.byContradiction fun h => hn ⟨a, ha, h⟩)
      obtain ⟨a0, ha0, hn0⟩ := hex
      obtain ⟨A1, A2, rfl⟩ := List.append_of_mem ha0
      have part : ∀ a, Sp (w :: W) a → ∃ (x : UInt8) (r : V), Sp W r ∧ ∀ j, a j = gmul x (w j) ^^^ r j := by
        rintro a ⟨c, hc, rfl⟩
        cases c with
        | nil => simp at hc
        | cons x cs => exact ⟨x, Gf.comb cs W, ⟨cs, by simpa using hc, rfl⟩, fun j => rfl⟩
      obtain ⟨x0, r0, hr0, e0⟩ := part a0 (hS a0 ha0)
      have hx0 : x0 ≠ 0 := fun h => hn0 (by
        have : a0 = r0 := by funext j; rw [e0 j, h, zero_gmul, zero_xor]
        rw [this]; exact hr0)
      have ht : ∀ a, a ∈ A1 ++ A2 → ∃ t : UInt8, Sp W (fun j => a j ^^^ gmul t (a0 j)) := by
        intro a ha
        obtain ⟨x, r, hr, e⟩ := part a (hS a (by simp at ha ⊢; rcases ha with h | h <;> simp [h]))
        refine ⟨gmul x (ginv x0), ?_⟩
        have : (fun j => a j ^^^ gmul (gmul x (ginv x0)) (a0 j)) = fun j => r j ^^^ gmul (gmul x (ginv x0)) (r0 j) := by
          funext j
          rw [e j, e0 j, gmul_xor_right, ← gmul_assoc, gmul_assoc x (ginv x0) x0, ginv_gmul x0 hx0, gmul_one, xor4, xor_self, zero_xor]
        rw [this]; exact Sp.add hr (Sp.scale _ hr0)
      obtain ⟨f, hf⟩ : ∃ f : V → UInt8, ∀ a, a ∈ A1 ++ A2 → Sp W (fun j => a j ^^^ gmul (f a) (a0 j)) :=
        ⟨fun a => Classical.epsilon fun t => Sp W (fun j => a j ^^^ gmul t (a0 j)), fun a ha => Classical.epsilon_spec (ht a ha)⟩
      have hind : Ind ((A1 ++ A2).map (fun a j => a j ^^^ gmul (f a) (a0 j))) := by
        intro c hc hz x hx
        rw [List.length_map] at hc
        have hsplit : c = c.take A1.length ++ c.drop A1.length := (List.take_append_drop _ _).symm
        have l1 : (c.take A1.length).length = A1.length := by rw [List.length_take, hc, List.length_append]; omega
        have h2 := hA (c.take A1.length ++ dot c ((A1 ++ A2).map f) :: c.drop A1.length) (by
          rw [List.length_append, List.length_append, List.length_cons, List.length_cons, l1, List.length_drop, hc, List.length_append]; omega) (fun j => by
          rw [comb_append _ _ _ _ _ l1, comb_cons]
          have h3 := hz j
          rw [comb_shift a0 f j c (A1 ++ A2) hc] at h3
          have h4 : comb c (A1 ++ A2) j = comb (c.take A1.length) A1 j ^^^ comb (c.drop A1.length) A2 j := by
            conv => lhs; rw [hsplit]
            exact comb_append _ _ _ _ _ l1
          rw [h4] at h3
          rw [← h3, xor_assoc]; congr 1; exact xor_comm _ _)
        refine h2 x ?_
        rw [hsplit] at hx
        rcases List.mem_append.1 hx with h | h
        · exact List.mem_append_left _ h
        · exact List.mem_append_right _ (List.mem_cons_of_mem _ h)
      have := exchange W _ hind (fun a ha => by
        obtain ⟨b, hb, rfl⟩ := List.mem_map.1 ha
        exact hf b hb)
      rw [List.length_map, List.length_append] at this
      rw [List.length_append, List.length_cons, List.length_cons]; omega
/-- the rank of vectors -/
def Rk (A : List V) (r : Nat) : Prop := ∃ B, Ind B ∧ B.length = r ∧ (∀ b, b ∈ B → Sp A b) ∧ ∀ a, a ∈ A → Sp B a
theorem Rk.le {A C : List V} {r s : Nat} (h : Rk A r) (g : Rk C s) (hs : ∀ a, a ∈ A → Sp C a) : r ≤ s := by
  obtain ⟨B, b1, rfl, b3, b4⟩ := h; obtain ⟨D, d1, rfl, d3, d4⟩ := g
  exact exchange D B b1 (fun b hb => Sp.trans d4 (Sp.trans hs (b3 b hb)))
theorem Rk.unique {A : List V} {r s : Nat} (h : Rk A r) (g : Rk A s) : r = s :=
  Nat.le_antisymm (h.le g fun _ ha => Sp.mem ha) (g.le h fun _ ha => Sp.mem ha)
theorem Rk.same {A C : List V} {r s : Nat} (h : Rk A r) (g : Rk C s) (h1 : ∀ a, a ∈ A → Sp C a) (h2 : ∀ c, c ∈ C → Sp A c) : r = s := Nat.le_antisymm (h.le g h1) (g.le h h2)
/-- vectors, each with a place where it is 1 and all behind are nought -/
def Tri : List (V × Nat) → Prop
  | [] => True
  | (v, l) :: K => v l = 1 ∧ (∀ p, p ∈ K → p.1 l = 0) ∧ Tri K
theorem Tri.comb_zero : ∀ {K : List (V × Nat)} {c : List UInt8}, Tri K → c.length = K.length → (∀ p, p ∈ K → comb c (K.map (·.1)) p.2 = 0) → ∀ x, x ∈ c → x = 0
  | [], [], _, _, _ => by simp
  | (v, l) :: K, c :: cs, h, hc, hz => by
    obtain ⟨h1, h2, h3⟩ := h
    have hK : ∀ a, a ∈ K.map (·.1) → a l = 0 := fun a ha => by obtain ⟨p, hp, rfl⟩ := List.mem_map.1 ha; exact h2 p hp
    have c0 : c = 0 := by
      have := hz (v, l) (by simp)
      simp only [List.map_cons, comb_cons] at this
      rw [comb_at_zero l cs _ hK, h1, gmul_one, xor_zero] at this
      exact this
    subst c0
    have ih := Tri.comb_zero (c := cs) h3 (by simpa using hc) (fun p hp => by
      have := hz p (by simp [hp])
      simpa only [List.map_cons, comb_cons, zero_gmul, zero_xor] using this)
    intro x hx
    rcases List.mem_cons.1 hx with rfl | hx
    · rfl
    · exact ih x hx
theorem Tri.ind {K : List (V × Nat)} (h : Tri K) : Ind (K.map (·.1)) := fun c hc hz => h.comb_zero (by simpa using hc) (fun _ _ => hz _)
/-- in the span and nought at the places: nought -/
theorem Tri.span_zero {K : List (V × Nat)} {v : V} (h : Tri K) (hs : Sp (K.map (·.1)) v) (hz : ∀ p, p ∈ K → v p.2 = 0) : ∀ j, v j = 0 := by
  obtain ⟨c, hc, rfl⟩ := hs
  have := h.comb_zero (by simpa using hc) hz
  have e : c = List.replicate c.length 0 := List.eq_replicate_of_mem this
  intro j
  rw [e]; exact comb_zeros j _ _
/-- what is left of a vector behind others -/
def red (K : List (V × Nat)) (x : V) : V := K.foldl (fun x p j => x j ^^^ gmul (x p.2) (p.1 j)) x
theorem red_cons (p : V × Nat) (K : List (V × Nat)) (x : V) : red (p :: K) x = red K (fun j => x j ^^^ gmul (x p.2) (p.1 j)) := rfl
/-- what is left differs by a combination -/
theorem red_span : ∀ (K : List (V × Nat)) (x : V), Sp (K.map (·.1)) (fun j => x j ^^^ red K x j)
  | [], x => by have : (fun j => x j ^^^ red [] x j) = fun _ => 0 := by funext j; exact xor_self _
                rw [this]; exact Sp.zero _
  | p :: K, x => by
    have h1 := (red_span K (fun j => x j ^^^ gmul (x p.2) (p.1 j))).cons p.1
    have h2 : Sp (p.1 :: K.map (·.1)) (fun j => gmul (x p.2) (p.1 j)) := Sp.scale _ (Sp.mem (by simp))
    have := Sp.add h1 h2
    rw [List.map_cons]
    have e : (fun j => x j ^^^ red (p :: K) x j) = fun j => ((x j ^^^ gmul (x p.2) (p.1 j)) ^^^ red K (fun j => x j ^^^ gmul (x p.2) (p.1 j)) j) ^^^ gmul (x p.2) (p.1 j) := by
      funext j
      rw [red_cons, xor_assoc (x j), xor_comm (gmul _ _) (red _ _ _), ← xor_assoc (x j), xor_cancel]
    rw [e]; exact this
theorem red_keeps_zero {l : Nat} : ∀ {K : List (V × Nat)} {x : V}, (∀ p, p ∈ K → p.1 l = 0) → x l = 0 → red K x l = 0
  | [], x, _, h => h
  | p :: K, x, hK, h => by
    rw [red_cons]
    exact red_keeps_zero (fun q hq => hK q (by simp [hq])) (by rw [h, hK p (by simp), gmul_zero, xor_self])
theorem red_at : ∀ {K : List (V × Nat)} {x : V}, Tri K → ∀ p, p ∈ K → red K x p.2 = 0
  | (v, l) :: K, x, ⟨h1, h2, h3⟩, p, hp => by
    rw [red_cons]
    rcases List.mem_cons.1 hp with rfl | hp
    · exact red_keeps_zero h2 (by simp only [h1, gmul_one, xor_self])
    · exact red_at h3 p hp
/-- in the span just where nothing is left -/
theorem red_zero {K : List (V × Nat)} {x : V} (h : Tri K) : (∀ j, red K x j = 0) ↔ Sp (K.map (·.1)) x := by
  constructor
  · intro hz
    have := red_span K x
    have e : (fun j => x j ^^^ red K x j) = x := by funext j; rw [hz j, xor_zero]
    rwa [e] at this
  · intro hs
    have h1 := Sp.add hs (red_span K x)
    have e : (fun j => x j ^^^ (x j ^^^ red K x j)) = red K x := by funext j; rw [← xor_assoc, xor_self, zero_xor]
    rw [e] at h1
    exact h.span_zero h1 (red_at h)
theorem Tri.snoc : ∀ {K : List (V × Nat)} {y : V} {l : Nat}, Tri K → (∀ p, p ∈ K → y p.2 = 0) → y l = 1 → Tri (K ++ [(y, l)])
  | [], y, l, _, _, h1 => ⟨h1, by simp, trivial⟩
  | (v, l0) :: K, y, l, ⟨h1, h2, h3⟩, hz, hy => by
    refine ⟨h1, ?_, h3.snoc (fun p hp => hz p (by simp [hp])) hy⟩
    intro p hp
    rcases List.mem_append.1 hp with h | h
    · exact h2 p h
    · simp at h; subst h; exact hz (v, l0) (by simp)
theorem Tri.append : ∀ {K L : List (V × Nat)}, Tri K → Tri L → (∀ p, p ∈ K → ∀ q, q ∈ L → q.1 p.2 = 0) → Tri (K ++ L)
  | [], L, _, h, _ => h
  | (v, l0) :: K, L, ⟨h1, h2, h3⟩, hL, hz => by
    refine ⟨h1, ?_, h3.append hL (fun p hp => hz p (by simp [hp]))⟩
    intro p hp
    rcases List.mem_append.1 hp with h | h
    · exact h2 p h
    · exact hz (v, l0) (by simp) p h
theorem Tri.left : ∀ {K L : List (V × Nat)}, Tri (K ++ L) → Tri K
  | [], L, _ => trivial
  | (v, l0) :: K, L, ⟨h1, h2, h3⟩ => ⟨h1, fun p hp => h2 p (by simp [hp]), h3.left⟩
theorem Tri.right : ∀ {K L : List (V × Nat)}, Tri (K ++ L) → Tri L
  | [], L, h => h
  | (v, l0) :: K, L, ⟨_, _, h3⟩ => h3.right
end Gf
namespace Gf
def unit (i : Nat) : V := fun j => if i = j then 1 else 0
def units (n : Nat) : List V := (List.range n).map unit
/-- nought from place n on -/
def Wide (n : Nat) (v : V) : Prop := ∀ j, n ≤ j → v j = 0
theorem lin_zero {L : V → V} (hs : ∀ x u, L (fun j => gmul x (u j)) = fun j => gmul x (L u j)) : L (fun _ => 0) = fun _ => 0 := by
  have := hs 0 (fun _ => 0)
  simp only [zero_gmul] at this
  exact this
theorem coords_at (v : V) : ∀ (n j : Nat), comb ((List.range n).map v) (units n) j = if j < n then v j else 0
  | 0, j => by simp [units, comb_nil]
  | n + 1, j => by
    unfold units
    rw [List.range_succ, List.map_append, List.map_append, comb_append _ _ _ _ _ (by simp)]
    have := coords_at v n j
    unfold units at this
    rw [this]
    simp only [List.map_cons, List.map_nil, comb_cons, comb_nil, unit, xor_zero]
    by_cases h1 : j < n
    · rw [if_pos h1, if_neg (by omega), if_pos (by omega), gmul_zero, xor_zero]
    · by_cases h2 : n = j
      · subst h2; rw [if_neg h1, if_pos rfl, if_pos (by omega), gmul_one, zero_xor]
      · rw [if_neg h1, if_neg h2, if_neg (by omega), gmul_zero, xor_self]
theorem coords {n : Nat} {v : V} (h : Wide n v) : comb ((List.range n).map v) (units n) = v := by
  funext j
  rw [coords_at]
  split
  · rfl
  · exact (h j (by omega)).symm
theorem Wide.sp {n : Nat} {v : V} (h : Wide n v) : Sp (units n) v := ⟨(List.range n).map v, by simp [units], (coords h).symm⟩
/-- a row times rows -/
def mulV (n : Nat) (B : List V) (a : V) : V := comb ((List.range n).map a) B
theorem mulV_add (n : Nat) (B : List V) (u v : V) : mulV n B (fun j => u j ^^^ v j) = fun j => mulV n B u j ^^^ mulV n B v j := by
  funext j
  unfold mulV
  rw [← comb_add j _ _ _ (by simp)]
  congr 1
  apply List.ext_getElem?
  intro k
  simp only [List.getElem?_map, List.getElem?_zipWith]
  cases (List.range n)[k]? <;> rfl
theorem mulV_scale (n : Nat) (B : List V) (x : UInt8) (u : V) : mulV n B (fun j => gmul x (u j)) = fun j => gmul x (mulV n B u j) := by
  funext j
  unfold mulV
  rw [← comb_scale, List.map_map]; rfl
theorem comb_single (j : Nat) : ∀ (B : List V) (i k n : Nat) (b : V), B.length = n → B[i]? = some b → comb ((List.range n).map (fun m => unit (i + k) (m + k))) B j = b j
  | [], i, k, n, b, _, h => by simp at h
  | b0 :: B, 0, k, n, b, hn, h => by
    obtain rfl : b0 = b := by simpa using h
    cases n with
    | zero => simp at hn
    | succ n =>
      rw [List.range_succ_eq_map]
      simp only [List.map_cons, List.map_map, comb_cons]
      have e : ((List.range n).map ((fun m => unit (0 + k) (m + k)) ∘ Nat.succ)) = List.replicate n 0 := by
        rw [List.eq_replicate_iff]
        refine ⟨by simp, ?_⟩
        intro x hx
        simp only [List.mem_map, Function.comp] at hx
        obtain ⟨m, _, rfl⟩ := hx
        simp [unit]
      rw [e, comb_zeros]
      simp [unit, one_gmul, xor_zero]
  | b0 :: B, i + 1, k, n, b, hn, h => by
    cases n with
    | zero => simp at hn
    | succ n =>
      rw [List.range_succ_eq_map]
      simp only [List.map_cons, List.map_map, comb_cons]
      have ih := comb_single j B i (k + 1) n b (by simpa using hn) (by simpa using h)
      have e : ((fun m => unit (i + 1 + k) (m + k)) ∘ Nat.succ) = fun m => unit (i + (k + 1)) (m + (k + 1)) := by
        funext m; simp only [Function.comp]; congr 1 <;> omega
      rw [e, ih]
      have e0 : unit (i + 1 + k) (0 + k) = 0 := by simp [unit]
      rw [e0, zero_gmul, zero_xor]
theorem mulV_unit {n i : Nat} {B : List V} {b : V} (hn : B.length = n) (h : B[i]? = some b) : mulV n B (unit i) = b := by
  funext j
  exact comb_single j B i 0 n b hn h
theorem Ind.cons {A : List V} {v : V} (h : Ind A) (hv : ¬ Sp A v) : Ind (v :: A) := by
  intro c hc hz
  cases c with
  | nil => simp
  | cons x cs =>
    have hx : x = 0 := by
      apply Classical.byContradiction
      intro hx
      apply hv
      have : v = fun j => gmul (ginv x) (comb cs A j) := by
        funext j
        have := hz j
        rw [comb_cons] at this
        have e := xor_eq_zero this
        rw [← e, ← gmul_assoc, ginv_gmul x hx, one_gmul]
      rw [this]
      exact Sp.scale _ ⟨cs, by simpa using hc, rfl⟩
    subst hx
    have := h cs (by simpa using hc) (fun j => by have := hz j; rwa [comb_cons, zero_gmul, zero_xor] at this)
    intro y hy
    rcases List.mem_cons.1 hy with rfl | hy
    · rfl
    · exact this y hy
/-- vectors of full rank are independent -/
theorem Rk.ind {A : List V} {r : Nat} (h : Rk A r) (hr : A.length = r) : Ind A := by
  obtain ⟨B, b1, rfl, b3, b4⟩ := h
  apply Classical.byContradiction
  intro hn
  have hex : ∃ c : List UInt8, c.length = A.length ∧ (∀ j, comb c A j = 0) ∧ ∃ x, x ∈ c ∧ x ≠ 0 := by
    apply Classical.byContradiction
    intro hne
    apply hn
    intro c hc hz x hx
    apply Classical.byContradiction
    intro hx0
    exact hne ⟨c, hc, hz, x, hx, hx0⟩
  obtain ⟨c, hc, hz, x, hx, hx0⟩ := hex
  obtain ⟨c1, c2, rfl⟩ := List.append_of_mem hx
  have hl : c1.length < A.length := by rw [← hc]; simp
  have hA : A = A.take c1.length ++ A[c1.length] :: A.drop (c1.length + 1) := by
    rw [← List.drop_eq_getElem_cons hl, List.take_append_drop]
  obtain ⟨a, ha⟩ : ∃ a, a = A[c1.length] := ⟨_, rfl⟩
  rw [← ha] at hA
  obtain ⟨A1, hA1⟩ : ∃ A1, A1 = A.take c1.length := ⟨_, rfl⟩
  obtain ⟨A2, hA2⟩ : ∃ A2, A2 = A.drop (c1.length + 1) := ⟨_, rfl⟩
  have l1 : c1.length = A1.length := by rw [hA1, List.length_take]; omega
  have l2 : c2.length = A2.length := by rw [hA2, List.length_drop]; simp at hc; omega
  rw [← hA1, ← hA2] at hA
  have e : a = fun j => gmul (ginv x) (comb c1 A1 j ^^^ comb c2 A2 j) := by
    funext j
    have := hz j
    rw [hA, comb_append _ _ _ _ _ l1, comb_cons] at this
    have e2 : gmul x (a j) = comb c1 A1 j ^^^ comb c2 A2 j := by
      apply xor_eq_zero
      rw [← this, xor_left_comm, ← xor_assoc]
    rw [← e2, ← gmul_assoc, ginv_gmul x hx0, one_gmul]
  have hs : Sp (A1 ++ A2) a := by
    rw [e]
    refine Sp.scale _ ⟨c1 ++ c2, by simp [l1, l2], ?_⟩
    funext j
    rw [comb_append _ _ _ _ _ l1]
  have := exchange (A1 ++ A2) B b1 (fun b hb => by
    refine Sp.trans ?_ (b3 b hb)
    intro y hy
    rw [hA] at hy
    rcases List.mem_append.1 hy with h | h
    · exact Sp.mem (by simp [h])
    · rcases List.mem_cons.1 h with rfl | h
      · exact hs
      · exact Sp.mem (by simp [h]))
  have hl2 := congrArg List.length hA
  rw [List.length_append, List.length_cons] at hl2
  rw [List.length_append] at this
  omega
end Gf
namespace Go.Proofs.YtfbmdlfkipipfaaGreatDoor
open Go.By Gf
abbrev Rw := List UInt8 × List UInt8
def vf (xs : List UInt8) : V := fun j => xs.getD j 0
def cat (r : Rw) : List UInt8 := r.1 ++ r.2
def Fit (n t : Nat) (r : Rw) : Prop := r.1.length = n ∧ r.2.length = t
def lessF (x : Rw) (c : UInt8) (o : Rw) : Rw := (axpy c o.1 x.1, axpy c o.2 x.2)
def restF (K : List Rw) (x : Rw) : Rw := K.foldl (fun x k => lessF x (atS x.1 (leadS k.1)) k) x
theorem vf_axpy {c : UInt8} {xs ys : List UInt8} (h : xs.length = ys.length) : vf (axpy c xs ys) = fun j => vf ys j ^^^ gmul c (vf xs j) := by
  funext j
  unfold vf axpy
  simp only [List.getD_eq_getElem?_getD, List.getElem?_zipWith]
  by_cases hj : j < xs.length
  · rw [List.getElem?_eq_getElem hj, List.getElem?_eq_getElem (by omega : j < ys.length)]; rfl
  · rw [List.getElem?_eq_none (by omega), List.getElem?_eq_none (by omega)]; simp [gmul_zero, xor_zero]
theorem vf_scale (c : UInt8) (xs : List UInt8) : vf (xs.map (gmul c)) = fun j => gmul c (vf xs j) := by
  funext j
  unfold vf
  simp only [List.getD_eq_getElem?_getD, List.getElem?_map]
  cases xs[j]? <;> simp [gmul_zero]
theorem vf_wide (xs : List UInt8) : Wide xs.length (vf xs) := fun j hj => by unfold vf; rw [List.getD_eq_getElem?_getD, List.getElem?_eq_none hj]; rfl
theorem vf_inj {xs ys : List UInt8} (h : xs.length = ys.length) (e : ∀ j, j < xs.length → vf xs j = vf ys j) : xs = ys := by
  apply List.ext_getElem h
  intro i h1 h2
  have := e i h1
  simpa [vf, List.getD_eq_getElem?_getD, h1, h2] using this
theorem vf_app_left {xs ys : List UInt8} {j : Nat} (h : j < xs.length) : vf (xs ++ ys) j = vf xs j := by
  unfold vf; rw [List.getD_eq_getElem?_getD, List.getElem?_append_left h, List.getD_eq_getElem?_getD]
theorem axpy_append (c : UInt8) : ∀ (xs ys us vs : List UInt8), xs.length = us.length → axpy c (xs ++ ys) (us ++ vs) = axpy c xs us ++ axpy c ys vs := by
  intro xs ys us vs h
  unfold axpy
  exact List.zipWith_append h
theorem cat_less {n t : Nat} {x o : Rw} (c : UInt8) (hx : Fit n t x) (ho : Fit n t o) : cat (lessF x c o) = axpy c (cat o) (cat x) := by
  unfold cat lessF
  rw [axpy_append]
  rw [ho.1, hx.1]
theorem Fit.less {n t : Nat} {x o : Rw} {c : UInt8} (hx : Fit n t x) (ho : Fit n t o) : Fit n t (lessF x c o) := by
  unfold Fit lessF
  exact ⟨by rw [axpy_length _ _ _ (by rw [ho.1, hx.1])]; exact hx.1, by rw [axpy_length _ _ _ (by rw [ho.2, hx.2])]; exact hx.2⟩
theorem Fit.rest {n t : Nat} : ∀ {K : List Rw} {x : Rw}, (∀ k, k ∈ K → Fit n t k) → Fit n t x → Fit n t (restF K x)
  | [], x, _, hx => hx
  | k :: K, x, hK, hx => Fit.rest (K := K) (fun a ha => hK a (by simp [ha])) (hx.less (hK k (by simp)))
theorem Fit.cat {n t : Nat} {x : Rw} (h : Fit n t x) : (cat x).length = n + t := by unfold Go.Proofs.YtfbmdlfkipipfaaGreatDoor.cat; rw [List.length_append, h.1, h.2]
/-- a row that leads with a 1 at a place -/
def LeadAt (r : Rw) (l : Nat) : Prop := leadS r.1 = (l : Int) ∧ r.1[l]? = some 1 ∧ ∀ (j : Nat) (y : UInt8), j < l → r.1[j]? = some y → y = 0
def Led (r : Rw) : Prop := ∃ l, LeadAt r l
def leadN (r : Rw) : Nat := (leadS r.1).toNat
theorem Led.at {r : Rw} (h : Led r) : LeadAt r (leadN r) := by
  obtain ⟨l, hl⟩ := h
  have : leadN r = l := by unfold leadN; rw [hl.1]; rfl
  rw [this]; exact hl
theorem LeadAt.lt {r : Rw} {l n t : Nat} (h : LeadAt r l) (hf : Fit n t r) : l < n := by
  have := (List.getElem?_eq_some_iff.1 h.2.1).1; rw [hf.1] at this; exact this
def tri (K : List Rw) : List (V × Nat) := K.map fun k => (vf (cat k), leadN k)
theorem tri_fst (K : List Rw) : (tri K).map (·.1) = K.map fun k => vf (cat k) := by simp [tri, List.map_map, Function.comp_def]
theorem tri_mem {K : List Rw} {p : V × Nat} (h : p ∈ tri K) : ∃ k, k ∈ K ∧ p = (vf (cat k), leadN k) := by
  simp only [tri, List.mem_map] at h
  obtain ⟨k, hk, rfl⟩ := h; exact ⟨k, hk, rfl⟩
theorem vf_at {n t l : Nat} {x : Rw} (hx : Fit n t x) (hl : l < n) : vf (cat x) l = atS x.1 (l : Int) := by
  unfold cat
  rw [vf_app_left (by rw [hx.1]; exact hl)]
  simp [vf, atS]
theorem rest_red {n t : Nat} : ∀ {K : List Rw} {x : Rw}, (∀ k, k ∈ K → Fit n t k ∧ Led k) → Fit n t x → vf (cat (restF K x)) = red (tri K) (vf (cat x))
  | [], x, _, _ => rfl
  | k :: K, x, hK, hx => by
    obtain ⟨hf, hl⟩ := hK k (by simp)
    have hL := hl.at
    have e : (restF (k :: K) x) = restF K (lessF x (atS x.1 (leadS k.1)) k) := rfl
    rw [e, rest_red (K := K) (fun a ha => hK a (by simp [ha])) (hx.less hf), cat_less _ hx hf, vf_axpy (by rw [hf.cat, hx.cat])]
    have e2 : atS x.1 (leadS k.1) = vf (cat x) (leadN k) := by rw [vf_at hx (hL.lt hf), hL.1]
    rw [e2]; rfl
theorem axpy_zero_of {c : UInt8} (h : c = 0) {xs ys : List UInt8} (hl : xs.length = ys.length) : axpy c xs ys = ys := by
  refine vf_inj (by rw [axpy_length _ _ _ hl]) (fun j _ => ?_)
  rw [vf_axpy hl]
  show vf ys j ^^^ gmul c _ = _
  rw [h, zero_gmul, xor_zero]
theorem leadS_neg {v : List UInt8} (h : leadS v < 0) : ∀ x, x ∈ v → x = 0 := by
  rcases leadS_cases v with ⟨_, _, h3⟩ | ⟨k, x, e, _⟩
  · exact h3
  · omega
theorem vf_zero {v : List UInt8} (h : ∀ x, x ∈ v → x = 0) : ∀ j, vf v j = 0 := by
  intro j
  unfold vf
  rw [List.getD_eq_getElem?_getD]
  cases e : v[j]? with
  | none => rfl
  | some x => exact h x (List.mem_of_getElem? e)
/-- what a row that isn't nought becomes by norming -/
theorem norm_row {n t : Nat} {y : Rw} (hy : Fit n t y) (h : ¬ leadS y.1 < 0) : ∃ (l : Nat) (c : UInt8), c ≠ 0 ∧ leadS y.1 = (l : Int) ∧ LeadAt (normS y) l ∧ Fit n t (normS y) ∧ vf (cat (normS y)) = fun j => gmul c (vf (cat y) j) := by
  obtain ⟨v, d⟩ := y
  rcases norm_cases v d with ⟨h1, _⟩ | ⟨k, x, e, hx, hk, hj, g⟩
  · exact absurd (by rw [h1]; decide) h
  · refine ⟨k, ginv x, ginv_ne x hx, e, ?_, ?_, ?_⟩
    · rw [g]
      refine ⟨by have := norm_lead v d; rw [g] at this; rw [this, e], by simp [List.getElem?_map, hk, ginv_gmul x hx], ?_⟩
      intro j y hjk hy'
      simp only [List.getElem?_map, Option.map_eq_some_iff] at hy'
      obtain ⟨z, hz, rfl⟩ := hy'
      rw [hj j z hjk hz, gmul_zero]
    · rw [g]; exact ⟨by simpa using hy.1, by simpa using hy.2⟩
    · rw [g]
      have : cat (v.map (gmul (ginv x)), d.map (gmul (ginv x))) = (cat (v, d)).map (gmul (ginv x)) := by simp [cat]
      rw [this, vf_scale]
/-- a row more, or not, as the grid's rank keeps them -/
def keepF (K : List Rw) (x : Rw) : List Rw := if leadS (restF K x).1 < 0 then K else K ++ [normS (restF K x)]
structure Kept (n t : Nat) (K : List Rw) : Prop where
  rows : ∀ k, k ∈ K → Fit n t k ∧ Led k
  tri : Tri (tri K)
theorem Kept.nil (n t : Nat) : Kept n t [] := ⟨by simp, trivial⟩
theorem tri_append (K L : List Rw) : tri (K ++ L) = tri K ++ tri L := by simp [tri]
theorem leadN_of {r : Rw} {l : Nat} (h : LeadAt r l) : leadN r = l := by unfold leadN; rw [h.1]; rfl
theorem vf_lead {n t l : Nat} {r : Rw} (h : LeadAt r l) (hf : Fit n t r) : vf (cat r) l = 1 := by
  rw [vf_at hf (h.lt hf), at_of h.2.1]
theorem Kept.step {n t : Nat} {K : List Rw} {x : Rw} (h : Kept n t K) (hx : Fit n t x) : Kept n t (keepF K x) := by
  unfold keepF
  split
  · exact h
  · rename_i hn
    have hr := hx.rest (fun k hk => (h.rows k hk).1)
    obtain ⟨l, c, hc, hl, hL, hF, hv⟩ := norm_row hr hn
    refine ⟨?_, ?_⟩
    · intro k hk
      rcases List.mem_append.1 hk with h' | h'
      · exact h.rows k h'
      · simp at h'; subst h'; exact ⟨hF, l, hL⟩
    · rw [tri_append]
      show Tri (Go.Proofs.YtfbmdlfkipipfaaGreatDoor.tri K ++ [(vf (cat (normS (restF K x))), leadN (normS (restF K x)))])
      refine h.tri.snoc ?_ ?_
      · intro p hp
        rw [hv]
        show gmul c (vf (cat (restF K x)) p.2) = 0
        rw [rest_red h.rows hx, red_at h.tri p hp, gmul_zero]
      · rw [leadN_of hL]; exact vf_lead hL hF
/-- as many as the rank says (rows without data) -/
theorem kept_span {n : Nat} : ∀ {K : List Rw} {x : Rw}, Kept n 0 K → Fit n 0 x → (∀ k, k ∈ keepF K x → Sp (vf (cat x) :: K.map fun k => vf (cat k)) (vf (cat k))) ∧ Sp ((keepF K x).map fun k => vf (cat k)) (vf (cat x)) ∧ (∀ k, k ∈ K → Sp ((keepF K x).map fun k => vf (cat k)) (vf (cat k))) := by
  intro K x h hx
  have hr := hx.rest (fun k hk => (h.rows k hk).1)
  have hred := rest_red h.rows hx
  have hspan := red_span (tri K) (vf (cat x))
  rw [tri_fst] at hspan
  unfold keepF
  split
  · rename_i hn
    have hz : ∀ j, red (tri K) (vf (cat x)) j = 0 := by
      intro j
      rw [← hred]
      have e : cat (restF K x) = (restF K x).1 := by unfold cat; rw [List.length_eq_zero_iff.1 hr.2, List.append_nil]
      rw [e]
      exact vf_zero (leadS_neg hn) j
    refine ⟨fun k hk => Sp.mem (List.mem_cons_of_mem _ (List.mem_map.2 ⟨k, hk, rfl⟩)), ?_, fun k hk => Sp.mem (List.mem_map.2 ⟨k, hk, rfl⟩)⟩
    have := (red_zero h.tri).1 hz
    rwa [tri_fst] at this
  · rename_i hn
    obtain ⟨l, c, hc, hl, hL, hF, hv⟩ := norm_row hr hn
    refine ⟨?_, ?_, fun k hk => Sp.mem (List.mem_map.2 ⟨k, by simp [hk], rfl⟩)⟩
    · intro k hk
      rcases List.mem_append.1 hk with h' | h'
      · exact Sp.mem (List.mem_cons_of_mem _ (List.mem_map.2 ⟨k, h', rfl⟩))
      · simp at h'; subst h'
        rw [hv, hred]
        refine Sp.scale c ?_
        have e : red (tri K) (vf (cat x)) = fun j => vf (cat x) j ^^^ (vf (cat x) j ^^^ red (tri K) (vf (cat x)) j) := by funext j; rw [← xor_assoc, xor_self, zero_xor]
        rw [e]
        exact Sp.add (Sp.mem (by simp)) (hspan.cons _)
    · have e : vf (cat x) = fun j => gmul (ginv c) (vf (cat (normS (restF K x))) j) ^^^ (vf (cat x) j ^^^ red (tri K) (vf (cat x)) j) := by
        funext j
        rw [hv, hred]
        show _ = gmul (ginv c) (gmul c _) ^^^ _
        rw [← gmul_assoc, ginv_gmul c hc, one_gmul, xor_comm (red _ _ _), xor_cancel]
      rw [e]
      refine Sp.add (Sp.scale _ (Sp.mem (by simp))) (Sp.sub (fun a ha => ?_) hspan)
      simp only [List.mem_map] at ha ⊢
      obtain ⟨k, hk, rfl⟩ := ha
      exact ⟨k, by simp [hk], rfl⟩
theorem fold_rank {n : Nat} (Inv : List Rw → Prop) (f : List Rw → Rw → List Rw) (h0 : Inv []) (hK : ∀ K, Inv K → Kept n 0 K) (hf : ∀ K x, Inv K → Fit n 0 x → Inv (f K x) ∧ (f K x).Perm (keepF K x)) (rows : List (List UInt8)) (hrows : ∀ r, r ∈ rows → r.length = n) :
    Rk (rows.map vf) (rows.foldl (fun K r => f K (r, [])) []).length := by
  have key : ∀ (todo : List (List UInt8)) (K : List Rw) (done : List V), (∀ r, r ∈ todo → r.length = n) → Inv K → (∀ k, k ∈ K → Sp done (vf (cat k))) → (∀ v, v ∈ done → Sp (K.map fun k => vf (cat k)) v) →
      Inv (todo.foldl (fun K r => f K (r, [])) K) ∧ (∀ k, k ∈ todo.foldl (fun K r => f K (r, [])) K → Sp (done ++ todo.map vf) (vf (cat k))) ∧ (∀ v, v ∈ done ++ todo.map vf → Sp ((todo.foldl (fun K r => f K (r, [])) K).map fun k => vf (cat k)) v) := by
    intro todo
    induction todo with
    | nil => intro K done _ h1 h2 h3; exact ⟨h1, fun k hk => by simpa using h2 k hk, fun v hv => h3 v (by simpa using hv)⟩
    | cons r todo ih =>
      intro K done hl h1 h2 h3
      have hx : Fit n 0 (r, []) := ⟨hl r (by simp), rfl⟩
      have ec : cat (r, []) = r := by simp [cat]
      obtain ⟨s1, s2, s3⟩ := kept_span (hK K h1) hx
      obtain ⟨i1, hp⟩ := hf K (r, []) h1 hx
      have hm : ∀ {v : V}, Sp ((keepF K (r, [])).map fun k => vf (cat k)) v → Sp ((f K (r, [])).map fun k => vf (cat k)) v := fun h => Sp.sub (fun a ha => by
        obtain ⟨k, hk, rfl⟩ := List.mem_map.1 ha
        exact List.mem_map.2 ⟨k, hp.mem_iff.2 hk, rfl⟩) h
      rw [ec] at s1 s2
      have := ih (f K (r, [])) (done ++ [vf r]) (fun a ha => hl a (by simp [ha])) i1 (fun k hk => by
        refine Sp.trans ?_ (s1 k (hp.mem_iff.1 hk))
        intro a ha
        rcases List.mem_cons.1 ha with rfl | ha
        · exact Sp.mem (by simp)
        · obtain ⟨k', hk', rfl⟩ := List.mem_map.1 ha
          exact Sp.sub (fun b hb => by simp [hb]) (h2 k' hk')) (fun v hv => by
        rcases List.mem_append.1 hv with hv | hv
        · refine Sp.trans ?_ (h3 v hv)
          intro a ha
          obtain ⟨k', hk', rfl⟩ := List.mem_map.1 ha
          exact hm (s3 k' hk')
        · simp at hv; subst hv; exact hm s2)
      simpa using this
  obtain ⟨k1, k2, k3⟩ := key rows [] [] hrows h0 (by simp) (by simp)
  simp only [List.nil_append] at k2 k3
  refine ⟨_, (hK _ k1).tri.ind, ?_, ?_, ?_⟩
  · rw [tri_fst, List.length_map]
  · intro b hb
    rw [tri_fst] at hb
    obtain ⟨k, hk, rfl⟩ := List.mem_map.1 hb
    exact k2 k hk
  · intro a ha
    rw [tri_fst]
    exact k3 a ha
/-- a row more, or not, as the document keeps them: by the places where they lead -/
def insF (K : List Rw) (x : Rw) : List Rw :=
  if leadS (normS (restF K x)).1 < 0 then K else K.takeWhile (fun r => decide (leadS r.1 < leadS (normS (restF K x)).1)) ++ normS (restF K x) :: K.dropWhile (fun r => decide (leadS r.1 < leadS (normS (restF K x)).1))
theorem norm_leadS (r : Rw) : leadS (normS r).1 = leadS r.1 := by obtain ⟨v, d⟩ := r; exact norm_lead v d
theorem ins_perm (K : List Rw) (x : Rw) : (insF K x).Perm (keepF K x) := by
  unfold insF keepF
  rw [norm_leadS]
  split
  · exact List.Perm.refl _
  · refine (List.perm_middle).trans ?_
    rw [List.takeWhile_append_dropWhile]
    exact (List.perm_append_singleton _ _).symm
structure KeptS (n t : Nat) (K : List Rw) : Prop where
  rows : ∀ k, k ∈ K → Fit n t k ∧ Led k
  sorted : K.Pairwise (fun a b => leadN a < leadN b)
theorem vf_before {n t l : Nat} {r : Rw} (hf : Fit n t r) (h : Led r) (hl : l < leadN r) : vf (cat r) l = 0 := by
  have hL := h.at
  have := hL.lt hf
  rw [vf_at hf (by omega)]
  have hz := hL.2.2 l
  simp only [atS, Int.toNat_natCast, Int.natCast_nonneg, if_true, List.getD_eq_getElem?_getD]
  cases e : r.1[l]? with
  | none => rfl
  | some y => exact hz y hl e
theorem tri_of_sorted {n t : Nat} : ∀ {K : List Rw}, (∀ k, k ∈ K → Fit n t k ∧ Led k) → K.Pairwise (fun a b => leadN a < leadN b) → Tri (tri K)
  | [], _, _ => trivial
  | k :: K, h1, h2 => by
    obtain ⟨g1, g2⟩ := List.pairwise_cons.1 h2
    obtain ⟨hf, hl⟩ := h1 k (by simp)
    refine ⟨vf_lead hl.at hf, ?_, tri_of_sorted (fun a ha => h1 a (by simp [ha])) g2⟩
    intro p hp
    obtain ⟨k', hk', rfl⟩ := tri_mem hp
    exact vf_before (h1 k' (by simp [hk'])).1 (h1 k' (by simp [hk'])).2 (g1 k' hk')
theorem KeptS.kept {n t : Nat} {K : List Rw} (h : KeptS n t K) : Kept n t K := ⟨h.rows, tri_of_sorted h.rows h.sorted⟩
theorem KeptS.nil (n t : Nat) : KeptS n t [] := ⟨by simp, List.Pairwise.nil⟩
theorem mem_take {α : Type} {p : α → Bool} : ∀ {l : List α} {a : α}, a ∈ l.takeWhile p → p a = true
  | b :: l, a, h => by
    rw [List.takeWhile_cons] at h
    split at h
    · rename_i hb
      rcases List.mem_cons.1 h with rfl | h
      · exact hb
      · exact mem_take h
    · simp at h
theorem drop_head {α : Type} {p : α → Bool} : ∀ {l : List α} {a : α} {r : List α}, l.dropWhile p = a :: r → p a = false
  | b :: l, a, r, h => by
    rw [List.dropWhile_cons] at h
    split at h
    · exact drop_head h
    · rename_i hb
      simp at h
      rw [← h.1]; simpa using hb
theorem KeptS.step {n t : Nat} {K : List Rw} {x : Rw} (h : KeptS n t K) (hx : Fit n t x) : KeptS n t (insF K x) := by
  have hkk := h.kept.step hx
  have hp := ins_perm K x
  refine ⟨fun k hk => hkk.rows k (hp.mem_iff.1 hk), ?_⟩
  unfold insF
  split
  · exact h.sorted
  · rename_i hn
    rw [norm_leadS] at hn
    have hr := hx.rest (fun k hk => (h.rows k hk).1)
    obtain ⟨l, c, hc, hl, hL, hF, hv⟩ := norm_row hr hn
    have hln := leadN_of hL
    rw [hL.1]
    have hne : ∀ k, k ∈ K → leadN k ≠ l := by
      intro k hk e
      have h1 : vf (cat (normS (restF K x))) l = 1 := vf_lead hL hF
      have h2 : vf (cat (normS (restF K x))) (leadN k) = 0 := by
        rw [hv]
        show gmul c (vf (cat (restF K x)) (leadN k)) = 0
        rw [rest_red h.rows hx, red_at h.kept.tri (vf (cat k), leadN k) (List.mem_map.2 ⟨k, hk, rfl⟩), gmul_zero]
      rw [e, h1] at h2
      exact absurd h2 (by decide)
    have hlead : ∀ k, k ∈ K → leadS k.1 = (leadN k : Int) := fun k hk => (h.rows k hk).2.at.1
    have hs : (K.takeWhile (fun r => decide (leadS r.1 < (l : Int))) ++ K.dropWhile (fun r => decide (leadS r.1 < (l : Int)))).Pairwise (fun a b => leadN a < leadN b) := by
      rw [List.takeWhile_append_dropWhile]; exact h.sorted
    have mT : ∀ k, k ∈ K.takeWhile (fun r => decide (leadS r.1 < (l : Int))) → k ∈ K ∧ leadN k < l := by
      intro k hk
      have h1 := (List.takeWhile_sublist _).mem hk
      refine ⟨h1, ?_⟩
      have := mem_take hk
      rw [decide_eq_true_eq, hlead k h1] at this
      omega
    have mD : ∀ k, k ∈ K.dropWhile (fun r => decide (leadS r.1 < (l : Int))) → l < leadN k := by
      obtain ⟨h1, h2, h3⟩ := List.pairwise_append.1 hs
      cases e : K.dropWhile (fun r => decide (leadS r.1 < (l : Int))) with
      | nil => intro k hk; simp at hk
      | cons a r =>
        have ha : a ∈ K := (List.dropWhile_sublist _).mem (by rw [e]; simp)
        have hd := drop_head e
        rw [decide_eq_false_iff_not, hlead a ha] at hd
        have hla : l < leadN a := by have := hne a ha; omega
        rw [e] at h2
        intro k hk
        rcases List.mem_cons.1 hk with rfl | hk
        · exact hla
        · exact Nat.lt_trans hla ((List.pairwise_cons.1 h2).1 k hk)
    obtain ⟨h1, h2, h3⟩ := List.pairwise_append.1 hs
    refine List.pairwise_append.2 ⟨h1, List.pairwise_cons.2 ⟨fun k hk => by rw [hln]; exact mD k hk, h2⟩, ?_⟩
    intro a ha b hb
    rcases List.mem_cons.1 hb with rfl | hb
    · rw [hln]; exact (mT a ha).2
    · exact h3 a ha b hb
theorem ins_rank {n : Nat} (rows : List (List UInt8)) (hrows : ∀ r, r ∈ rows → r.length = n) : Rk (rows.map vf) (rows.foldl (fun K r => insF K (r, [])) []).length :=
  fold_rank (KeptS n 0) insF (KeptS.nil n 0) (fun _ h => h.kept) (fun K x h hx => ⟨h.step hx, ins_perm K x⟩) rows hrows
end Go.Proofs.YtfbmdlfkipipfaaGreatDoor
namespace Go.By
open Go.RowKit
/-- the last operation (a store) waits for all others but one (an extract) -/
def lateB (ops : Array Oper) (m e : Nat) : Bool := decide (ops.size = m + 1) && decide (e < m) && match ops[m]? with
  | some o => o.guard.isNone && o.dst.isNone && (List.range m).all fun i => i == e || (preds o).contains i
  | none => false
theorem wpAny_one {P : Program} {ops : Array Oper} {Q : Exit → Act → World → Prop} {listed : Array Bool} {a : Act} {w : World} {e : Nat} {oe : Oper} (fuel : Nat) (he : ops[e]? = some oe) (hall : ∀ j, j < ops.size → j ≠ e → listed.getD j true = true) (hle : listed.getD e true = false) (hpe : ∀ k, k ∈ preds oe → listed.getD k false = true)
    (hu : unl ops.size listed ≤ fuel) (hg : oe.guard = none) (h : oe.wp P a w (fun a' w' => Q .normal a' w') Q) : wpAny P .any ops Q fuel listed a w := by
  have hes : e < ops.size := (Array.getElem?_eq_some_iff.1 he).1
  have hin : e ∈ Region.ready .any ops listed := mem_ready.2 ⟨hes, hle, oe, he, hpe⟩
  cases fuel with
  | zero =>
    exfalso
    have h0 : unl ops.size listed = 0 := by omega
    unfold unl at h0
    have := List.countP_eq_zero.1 h0 e (List.mem_range.2 hes)
    simp [hle] at this
  | succ n =>
    refine ⟨fun hr => by rw [hr] at hin; simp at hin, fun i hi => ?_⟩
    have hie : i = e := by
      apply Classical.byContradiction
      intro hne
      obtain ⟨h1, h2, _⟩ := mem_ready.1 hi
      rw [hall i h1 hne] at h2; cases h2
    subst hie
    unfold wpOp
    rw [he]
    show if Region.wanted oe (yielded ops a.tmps) = true then _ else _
    rw [if_pos (by simp [Region.wanted, hg])]
    have his : i < listed.size := by
      rcases Nat.lt_or_ge i listed.size with h | h
      · exact h
      · simp [Array.getD_eq_getD_getElem?, Array.getElem?_eq_none h] at hle
    refine .inl (Oper.wp_mono (fun a' w' hq => wpAny_done _ (fun j hj => ?_) hq) h)
    simp only [Array.getD_eq_getD_getElem?, Array.getElem?_setIfInBounds]
    by_cases e2 : i = j
    · subst e2; simp [his]
    · rw [if_neg e2]
      have := hall j hj (fun h => e2 h.symm)
      simpa [Array.getD_eq_getD_getElem?] using this
theorem wp_region_late {P : Program} {ops : Array Oper} {Q : Exit → Act → World → Prop} {id : Nat} {a0 : Act} {w0 : World} (sh : Nat → Shp) (n m e t d : Nat) (hn : a0.tmps.size = n) (hm : P.follows .mixedOrders = true) (hback : backB ops = true) (hdist : distB ops = true)
    (hlast : lateB ops m e = true) (oe : Oper) (hoe : ops[e]? = some oe) (hge : oe.guard = none) (hde : oe.dst = some d) (hdn : d < n)
    (hrun : ∀ (a : Act) (u x : Value) (w : World), sl a t = .tuple #[u, x] → ∃ v, (execOp a.eval oe).run P w = .ok (.value v) w) (hdsts : dstsB (ops.extract 0 m) n = true)
    (each : EachS P ops Q a0 w0.drew sh (ops.toList.take m) 0)
    (fin : ∀ a w o, ops[m]? = some o → Below w0.heap.size w0 w → a.tmps.size = a0.tmps.size → a.defers = a0.defers → (∀ j, j < m → j ≠ e → InvS ops sh j (sl a) w) → (∀ t, (ops.toList.all fun o => o.dst != some t) = true → sl a t = sl a0 t) →
      (∃ u x, sl a t = .tuple #[u, x]) ∧ o.wp P a w (fun a' w' => a' = a ∧ ∀ b : Act, b.tmps.size = a0.tmps.size → b.defers = a0.defers → (∀ t', t' ≠ d → sl b t' = sl a t') → Q .normal b w') Q) :
    (Code.region id ops true).wp P Q a0 w0 := by
  unfold lateB at hlast
  rw [Bool.and_eq_true, Bool.and_eq_true] at hlast
  have hsz : ops.size = m + 1 := of_decide_eq_true hlast.1.1
  have hem : e < m := of_decide_eq_true hlast.1.2
  have hm' : m < ops.size := by omega
  obtain ⟨ol, hol⟩ : ∃ ol, ops[m]? = some ol := ⟨_, Array.getElem?_eq_getElem hm'⟩
  have hl2 := hlast.2
  rw [hol] at hl2
  simp only [Bool.and_eq_true] at hl2
  have hguard : ol.guard = none := by cases hg : ol.guard <;> simp [hg] at hl2 ⊢
  have hdst : ol.dst = none := by cases hg : ol.dst <;> simp [hg] at hl2 ⊢
  have hpl : ∀ i, i < m → i ≠ e → i ∈ preds ol := fun i hi hne => by
    have := List.all_eq_true.1 hl2.2 i (List.mem_range.2 hi)
    simpa [hne] using this
  have hE := each_of (Q := Q) (P := P) (a0 := a0) (W0 := w0.drew) (sh := sh) hn (ops.toList.take m) 0 (fun j o hj => by
      rw [List.getElem?_take] at hj; split at hj
      · simpa using hj
      · cases hj) (by
      unfold dstsB at hdsts
      have e : (ops.extract 0 m).toList = ops.toList.take m := by simp
      rw [e] at hdsts; exact hdsts) each
  have stepAt : ∀ i o, i < m → ops[i]? = some o → StepOf P ops Q a0 w0.drew (fun W w => Below W.heap.size W w) (fun _ w w' => Below w.heap.size w w') (InvS ops sh) i o := fun i o hi ho => by
    have := Each.get _ 0 hE i o (by rw [List.getElem?_take, if_pos hi]; simpa using ho)
    rwa [Nat.zero_add] at this
  have stable : ∀ i j oi oj (σ σ' : Nat → Value) w w', i ≠ j → ops[i]? = some oi → ops[j]? = some oj → InvS ops sh j σ w → Below w.heap.size w w' → (∀ t, oi.dst ≠ some t → σ' t = σ t) → InvS ops sh j σ' w' := by
    intro i j oi oj σ σ' w w' hij hoi hoj hI hR hσ
    unfold InvS at hI ⊢
    cases hdj : dstOf ops j with
    | none => trivial
    | some d =>
      rw [hdj] at hI
      show (sh j).ok (σ' d) w'
      have hne : oi.dst ≠ some d := by
        intro e
        have hi' : i < ops.size := (Array.getElem?_eq_some_iff.1 hoi).1
        have hj' : j < ops.size := (Array.getElem?_eq_some_iff.1 hoj).1
        have := List.all_eq_true.1 (List.all_eq_true.1 hdist i (List.mem_range.2 hi')) j (List.mem_range.2 hj')
        rw [hoi, hoj] at this
        have hdj' : oj.dst = some d := by simpa [dstOf, hoj] using hdj
        simp [e, hdj', hij] at this
      rw [hσ d hne]
      exact (sh j).keep _ _ _ hI hR
  refine wp_region_any hm ?_
  show wpAny P .any ops Q ops.size (Array.replicate ops.size false) a0 w0.drew
  have main : ∀ (fuel : Nat) (listed : Array Bool) (a : Act) (w : World), unl ops.size listed ≤ fuel → listed.getD m true = false → Below w0.heap.size w0 w → a.tmps.size = a0.tmps.size → a.defers = a0.defers →
      (∀ j o, listed.getD j false = true → ops[j]? = some o → ∀ k, k ∈ preds o → listed.getD k false = true) →
      (∀ j, j < ops.size → listed.getD j true = true → listed.getD j false = true) →
      (∀ j, j < m → listed.getD j false = true → InvS ops sh j (sl a) w) →
      (∀ t, (∀ j o, j < m → listed.getD j false = true → ops[j]? = some o → o.dst ≠ some t) → sl a t = sl a0 t) → wpAny P .any ops Q fuel listed a w := by
    intro fuel
    induction fuel with
    | zero =>
      intro listed a w hu hlm
      exfalso
      have h0 : unl ops.size listed = 0 := by omega
      unfold unl at h0
      have := List.countP_eq_zero.1 h0 m (List.mem_range.2 hm')
      simp [hlm] at this
    | succ fuel ih =>
      intro listed a w hu hlm hEw hs hd hcl hlt hI ht
      refine ⟨fun hr => ?_, fun i hi => ?_⟩
      · exfalso
        have hall : ∀ k j, j < k → j < ops.size → listed.getD j false = true := by
          intro k
          induction k with
          | zero => intro j hj; omega
          | succ k ihk =>
            intro j hj hjs
            refine hlt j hjs ?_
            cases hb : listed.getD j true with
            | true => rfl
            | false =>
              exfalso
              have ho : ops[j]? = some ops[j] := Array.getElem?_eq_getElem hjs
              have : j ∈ Region.ready .any ops listed := mem_ready.2 ⟨hjs, hb, _, ho, fun q hq => by
                have hbk := List.all_eq_true.1 hback j (List.mem_range.2 hjs)
                rw [ho] at hbk
                have hkj := of_decide_eq_true (List.all_eq_true.1 hbk q hq)
                exact ihk q (by omega) (by omega)⟩
              rw [hr] at this; cases this
        have hx := hall (m + 1) m (by omega) hm'
        rcases Nat.lt_or_ge m listed.size with h | h
        · simp [Array.getD_eq_getD_getElem?, h] at hlm hx; rw [hlm] at hx; cases hx
        · simp [Array.getD_eq_getD_getElem?, Array.getElem?_eq_none h] at hx
      · obtain ⟨h1, h2, o, ho, h3⟩ := mem_ready.1 hi
        have hnl : listed.getD i false ≠ true := by
          intro hx
          rcases Nat.lt_or_ge i listed.size with h | h
          · simp [Array.getD_eq_getD_getElem?, h] at h2 hx; rw [h2] at hx; cases hx
          · simp [Array.getD_eq_getD_getElem?, Array.getElem?_eq_none h] at hx
        have his : i < listed.size := by
          rcases Nat.lt_or_ge i listed.size with h | h
          · exact h
          · simp [Array.getD_eq_getD_getElem?, Array.getElem?_eq_none h] at h2
        have gset : ∀ j (d : Bool), (listed.setIfInBounds i true).getD j d = if i = j then true else listed.getD j d := by
          intro j d
          simp only [Array.getD_eq_getD_getElem?, Array.getElem?_setIfInBounds]
          by_cases e : i = j
          · subst e; simp [his]
          · simp [e]
        by_cases him : i = m
        · subst him
          rw [hol] at ho; cases ho
          obtain ⟨⟨u, x, htu⟩, hf⟩ := fin a w ol hol hEw hs hd (fun j hj hje => hI j hj (h3 j (hpl j hj hje))) (fun t htt => ht t (fun j oj hj _ hoj => by
            have := List.all_eq_true.1 htt oj (by rw [Array.mem_toList_iff]; exact Array.mem_of_getElem? hoj)
            simpa using this))
          unfold wpOp
          rw [hol]
          show if Region.wanted ol (yielded ops a.tmps) = true then _ else _
          rw [if_pos (by simp [Region.wanted, hguard])]
          have toT : ∀ j, listed.getD j false = true → listed.getD j true = true := fun j hjl => by
            rcases Nat.lt_or_ge j listed.size with h | h
            · simp [Array.getD_eq_getD_getElem?, h] at hjl ⊢; exact hjl
            · simp [Array.getD_eq_getD_getElem?, Array.getElem?_eq_none h] at hjl
          refine .inl (Oper.wp_mono (fun a' w' hq => ?_) hf)
          obtain ⟨rfl, hq⟩ := hq
          cases hle : listed.getD e true with
          | true =>
            refine wpAny_done _ (fun j hj => ?_) (hq a' hs hd (fun _ _ => rfl))
            rw [gset]
            by_cases e2 : i = j
            · rw [if_pos e2]
            · rw [if_neg e2]
              by_cases e3 : j = e
              · subst e3; exact hle
              · exact toT j (h3 j (hpl j (by omega) e3))
          | false =>
            obtain ⟨v, hv⟩ := hrun a' u x w' htu
            refine wpAny_one _ hoe (fun j hj hje => ?_) (by rw [gset, if_neg (by omega)]; exact hle) (fun k hk => ?_) (by have := unl_set (n := ops.size) h1 h2; omega) hge ?_
            · rw [gset]
              by_cases e2 : i = j
              · rw [if_pos e2]
              · rw [if_neg e2]; exact toT j (h3 j (hpl j (by omega) hje))
            · have hbk := List.all_eq_true.1 hback e (List.mem_range.2 (by omega))
              rw [hoe] at hbk
              have hke := of_decide_eq_true (List.all_eq_true.1 hbk k hk)
              rw [gset, if_neg (by omega)]
              exact h3 k (hpl k (by omega) (by omega))
            · refine wp_val v hv ?_
              refine hq _ ((put_size _ _ _).trans hs) ((put_defers _ _ _).trans hd) (fun t' ht' => ?_)
              rw [hde, put_sl _ _ _ _ (fun h => ht' (by injection h with h; exact h.symm))]
        · have him' : i < m := by omega
          have hst := stepAt i o him' ho
          have hst' := hst a w ⟨hEw.os, hEw.tape, hEw.output, hEw.size, hEw.block⟩ hs (fun k hk => hI k (by
              have hbk := List.all_eq_true.1 hback i (List.mem_range.2 h1)
              rw [ho] at hbk
              have := of_decide_eq_true (List.all_eq_true.1 hbk k hk); omega) (h3 k hk)) (fun t hti => by
            refine ht t (fun j oj hj hlj hoj hdj => ?_)
            have := List.all_eq_true.1 hti j (List.mem_range.2 (by omega))
            rw [hoj] at this
            by_cases e : j = i
            · subst e; exact hnl hlj
            · simp [e, hdj] at this
              exact hnl (hcl j oj hlj hoj i this))
          have next : ∀ (v : Value) (w' : World), Below w.heap.size w w' → InvS ops sh i (sl (a.put o.dst v)) w' → wpAny P .any ops Q fuel (listed.setIfInBounds i true) (a.put o.dst v) w' := by
            intro v w' hR hIi
            refine ih _ _ _ (by have := unl_set (n := ops.size) h1 h2; omega) (by rw [gset, if_neg him]; exact hlm) (hEw.trans (hR.mono hEw.size)) ((put_size _ _ _).trans hs) ((put_defers _ _ _).trans hd) ?_ ?_ ?_ ?_
            · intro j oj hj hoj k hk
              rw [gset] at hj ⊢
              by_cases e : i = k
              · rw [if_pos e]
              · rw [if_neg e]
                by_cases e' : i = j
                · subst e'; rw [ho] at hoj; cases hoj; exact h3 k hk
                · rw [if_neg e'] at hj; exact hcl j oj hj hoj k hk
            · intro j hj hl
              rw [gset] at hl ⊢
              by_cases e : i = j
              · rw [if_pos e]
              · rw [if_neg e] at hl ⊢; exact hlt j hj hl
            · intro j hj hl
              rw [gset] at hl
              by_cases e : i = j
              · subst e; exact hIi
              · rw [if_neg e] at hl
                have hoj : ops[j]? = some ops[j] := Array.getElem?_eq_getElem (by omega)
                exact stable i j o _ (sl a) _ w w' e ho hoj (hI j hj hl) hR (fun t h => put_sl _ _ _ _ h)
            · intro t htt
              have hdt : o.dst ≠ some t := htt i o him' (by rw [gset, if_pos rfl]) ho
              rw [put_sl _ _ _ _ hdt]
              exact ht t (fun j oj hj hl hoj => htt j oj hj (by rw [gset]; split <;> simp [hl]) hoj)
          unfold wpOp
          rw [ho]
          show if Region.wanted o (yielded ops a.tmps) = true then _ else _
          split
          · rename_i hw
            rw [if_pos hw] at hst'
            exact .inl (Oper.wp_mono (fun a' w' ⟨v, e, hR, hIi⟩ => by rw [e] at hIi ⊢; exact next v w' hR hIi) hst')
          · rename_i hw
            rw [if_neg hw] at hst'
            exact next undef w hst'.1 hst'.2
  refine main ops.size _ a0 w0.drew ?_ ?_ ⟨rfl, rfl, rfl, Nat.le_refl _, fun _ _ => rfl⟩ rfl rfl ?_ ?_ ?_ ?_
  · unfold unl; exact Nat.le_trans List.countP_le_length (by simp)
  · simp [Array.getD_eq_getD_getElem?, Array.getElem?_replicate, hm']
  · intro j o hj; simp [Array.getD_eq_getD_getElem?, Array.getElem?_replicate] at hj
    split at hj <;> simp at hj
  · intro j hj hl; simp [Array.getD_eq_getD_getElem?, Array.getElem?_replicate, hj] at hl
  · intro j hj hl; simp [Array.getD_eq_getD_getElem?, Array.getElem?_replicate, show j < ops.size by omega] at hl
  · intro t _; rfl
theorem grownBy_setCell' (w : World) (g o : Nat) (v : Value) : w.grownBy (w.setCell ⟨g, o, none⟩ v) (some g) :=
  ⟨rfl, rfl, rfl, by simp, fun b hb hne => Below.heap_setCell _ _ _ _ (fun e => hne (by rw [e]))⟩
theorem Sl.set {α : Type} {enc : α → Value} {w : World} {p : Option Addr} {n c g o : Nat} {v : Value} {xs : List α} (h : Sl enc w p n c xs) (hne : ∀ a, p = some a → a.block ≠ g) : Sl enc (w.setCell ⟨g, o, none⟩ v) p n c xs :=
  h.grown (grownBy_setCell' w g o v) (fun a ha e => hne a ha (by injection e))
theorem run_extract1 {P : Program} {a : Act} {u x : Value} {w : World} {t : Nat} (oe : Oper) (hop : oe.op = .extract (.tmp t) 1) (h : sl a t = .tuple #[u, x]) : ∃ v, (execOp a.eval oe).run P w = .ok (.value v) w :=
  ⟨x, by unfold execOp; rw [hop]; simp only [eval_tmp, h]; rfl⟩
end Go.By
namespace Go.Proofs.YtfbmdlfkipipfaaGreatDoor
open Go.RowKit Go.By
theorem info_vrow : (Tryz.prog.info? 139).map (fun i => (i.zero, i.size, i.bytes)) = some (some (.agg #[.slice none 0 0, .slice none 0 0]), 2, 48) := by kernel_rfl
theorem keepF_len (K : List Rw) (x : Rw) : (keepF K x).length ≤ K.length + 1 := by unfold keepF; split <;> simp
theorem restF_snoc (K : List Rw) (k x : Rw) : restF (K ++ [k]) x = lessF (restF K x) (atS (restF K x).1 (leadS k.1)) k := by unfold restF; rw [List.foldl_append]; rfl
theorem restF_take {K : List Rw} {j : Nat} {k x : Rw} (h : K[j]? = some k) : restF (K.take (j + 1)) x = lessF (restF (K.take j) x) (atS (restF (K.take j) x).1 (leadS k.1)) k := by
  have e : K.take (j + 1) = K.take j ++ [k] := by
    rw [List.take_add_one, h]; rfl
  rw [e, restF_snoc]
theorem lessS_fit {n t : Nat} {x k : Rw} {c : UInt8} (hx : Fit n t x) (hk : Fit n t k) : lessS x c k = (lessF x c k, 0) := by
  unfold lessS lessF
  rw [if_pos ⟨by rw [hx.1, hk.1], by rw [hx.2, hk.2]⟩]
end Go.Proofs.YtfbmdlfkipipfaaGreatDoor
namespace Go.By
open Go.RowKit
end Go.By
namespace Go.Proofs.YtfbmdlfkipipfaaGreatDoor
open Go.RowKit Go.By
end Go.Proofs.YtfbmdlfkipipfaaGreatDoor
namespace Go.By
open Go.RowKit
end Go.By
namespace Go.By
open Go.RowKit
theorem fl2_take (vs : List (Value × Value)) : ∀ k, fl2 (vs.take k) = (fl2 vs).take (k * 2) := by
  induction vs with
  | nil => intro k; simp [fl2]
  | cons v vs ih =>
    intro k
    cases k with
    | zero => simp [fl2]
    | succ k =>
      rw [List.take_succ_cons, show (k + 1) * 2 = k * 2 + 2 by omega]
      show v.1 :: v.2 :: fl2 (vs.take k) = (v.1 :: v.2 :: fl2 vs).take (k * 2 + 2)
      rw [List.take_succ_cons, List.take_succ_cons, ih k]
theorem fl2_drop (vs : List (Value × Value)) : ∀ k, fl2 (vs.drop k) = (fl2 vs).drop (k * 2) := by
  induction vs with
  | nil => intro k; simp [fl2]
  | cons v vs ih =>
    intro k
    cases k with
    | zero => simp [fl2]
    | succ k =>
      rw [List.drop_succ_cons, show (k + 1) * 2 = k * 2 + 2 by omega]
      show fl2 (vs.drop k) = (v.1 :: v.2 :: fl2 vs).drop (k * 2 + 2)
      rw [List.drop_succ_cons, List.drop_succ_cons, ih k]
section
variable {w : World} {p : Option Addr} {n c j : Nat} {vs : List (Value × Value)}
end
end Go.By
namespace Go.Proofs.YtfbmdlfkipipfaaGreatDoor
open Go.RowKit Go.By
end Go.Proofs.YtfbmdlfkipipfaaGreatDoor
namespace Go.By
open Go.RowKit
end Go.By
namespace Go.Proofs.YtfbmdlfkipipfaaGreatDoor
open Go.RowKit Go.By
end Go.Proofs.YtfbmdlfkipipfaaGreatDoor
namespace Go.Proofs.YtfbmdlfkipipfaaGreatDoor
open Go.RowKit Go.By
/-- the reference's rows kept of a list -/
def iK (rows : List (List UInt8)) : List Rw := rows.foldl (fun K r => insF K (r, [])) []
theorem iK_snoc (rows : List (List UInt8)) (r : List UInt8) : iK (rows ++ [r]) = insF (iK rows) (r, []) := by unfold iK; rw [List.foldl_append]; rfl
theorem iK_take {rows : List (List UInt8)} {k : Nat} {r : List UInt8} (h : rows[k]? = some r) : iK (rows.take (k + 1)) = insF (iK (rows.take k)) (r, []) := by
  have e : rows.take (k + 1) = rows.take k ++ [r] := by rw [List.take_add_one, h]; rfl
  rw [e, iK_snoc]
theorem insF_len (K : List Rw) (x : Rw) : (insF K x).length ≤ K.length + 1 := by rw [(ins_perm K x).length_eq]; exact keepF_len K x
theorem iK_len (rows : List (List UInt8)) : ∀ k, (iK (rows.take k)).length ≤ k
  | 0 => by simp [iK]
  | k + 1 => by
    by_cases h : k < rows.length
    · rw [iK_take (List.getElem?_eq_getElem h)]; exact Nat.le_trans (insF_len _ _) (Nat.succ_le_succ (iK_len rows k))
    · have e : rows.take (k + 1) = rows.take k := by rw [List.take_of_length_le (by omega), List.take_of_length_le (by omega)]
      rw [e]; exact Nat.le_succ_of_le (iK_len rows k)
end Go.Proofs.YtfbmdlfkipipfaaGreatDoor
namespace Gf
/-- columns but one -/
def skip (i k : Nat) : Nat := if k < i then k else k + 1
end Gf
namespace Go.Proofs.YtfbmdlfkipipfaaGreatDoor
open Go.By Gf
def updF (F : Nat → Rw) (i : Nat) (r : Rw) : Nat → Rw := fun k => if k = i then r else F k
theorem updF_same (F : Nat → Rw) (i : Nat) (r : Rw) : updF F i r i = r := by simp [updF]
theorem updF_ne (F : Nat → Rw) {i k : Nat} (r : Rw) (h : k ≠ i) : updF F i r k = F k := by simp [updF, h]
end Go.Proofs.YtfbmdlfkipipfaaGreatDoor
namespace Go.Proofs.YtfbmdlfkipipfaaGreatDoor
open Go.RowKit Go.By
end Go.Proofs.YtfbmdlfkipipfaaGreatDoor
namespace Go.Proofs.YtfbmdlfkipipfaaGreatDoor
open Go.RowKit Go.By
end Go.Proofs.YtfbmdlfkipipfaaGreatDoor
namespace Go.Proofs.YtfbmdlfkipipfaaGreatDoor
open Go.By Gf
def vR (r : Rw) : V := vf (cat r)
structure Red (n t : Nat) (K : List Rw) : Prop where
  kept : KeptS n t K
  red : K.Pairwise (fun a b => vR a (leadN b) = 0)
theorem Red.nil (n t : Nat) : Red n t [] := ⟨KeptS.nil n t, List.Pairwise.nil⟩
theorem KeptS.tail {n t : Nat} {k : Rw} {K : List Rw} (h : KeptS n t (k :: K)) : KeptS n t K := ⟨fun a ha => h.rows a (by simp [ha]), (List.pairwise_cons.1 h.sorted).2⟩
theorem Red.tail {n t : Nat} {k : Rw} {K : List Rw} (h : Red n t (k :: K)) : Red n t K := ⟨h.kept.tail, (List.pairwise_cons.1 h.red).2⟩
theorem vR_lead {n t : Nat} {r : Rw} (hf : Fit n t r) (hl : Led r) : vR r (leadN r) = 1 := vf_lead hl.at hf
/-- what is in the span, by its bytes where the rows lead -/
theorem coords_red {n t : Nat} : ∀ {K : List Rw} {v : V}, Red n t K → Sp (K.map vR) v → v = comb (K.map fun k => v (leadN k)) (K.map vR)
  | [], v, _, ⟨c, hc, e⟩ => by rw [e]; funext j; rw [List.map_nil, comb_nil, List.map_nil, comb_nil]
  | k :: K, v, h, ⟨c, hc, e⟩ => by
    cases c with
    | nil => simp at hc
    | cons x c =>
      obtain ⟨hf, hl⟩ := h.kept.rows k (by simp)
      have hs := (List.pairwise_cons.1 h.kept.sorted).1
      have hr := (List.pairwise_cons.1 h.red).1
      have hu : Sp (K.map vR) (comb c (K.map vR)) := ⟨c, by simpa using hc, rfl⟩
      have hv : ∀ j, v j = gmul x (vR k j) ^^^ comb c (K.map vR) j := fun j => by rw [e, List.map_cons, comb_cons]
      have h0 : comb c (K.map vR) (leadN k) = 0 := hu.at_zero fun a ha => by
        obtain ⟨b, hb, rfl⟩ := List.mem_map.1 ha
        exact vf_before (h.kept.rows b (by simp [hb])).1 (h.kept.rows b (by simp [hb])).2 (hs b hb)
      have hx : v (leadN k) = x := by rw [hv, vR_lead hf hl, gmul_one, h0, xor_zero]
      have hc2 : (K.map fun b => v (leadN b)) = K.map fun b => comb c (K.map vR) (leadN b) := List.map_congr_left fun b hb => by
        rw [hv, hr b hb, gmul_zero, zero_xor]
      have ih := coords_red h.tail hu
      funext j
      rw [List.map_cons, List.map_cons, comb_cons, hx, hc2, ← ih, hv]
theorem comb_map_zero {α : Type} (f : α → UInt8) (g : α → V) (j : Nat) : ∀ (K : List α), (∀ k, k ∈ K → gmul (f k) (g k j) = 0) → comb (K.map f) (K.map g) j = 0
  | [], _ => by rw [List.map_nil, comb_nil']
  | k :: K, h => by rw [List.map_cons, List.map_cons, comb_cons, h k (by simp), comb_map_zero f g j K (fun a ha => h a (by simp [ha])), xor_self]
/-- what is in the span leads where a row does -/
theorem lead_red {n t l : Nat} {K : List Rw} {v : V} (h : Red n t K) (hv : Sp (K.map vR) v) (h0 : ∀ j, j < l → v j = 0) (h1 : v l ≠ 0) : ∃ k, k ∈ K ∧ leadN k = l := by
  apply Classical.byContradiction
  intro hn
  refine h1 ?_
  rw [coords_red h hv]
  refine comb_map_zero _ _ _ K fun k hk => ?_
  rcases Nat.lt_trichotomy (leadN k) l with g | g | g
  · rw [h0 _ g, zero_gmul]
  · exact absurd ⟨k, hk, g⟩ hn
  · rw [show vR k l = 0 from vf_before (h.kept.rows k hk).1 (h.kept.rows k hk).2 g, gmul_zero]
theorem sorted_ext : ∀ {l m : List Nat}, l.Pairwise (· < ·) → m.Pairwise (· < ·) → (∀ x, x ∈ l ↔ x ∈ m) → l = m
  | [], m, _, _, h => by
    cases m with
    | nil => rfl
    | cons b m => exact absurd ((h b).2 (by simp)) (by simp)
  | a :: l, [], _, _, h => absurd ((h a).1 (by simp)) (by simp)
  | a :: l, b :: m, h1, h2, h => by
    obtain ⟨g1, g2⟩ := List.pairwise_cons.1 h1
    obtain ⟨k1, k2⟩ := List.pairwise_cons.1 h2
    have e : a = b := by
      rcases List.mem_cons.1 ((h a).1 (by simp)) with e | e
      · exact e
      · rcases List.mem_cons.1 ((h b).2 (by simp)) with e' | e'
        · exact e'.symm
        · exact absurd (g1 b e') (by have := k1 a e; omega)
    subst e
    rw [sorted_ext g2 k2 fun x => ⟨fun hx => by
      rcases List.mem_cons.1 ((h x).1 (by simp [hx])) with e | e
      · subst e; exact absurd (g1 x hx) (Nat.lt_irrefl x)
      · exact e, fun hx => by
      rcases List.mem_cons.1 ((h x).2 (by simp [hx])) with e | e
      · subst e; exact absurd (k1 x hx) (Nat.lt_irrefl x)
      · exact e⟩]
theorem Red.leads {n t : Nat} {K : List Rw} (h : Red n t K) : (K.map leadN).Pairwise (· < ·) := List.pairwise_map.2 h.kept.sorted
theorem Red.delta {n t i j : Nat} {K : List Rw} {a b : Rw} (h : Red n t K) (ha : K[i]? = some a) (hb : K[j]? = some b) : vR a (leadN b) = if i = j then 1 else 0 := by
  have ma := h.kept.rows a (List.mem_of_getElem? ha)
  obtain ⟨hi, ea⟩ := List.getElem?_eq_some_iff.1 ha
  obtain ⟨hj, eb⟩ := List.getElem?_eq_some_iff.1 hb
  rcases Nat.lt_trichotomy i j with g | g | g
  · rw [if_neg (by omega)]
    have := List.pairwise_iff_getElem.1 h.red i j hi hj g
    rwa [ea, eb] at this
  · subst g; rw [ha] at hb; cases hb
    rw [if_pos rfl]; exact vR_lead ma.1 ma.2
  · rw [if_neg (by omega)]
    have := List.pairwise_iff_getElem.1 h.kept.sorted j i hj hi g
    rw [ea, eb] at this
    exact vf_before ma.1 ma.2 this
/-- reduced rows of one span are the same -/
theorem Red.unique {n t : Nat} {K M : List Rw} (h : Red n t K) (g : Red n t M) (h1 : ∀ k, k ∈ K → Sp (M.map vR) (vR k)) (h2 : ∀ k, k ∈ M → Sp (K.map vR) (vR k)) : K = M := by
  have key : ∀ {A B : List Rw}, Red n t A → Red n t B → (∀ k, k ∈ A → Sp (B.map vR) (vR k)) → ∀ x, x ∈ A.map leadN → x ∈ B.map leadN := by
    intro A B hA hB hs x hx
    obtain ⟨a, ha, rfl⟩ := List.mem_map.1 hx
    obtain ⟨hf, hl⟩ := hA.kept.rows a ha
    obtain ⟨b, hb, e⟩ := lead_red hB (hs a ha) (l := leadN a) (fun j hj => vf_before hf hl hj) (by rw [vR_lead hf hl]; decide)
    exact List.mem_map.2 ⟨b, hb, e⟩
  have hl : K.map leadN = M.map leadN := sorted_ext h.leads g.leads fun x => ⟨key h g h1 x, key g h h2 x⟩
  have hlen : K.length = M.length := by have := congrArg List.length hl; simpa using this
  have lead_at : ∀ {i : Nat} {a b : Rw}, K[i]? = some a → M[i]? = some b → leadN a = leadN b := by
    intro i a b ha hb
    have := congrArg (fun l => l[i]?) hl
    simp only [List.getElem?_map, ha, hb, Option.map_some] at this
    injection this
  apply List.ext_getElem?
  intro i
  by_cases hi : i < K.length
  · have ha : K[i]? = some K[i] := List.getElem?_eq_getElem hi
    have hb : M[i]? = some (M[i]'(by omega)) := List.getElem?_eq_getElem (by omega)
    rw [ha, hb]
    congr 1
    obtain ⟨f1, -⟩ := h.kept.rows _ (List.mem_of_getElem? ha)
    obtain ⟨f2, -⟩ := g.kept.rows _ (List.mem_of_getElem? hb)
    have e1 := coords_red h (v := vR K[i]) (Sp.mem (List.mem_map.2 ⟨_, List.mem_of_getElem? ha, rfl⟩))
    have e2 := coords_red h (h2 _ (List.mem_of_getElem? hb))
    have e3 : (K.map fun k => vR K[i] (leadN k)) = K.map fun k => vR (M[i]'(by omega)) (leadN k) := by
      apply List.map_congr_left
      intro k hk
      obtain ⟨j, hj, rfl⟩ := List.getElem_of_mem hk
      have hkj : K[j]? = some K[j] := List.getElem?_eq_getElem hj
      have hmj : M[j]? = some (M[j]'(by omega)) := List.getElem?_eq_getElem (by omega)
      rw [h.delta ha hkj, lead_at hkj hmj, g.delta hb hmj]
    have ev : vR K[i] = vR (M[i]'(by omega)) := by rw [e1, e2, e3]
    have hc : cat K[i] = cat (M[i]'(by omega)) := vf_inj (by rw [f1.cat, f2.cat]) fun j _ => by
      have := congrFun ev j; exact this
    have l1 : (K[i]).1.length = ((M[i]'(by omega)) : Rw).1.length := by rw [f1.1, f2.1]
    unfold cat at hc
    obtain ⟨p1, p2⟩ := List.append_inj hc l1
    exact Prod.ext p1 p2
  · rw [List.getElem?_eq_none (by omega), List.getElem?_eq_none (by omega)]
end Go.Proofs.YtfbmdlfkipipfaaGreatDoor
namespace Go.Proofs.YtfbmdlfkipipfaaGreatDoor
open Go.By Gf
theorem leadAt_of {n t l : Nat} {r : Rw} (hf : Fit n t r) (hl : l < n) (h1 : vR r l = 1) (h0 : ∀ j, j < l → vR r j = 0) : LeadAt r l := by
  have hv : ∀ j, j < n → ∀ y, r.1[j]? = some y → vR r j = y := fun j hj y hy => by
    show vf (cat r) j = y
    rw [vf_at hf hj, at_of hy]
  have hx : r.1[l]? = some (r.1[l]'(by rw [hf.1]; exact hl)) := List.getElem?_eq_getElem (by rw [hf.1]; exact hl)
  have e1 : r.1[l]'(by rw [hf.1]; exact hl) = 1 := by rw [← hv l hl _ hx]; exact h1
  rw [e1] at hx
  have hz : ∀ (j : Nat) (y : UInt8), j < l → r.1[j]? = some y → y = 0 := fun j y hj hy => by rw [← hv j (by omega) y hy]; exact h0 j hj
  exact ⟨idxf_found hx (by decide) fun j y hj hy => by rw [hz j y hj hy]; rfl, hx, hz⟩
theorem vR_less {n t : Nat} {x o : Rw} (c : UInt8) (hx : Fit n t x) (ho : Fit n t o) : vR (lessF x c o) = fun j => vR x j ^^^ gmul c (vR o j) := by
  unfold vR; rw [cat_less c hx ho, vf_axpy (by rw [ho.cat, hx.cat])]
theorem vR_at {n t l : Nat} {x : Rw} (hx : Fit n t x) (hl : l < n) : atS x.1 (l : Int) = vR x l := (vf_at hx hl).symm
/-- what is left of a row leads with a 1, once normed, where no row leads -/
theorem rest_norm {n t : Nat} {K : List Rw} {x : Rw} (h : KeptS n t K) (hx : Fit n t x) (hn : ¬ leadS (restF K x).1 < 0) :
    ∃ l, LeadAt (normS (restF K x)) l ∧ Fit n t (normS (restF K x)) ∧ (∀ k, k ∈ K → vR (normS (restF K x)) (leadN k) = 0) ∧ Sp (vR x :: K.map vR) (vR (normS (restF K x))) ∧ ∃ d, Sp (K.map vR) (fun j => vR x j ^^^ gmul d (vR (normS (restF K x)) j)) := by
  have hr := hx.rest (fun k hk => (h.rows k hk).1)
  have hred := rest_red h.rows hx
  have hspan := red_span (tri K) (vf (cat x))
  rw [tri_fst] at hspan
  obtain ⟨l, c, hc, hl, hL, hF, hv⟩ := norm_row hr hn
  refine ⟨l, hL, hF, fun k hk => ?_, ?_, ginv c, ?_⟩
  · show vf (cat _) _ = 0
    rw [hv]
    show gmul c (vf (cat (restF K x)) (leadN k)) = 0
    rw [hred, red_at h.kept.tri (vf (cat k), leadN k) (List.mem_map.2 ⟨k, hk, rfl⟩), gmul_zero]
  · show Sp _ (vf (cat _))
    rw [hv, hred]
    refine Sp.scale c ?_
    have e : red (tri K) (vf (cat x)) = fun j => vf (cat x) j ^^^ (vf (cat x) j ^^^ red (tri K) (vf (cat x)) j) := by funext j; rw [← xor_assoc, xor_self, zero_xor]
    rw [e]
    exact Sp.add (Sp.mem (by simp [vR])) (hspan.cons _)
  · have e : (fun j => vR x j ^^^ gmul (ginv c) (vR (normS (restF K x)) j)) = fun j => vf (cat x) j ^^^ red (tri K) (vf (cat x)) j := by
      funext j
      show _ ^^^ gmul (ginv c) (vf (cat (normS (restF K x))) j) = _
      rw [hv, hred]
      show _ ^^^ gmul (ginv c) (gmul c _) = _
      rw [← gmul_assoc, ginv_gmul c hc, one_gmul]; rfl
    rw [e]; exact hspan
theorem ne_lead {n t l : Nat} {K : List Rw} {y : Rw} (hL : LeadAt y l) (hF : Fit n t y) (h0 : ∀ k, k ∈ K → vR y (leadN k) = 0) : ∀ k, k ∈ K → leadN k ≠ l := fun k hk e => by
  have h1 : vR y l = 1 := vf_lead hL hF
  rw [← e, h0 k hk] at h1
  exact absurd h1 (by decide)
/-- a row put in among rows by rising places -/
def putAt (M : List Rw) (y : Rw) : List Rw := M.takeWhile (fun r => decide (leadS r.1 ≤ leadS y.1)) ++ y :: M.dropWhile (fun r => decide (leadS r.1 ≤ leadS y.1))
theorem putAt_mem {M : List Rw} {y k : Rw} : k ∈ putAt M y ↔ k = y ∨ k ∈ M := by
  unfold putAt
  rw [List.mem_append, List.mem_cons]
  conv => rhs; rw [← List.takeWhile_append_dropWhile (p := fun r : Rw => decide (leadS r.1 ≤ leadS y.1)) (l := M), List.mem_append]
  constructor
  · rintro (h | h | h)
    · exact .inr (.inl h)
    · exact .inl h
    · exact .inr (.inr h)
  · rintro (h | h | h)
    · exact .inr (.inl h)
    · exact .inl h
    · exact .inr (.inr h)
theorem putAt_kept {n t l : Nat} {M : List Rw} {y : Rw} (h : KeptS n t M) (hL : LeadAt y l) (hF : Fit n t y) (hne : ∀ k, k ∈ M → leadN k ≠ l) : KeptS n t (putAt M y) := by
  refine ⟨fun k hk => ?_, ?_⟩
  · rcases putAt_mem.1 hk with rfl | hk
    · exact ⟨hF, l, hL⟩
    · exact h.rows k hk
  unfold putAt
  have hln := leadN_of hL
  rw [hL.1]
  have hlead : ∀ k, k ∈ M → leadS k.1 = (leadN k : Int) := fun k hk => (h.rows k hk).2.at.1
  have hs : (M.takeWhile (fun r => decide (leadS r.1 ≤ (l : Int))) ++ M.dropWhile (fun r => decide (leadS r.1 ≤ (l : Int)))).Pairwise (fun a b => leadN a < leadN b) := by
    rw [List.takeWhile_append_dropWhile]; exact h.sorted
  have mT : ∀ k, k ∈ M.takeWhile (fun r => decide (leadS r.1 ≤ (l : Int))) → leadN k < l := by
    intro k hk
    have h1 := (List.takeWhile_sublist _).mem hk
    have := mem_take hk
    rw [decide_eq_true_eq, hlead k h1] at this
    have := hne k h1
    omega
  obtain ⟨h1, h2, h3⟩ := List.pairwise_append.1 hs
  have mD : ∀ k, k ∈ M.dropWhile (fun r => decide (leadS r.1 ≤ (l : Int))) → l < leadN k := by
    cases e : M.dropWhile (fun r => decide (leadS r.1 ≤ (l : Int))) with
    | nil => intro k hk; simp at hk
    | cons a r =>
      have ha : a ∈ M := (List.dropWhile_sublist _).mem (by rw [e]; simp)
      have hd := drop_head e
      rw [decide_eq_false_iff_not, hlead a ha] at hd
      have hla : l < leadN a := by omega
      rw [e] at h2
      intro k hk
      rcases List.mem_cons.1 hk with rfl | hk
      · exact hla
      · exact Nat.lt_trans hla ((List.pairwise_cons.1 h2).1 k hk)
  refine List.pairwise_append.2 ⟨h1, List.pairwise_cons.2 ⟨fun k hk => by rw [hln]; exact mD k hk, h2⟩, ?_⟩
  intro a ha b hb
  rcases List.mem_cons.1 hb with rfl | hb
  · rw [hln]; exact mT a ha
  · exact h3 a ha b hb
/-- the rows behind another equation, as a system puts it -/
def clrF (y r : Rw) : Rw := lessF r (atS r.1 (leadS y.1)) y
def putF (K : List Rw) (x : Rw) : List Rw := putAt (K.map (clrF (normS (restF K x)))) (normS (restF K x))
theorem clr_row {n t l : Nat} {y r : Rw} (hL : LeadAt y l) (hF : Fit n t y) (hr : Fit n t r) (hl : Led r) (h0 : vR y (leadN r) = 0) : Fit n t (clrF y r) ∧ LeadAt (clrF y r) (leadN r) ∧ vR (clrF y r) = (fun j => vR r j ^^^ gmul (vR r l) (vR y j)) ∧ vR (clrF y r) l = 0 := by
  have hln := hL.lt hF
  have e : clrF y r = lessF r (vR r l) y := by unfold clrF; rw [hL.1, vR_at hr hln]
  have hv : vR (clrF y r) = fun j => vR r j ^^^ gmul (vR r l) (vR y j) := by rw [e, vR_less _ hr hF]
  have hf : Fit n t (clrF y r) := by rw [e]; exact hr.less hF
  have y1 : vR y l = 1 := vf_lead hL hF
  refine ⟨hf, leadAt_of hf (hl.at.lt hr) ?_ fun j hj => ?_, hv, ?_⟩
  · rw [hv]; show _ ^^^ gmul _ (vR y (leadN r)) = 1
    rw [h0, gmul_zero, xor_zero]; exact vR_lead hr hl
  · rw [hv]; show vR r j ^^^ gmul (vR r l) (vR y j) = 0
    rw [show vR r j = 0 from vf_before hr hl hj, zero_xor]
    rcases Nat.lt_or_ge l (leadN r) with g | g
    · rw [show vR r l = 0 from vf_before hr hl g, zero_gmul]
    · have hyL : Led y := ⟨l, hL⟩
      have : vR y j = 0 := vf_before hF hyL (by rw [leadN_of hL]; omega)
      rw [this, gmul_zero]
  · rw [hv]; show vR r l ^^^ gmul (vR r l) (vR y l) = 0
    rw [y1, gmul_one, xor_self]
theorem putF_red {n t : Nat} {K : List Rw} {x : Rw} (h : Red n t K) (hx : Fit n t x) (hn : ¬ leadS (restF K x).1 < 0) :
    Red n t (putF K x) ∧ (∀ k, k ∈ putF K x → Sp (vR x :: K.map vR) (vR k)) ∧ (∀ k, k ∈ K → Sp ((putF K x).map vR) (vR k)) ∧ Sp ((putF K x).map vR) (vR x) ∧ (putF K x).length = K.length + 1 := by
  obtain ⟨l, hL, hF, h0, hsp, d, hd⟩ := rest_norm h.kept hx hn
  have hne := ne_lead hL hF h0
  have hclr := fun r (hr : r ∈ K) => clr_row hL hF (h.kept.rows r hr).1 (h.kept.rows r hr).2 (h0 r hr)
  obtain ⟨y, hy⟩ : ∃ y, y = normS (restF K x) := ⟨_, rfl⟩
  unfold putF
  rw [← hy] at hL hF h0 hsp hd hclr ⊢
  have hlead : ∀ r, r ∈ K → leadN (clrF y r) = leadN r := fun r hr => leadN_of (hclr r hr).2.1
  have hM : KeptS n t (K.map (clrF y)) := by
    refine ⟨fun k hk => ?_, List.pairwise_map.2 (h.kept.sorted.imp_of_mem fun {a b} ha hb hab => by rw [hlead a ha, hlead b hb]; exact hab)⟩
    obtain ⟨r, hr, rfl⟩ := List.mem_map.1 hk
    exact ⟨(hclr r hr).1, _, (hclr r hr).2.1⟩
  have hneM : ∀ k, k ∈ K.map (clrF y) → leadN k ≠ l := fun k hk => by
    obtain ⟨r, hr, rfl⟩ := List.mem_map.1 hk
    rw [hlead r hr]; exact hne r hr
  have hyM : ∀ k, k ∈ K.map (clrF y) → vR y (leadN k) = 0 ∧ vR k l = 0 := fun k hk => by
    obtain ⟨r, hr, rfl⟩ := List.mem_map.1 hk
    rw [hlead r hr]; exact ⟨h0 r hr, (hclr r hr).2.2.2⟩
  have hrM : (K.map (clrF y)).Pairwise (fun a b => vR a (leadN b) = 0) := List.pairwise_map.2 (h.red.imp_of_mem fun {a b} ha hb hab => by
    rw [hlead b hb, (hclr a ha).2.2.1]
    show vR a (leadN b) ^^^ gmul _ (vR y (leadN b)) = 0
    rw [hab, h0 b hb, gmul_zero, xor_self])
  have inP : ∀ {k : Rw}, k = y ∨ k ∈ K.map (clrF y) → Sp ((putAt (K.map (clrF y)) y).map vR) (vR k) := fun hk => Sp.mem (List.mem_map.2 ⟨_, putAt_mem.2 hk, rfl⟩)
  have back : ∀ k, k ∈ K → Sp ((putAt (K.map (clrF y)) y).map vR) (vR k) := fun k hk => by
    have e : vR k = fun j => vR (clrF y k) j ^^^ gmul (vR k l) (vR y j) := by
      funext j
      rw [(hclr k hk).2.2.1]
      show _ = (vR k j ^^^ gmul (vR k l) (vR y j)) ^^^ gmul (vR k l) (vR y j)
      rw [xor_cancel]
    rw [e]
    exact Sp.add (inP (.inr (List.mem_map.2 ⟨k, hk, rfl⟩))) (Sp.scale _ (inP (.inl rfl)))
  refine ⟨⟨putAt_kept hM hL hF hneM, ?_⟩, fun k hk => ?_, back, ?_, ?_⟩
  · unfold putAt
    have hs := hrM
    rw [← List.takeWhile_append_dropWhile (p := fun r : Rw => decide (leadS r.1 ≤ leadS y.1)) (l := K.map (clrF y))] at hs
    obtain ⟨g1, g2, g3⟩ := List.pairwise_append.1 hs
    refine List.pairwise_append.2 ⟨g1, List.pairwise_cons.2 ⟨fun b hb => (hyM b ((List.dropWhile_sublist _).mem hb)).1, g2⟩, fun a ha b hb => ?_⟩
    rcases List.mem_cons.1 hb with rfl | hb
    · rw [leadN_of hL]; exact (hyM a ((List.takeWhile_sublist _).mem ha)).2
    · exact g3 a ha b hb
  · rcases putAt_mem.1 hk with rfl | hk
    · exact hsp
    · obtain ⟨r, hr, rfl⟩ := List.mem_map.1 hk
      rw [(hclr r hr).2.2.1]
      exact Sp.add (Sp.mem (List.mem_cons_of_mem _ (List.mem_map.2 ⟨r, hr, rfl⟩))) (Sp.scale _ hsp)
  · have e : vR x = fun j => (vR x j ^^^ gmul d (vR y j)) ^^^ gmul d (vR y j) := by funext j; rw [xor_cancel]
    rw [e]
    refine Sp.add (Sp.trans (fun a ha => ?_) hd) (Sp.scale _ (inP (.inl rfl)))
    obtain ⟨k, hk, rfl⟩ := List.mem_map.1 ha
    exact back k hk
  · unfold putAt
    rw [List.length_append, List.length_cons]
    have := congrArg List.length (List.takeWhile_append_dropWhile (p := fun r : Rw => decide (leadS r.1 ≤ leadS y.1)) (l := K.map (clrF y)))
    rw [List.length_append, List.length_map] at this
    omega
/-- the same of the document's rows -/
theorem insF_span {n t : Nat} {K : List Rw} {x : Rw} (h : KeptS n t K) (hx : Fit n t x) (hn : ¬ leadS (restF K x).1 < 0) :
    (∀ k, k ∈ insF K x → Sp (vR x :: K.map vR) (vR k)) ∧ (∀ k, k ∈ K → Sp ((insF K x).map vR) (vR k)) ∧ Sp ((insF K x).map vR) (vR x) := by
  obtain ⟨l, hL, hF, h0, hsp, d, hd⟩ := rest_norm h hx hn
  have hm : ∀ k, k ∈ insF K x ↔ k ∈ K ∨ k = normS (restF K x) := fun k => by
    rw [(ins_perm K x).mem_iff]; unfold keepF; rw [if_neg hn, List.mem_append, List.mem_singleton]
  have inP : ∀ {k : Rw}, k ∈ K ∨ k = normS (restF K x) → Sp ((insF K x).map vR) (vR k) := fun hk => Sp.mem (List.mem_map.2 ⟨_, (hm _).2 hk, rfl⟩)
  refine ⟨fun k hk => ?_, fun k hk => inP (.inl hk), ?_⟩
  · rcases (hm k).1 hk with hk | rfl
    · exact Sp.mem (List.mem_cons_of_mem _ (List.mem_map.2 ⟨k, hk, rfl⟩))
    · exact hsp
  · have e : vR x = fun j => (vR x j ^^^ gmul d (vR (normS (restF K x)) j)) ^^^ gmul d (vR (normS (restF K x)) j) := by funext j; rw [xor_cancel]
    rw [e]
    refine Sp.add (Sp.trans (fun a ha => ?_) hd) (Sp.scale _ (inP (.inr rfl)))
    obtain ⟨k, hk, rfl⟩ := List.mem_map.1 ha
    exact inP (.inl hk)
end Go.Proofs.YtfbmdlfkipipfaaGreatDoor
namespace Go.Proofs.YtfbmdlfkipipfaaGreatDoor
open Go.By Gf
def stepB (F : Nat → Rw) (i k : Nat) : Nat → Rw := if k = i then F else updF F i (lessF (F i) (atS (F i).1 (leadS (F k).1)) (F k))
def rowB (i : Nat) : Nat → (Nat → Rw) → (Nat → Rw)
  | 0, F => F
  | k + 1, F => stepB (rowB i k F) i k
def backB (m : Nat) : Nat → (Nat → Rw) → (Nat → Rw)
  | 0, F => F
  | i + 1, F => rowB i m (backB m i F)
structure BI (n t m : Nat) (L : Nat → Nat) (W : List V) (F : Nat → Rw) (i k : Nat) : Prop where
  good : ∀ a, a < m → Fit n t (F a) ∧ LeadAt (F a) (L a)
  done : ∀ a, a < i → a < m → ∀ b, b < m → b ≠ a → vR (F a) (L b) = 0
  cur : ∀ b, b < k → b < m → b ≠ i → vR (F i) (L b) = 0
  sp1 : ∀ a, a < m → Sp W (vR (F a))
  sp2 : ∀ v, v ∈ W → Sp ((List.range m).map fun a => vR (F a)) v
theorem BI.led {n t m : Nat} {L : Nat → Nat} {W : List V} {F : Nat → Rw} {i k a : Nat} (h : BI n t m L W F i k) (ha : a < m) : Fit n t (F a) ∧ Led (F a) ∧ leadN (F a) = L a :=
  ⟨(h.good a ha).1, ⟨_, (h.good a ha).2⟩, leadN_of (h.good a ha).2⟩
theorem BI.step {n t m : Nat} {L : Nat → Nat} {W : List V} {F : Nat → Rw} {i k : Nat} (h : BI n t m L W F i k) (hL : ∀ a b, a < b → b < m → L a < L b) (hi : i < m) (hk : k < m) : BI n t m L W (stepB F i k) i (k + 1) := by
  unfold stepB
  by_cases hki : k = i
  · rw [if_pos hki]
    exact ⟨h.good, h.done, fun b hb hbm hne => h.cur b (by omega) hbm hne, h.sp1, h.sp2⟩
  · rw [if_neg hki]
    obtain ⟨fi, li, ni⟩ := h.led hi
    obtain ⟨fk, lk, nk⟩ := h.led hk
    have hLk : L k < n := (h.good k hk).2.lt fk
    have e : lessF (F i) (atS (F i).1 (leadS (F k).1)) (F k) = lessF (F i) (vR (F i) (L k)) (F k) := by rw [(h.good k hk).2.1, vR_at fi hLk]
    rw [e]
    obtain ⟨Y, hY⟩ : ∃ Y, Y = lessF (F i) (vR (F i) (L k)) (F k) := ⟨_, rfl⟩
    rw [← hY]
    have hv : vR Y = fun j => vR (F i) j ^^^ gmul (vR (F i) (L k)) (vR (F k) j) := by rw [hY, vR_less _ fi fk]
    have fY : Fit n t Y := by rw [hY]; exact fi.less fk
    have vk1 : vR (F k) (L k) = 1 := by rw [← nk]; exact vR_lead fk lk
    have kz : ∀ j, j < L k → vR (F k) j = 0 := fun j hj => vf_before fk lk (by rw [nk]; exact hj)
    have iz : ∀ j, j < L i → vR (F i) j = 0 := fun j hj => vf_before fi li (by rw [ni]; exact hj)
    have vi1 : vR (F i) (L i) = 1 := by rw [← ni]; exact vR_lead fi li
    -- up to where row i leads nothing turns
    have same : ∀ j, j ≤ L i → vR Y j = vR (F i) j := fun j hj => by
      rw [hv]
      show vR (F i) j ^^^ gmul (vR (F i) (L k)) (vR (F k) j) = _
      rcases Nat.lt_or_ge k i with g | g
      · rw [iz (L k) (hL k i g hi), zero_gmul, xor_zero]
      · rw [kz j (by have := hL i k (by omega) hk; omega), gmul_zero, xor_zero]
    have lY : LeadAt Y (L i) := leadAt_of fY ((h.good i hi).2.lt fi) (by rw [same _ (Nat.le_refl _)]; exact vi1) fun j hj => by rw [same j (by omega)]; exact iz j hj
    have ui : updF F i Y i = Y := updF_same F i Y
    have un : ∀ a, a ≠ i → updF F i Y a = F a := fun a ha => updF_ne F Y ha
    refine ⟨fun a ha => ?_, fun a ha ham b hb hne => ?_, fun b hb hbm hne => ?_, fun a ha => ?_, fun v hvW => ?_⟩
    · by_cases e : a = i
      · subst e; rw [ui]; exact ⟨fY, lY⟩
      · rw [un a e]; exact h.good a ha
    · rw [un a (by omega)]; exact h.done a ha ham b hb hne
    · rw [ui, hv]
      show vR (F i) (L b) ^^^ gmul (vR (F i) (L k)) (vR (F k) (L b)) = 0
      by_cases e : b = k
      · subst e; rw [vk1, gmul_one, xor_self]
      · have hbk : b < k := by omega
        rw [h.cur b hbk hbm hne, kz (L b) (hL b k hbk hk), gmul_zero, xor_self]
    · by_cases e : a = i
      · subst e; rw [ui, hv]; exact Sp.add (h.sp1 a hi) (Sp.scale _ (h.sp1 k hk))
      · rw [un a e]; exact h.sp1 a ha
    · refine Sp.trans (fun u hu => ?_) (h.sp2 v hvW)
      obtain ⟨a, ha, rfl⟩ := List.mem_map.1 hu
      have ham := List.mem_range.1 ha
      have mem : ∀ c, c < m → Sp ((List.range m).map fun a => vR (updF F i Y a)) (vR (updF F i Y c)) := fun c hc => Sp.mem (List.mem_map.2 ⟨c, List.mem_range.2 hc, rfl⟩)
      by_cases e : a = i
      · subst e
        have e2 : vR (F a) = fun j => vR Y j ^^^ gmul (vR (F a) (L k)) (vR (F k) j) := by
          funext j; rw [hv]; show _ = (vR (F a) j ^^^ _) ^^^ _; rw [xor_cancel]
        show Sp _ (vR (F a))
        rw [e2]
        have m1 := mem a hi; rw [ui] at m1
        have m2 := mem k hk; rw [un k hki] at m2
        exact Sp.add m1 (Sp.scale _ m2)
      · have m1 := mem a ham; rw [un a e] at m1; exact m1
theorem BI.row {n t m : Nat} {L : Nat → Nat} {W : List V} {F : Nat → Rw} {i : Nat} (h : BI n t m L W F i 0) (hL : ∀ a b, a < b → b < m → L a < L b) (hi : i < m) : ∀ k, k ≤ m → BI n t m L W (rowB i k F) i k
  | 0, _ => h
  | k + 1, hk => (BI.row h hL hi k (by omega)).step hL hi (by omega)
theorem BI.next {n t m : Nat} {L : Nat → Nat} {W : List V} {F : Nat → Rw} {i : Nat} (h : BI n t m L W F i m) : BI n t m L W F (i + 1) 0 :=
  ⟨h.good, fun a ha ham b hb hne => by
    by_cases e : a = i
    · subst e; exact h.cur b hb hb hne
    · exact h.done a (by omega) ham b hb hne, fun b hb => by omega, h.sp1, h.sp2⟩
theorem BI.all {n t m : Nat} {L : Nat → Nat} {W : List V} {F : Nat → Rw} (h : BI n t m L W F 0 0) (hL : ∀ a b, a < b → b < m → L a < L b) : ∀ i, i ≤ m → BI n t m L W (backB m i F) i 0
  | 0, _ => h
  | i + 1, hi => ((BI.all h hL i (by omega)).row hL (by omega) m (Nat.le_refl m)).next
theorem BI.red {n t m : Nat} {L : Nat → Nat} {W : List V} {F : Nat → Rw} (h : BI n t m L W F m 0) (hL : ∀ a b, a < b → b < m → L a < L b) : Red n t ((List.range m).map F) := by
  refine ⟨⟨fun k hk => ?_, ?_⟩, ?_⟩
  · obtain ⟨a, ha, rfl⟩ := List.mem_map.1 hk
    exact ⟨(h.led (List.mem_range.1 ha)).1, (h.led (List.mem_range.1 ha)).2.1⟩
  · refine List.pairwise_map.2 (List.pairwise_iff_getElem.2 fun i j hi hj hij => ?_)
    simp only [List.length_range] at hi hj
    simp only [List.getElem_range]
    rw [(h.led hi).2.2, (h.led hj).2.2]; exact hL i j hij hj
  · refine List.pairwise_map.2 (List.pairwise_iff_getElem.2 fun i j hi hj hij => ?_)
    simp only [List.length_range] at hi hj
    simp only [List.getElem_range]
    rw [(h.led hj).2.2]; exact h.done i hi hi j hj (by omega)
def listF (K : List Rw) : Nat → Rw := fun i => K.getD i ([], [])
theorem listF_map (K : List Rw) : (List.range K.length).map (listF K) = K := by
  apply List.ext_getElem?
  intro i
  by_cases hi : i < K.length
  · rw [List.getElem?_map, List.getElem?_range hi, List.getElem?_eq_getElem hi]
    simp [listF, hi]
  · rw [List.getElem?_eq_none (by simpa using hi), List.getElem?_eq_none (by omega)]
/-- the document's rows: reduced -/
def redL (K : List Rw) : List Rw := (List.range K.length).map (backB K.length K.length (listF K))
theorem redL_red {n t : Nat} {K : List Rw} (h : KeptS n t K) : Red n t (redL K) ∧ (∀ k, k ∈ redL K → Sp (K.map vR) (vR k)) ∧ (∀ k, k ∈ K → Sp ((redL K).map vR) (vR k)) ∧ (redL K).map leadN = K.map leadN := by
  have hat : ∀ a, a < K.length → listF K a ∈ K := fun a ha => by
    have : listF K a = K[a] := by simp [listF, ha]
    rw [this]; exact List.getElem_mem ha
  have hL : ∀ a b, a < b → b < K.length → leadN (listF K a) < leadN (listF K b) := fun a b hab hb => by
    have e1 : listF K a = K[a] := by simp [listF, show a < K.length by omega]
    have e2 : listF K b = K[b] := by simp [listF, hb]
    rw [e1, e2]; exact List.pairwise_iff_getElem.1 h.sorted a b (by omega) hb hab
  have h0 : BI n t K.length (fun a => leadN (listF K a)) (K.map vR) (listF K) 0 0 := by
    refine ⟨fun a ha => ⟨(h.rows _ (hat a ha)).1, (h.rows _ (hat a ha)).2.at⟩, fun a ha => by omega, fun b hb => by omega, fun a ha => Sp.mem (List.mem_map.2 ⟨_, hat a ha, rfl⟩), fun v hv => ?_⟩
    have e : ((List.range K.length).map fun a => vR (listF K a)) = K.map vR := by
      conv => rhs; rw [← listF_map K]
      rw [List.map_map]; rfl
    rw [e]; exact Sp.mem hv
  have hA := h0.all hL K.length (Nat.le_refl _)
  refine ⟨hA.red hL, fun k hk => ?_, fun k hk => ?_, ?_⟩
  · obtain ⟨a, ha, rfl⟩ := List.mem_map.1 hk
    exact hA.sp1 a (List.mem_range.1 ha)
  · have := hA.sp2 (vR k) (List.mem_map.2 ⟨k, hk, rfl⟩)
    unfold redL
    rw [List.map_map]; exact this
  · conv => rhs; rw [← listF_map K]
    unfold redL
    rw [List.map_map, List.map_map]
    apply List.map_congr_left
    intro a ha
    exact (hA.led (List.mem_range.1 ha)).2.2
/-- what is left of a row is the same, cleared by either -/
theorem rest_same {n t : Nat} {K M : List Rw} {x : Rw} (h : KeptS n t K) (g : Red n t M) (hx : Fit n t x) (h1 : ∀ k, k ∈ K → Sp (M.map vR) (vR k)) (hl : M.map leadN = K.map leadN) : restF K x = restF M x := by
  have fK := hx.rest (fun k hk => (h.rows k hk).1)
  have fM := hx.rest (fun k hk => (g.kept.rows k hk).1)
  have rK : vR (restF K x) = red (tri K) (vR x) := rest_red h.rows hx
  have rM : vR (restF M x) = red (tri M) (vR x) := rest_red g.kept.rows hx
  have s1 := red_span (tri K) (vR x)
  have s2 := red_span (tri M) (vR x)
  rw [tri_fst] at s1 s2
  have hD : Sp (M.map vR) (fun j => vR (restF K x) j ^^^ vR (restF M x) j) := by
    have e : (fun j => vR (restF K x) j ^^^ vR (restF M x) j) = fun j => (vR x j ^^^ red (tri K) (vR x) j) ^^^ (vR x j ^^^ red (tri M) (vR x) j) := by
      funext j; rw [rK, rM, xor4, xor_self, zero_xor]
    rw [e]
    exact Sp.add (Sp.trans (fun a ha => by obtain ⟨k, hk, rfl⟩ := List.mem_map.1 ha; exact h1 k hk) s1) s2
  have hz : ∀ k, k ∈ M → vR (restF K x) (leadN k) ^^^ vR (restF M x) (leadN k) = 0 := fun k hk => by
    have m1 : leadN k ∈ K.map leadN := by rw [← hl]; exact List.mem_map.2 ⟨k, hk, rfl⟩
    obtain ⟨k', hk', e⟩ := List.mem_map.1 m1
    rw [rK, rM]
    rw [red_at g.kept.kept.tri (vf (cat k), leadN k) (List.mem_map.2 ⟨k, hk, rfl⟩)]
    rw [← e, red_at h.kept.tri (vf (cat k'), leadN k') (List.mem_map.2 ⟨k', hk', rfl⟩), xor_self]
  have hzero : ∀ j, vR (restF K x) j ^^^ vR (restF M x) j = 0 := fun j => by
    have := congrFun (coords_red g hD) j
    rw [this]
    exact comb_map_zero _ _ j M fun k hk => by rw [hz k hk, zero_gmul]
  have hc : cat (restF K x) = cat (restF M x) := vf_inj (by rw [fK.cat, fM.cat]) fun j _ => xor_eq_zero (hzero j)
  unfold cat at hc
  obtain ⟨p1, p2⟩ := List.append_inj hc (by rw [fK.1, fM.1])
  exact Prod.ext p1 p2
/-- a system and what the document has of the same equations: K0 the rows put one by one -/
structure Sys (n t : Nat) (K0 K : List Rw) : Prop where
  kept : KeptS n t K0
  same : K = redL K0
theorem Sys.nil (n t : Nat) : Sys n t [] [] := ⟨KeptS.nil n t, rfl⟩
theorem Sys.red {n t : Nat} {K0 K : List Rw} (h : Sys n t K0 K) : Red n t K := by rw [h.same]; exact (redL_red h.kept).1
theorem Sys.rest {n t : Nat} {K0 K : List Rw} {x : Rw} (h : Sys n t K0 K) (hx : Fit n t x) : restF K0 x = restF K x := by
  obtain ⟨r1, r2, r3, r4⟩ := redL_red h.kept
  rw [h.same]; exact rest_same h.kept r1 hx r3 r4
theorem Sys.put {n t : Nat} {K0 K : List Rw} {x : Rw} (h : Sys n t K0 K) (hx : Fit n t x) (hn : ¬ leadS (restF K x).1 < 0) : Sys n t (insF K0 x) (putF K x) := by
  have hn0 : ¬ leadS (restF K0 x).1 < 0 := by rw [h.rest hx]; exact hn
  have hk0 := h.kept.step hx
  obtain ⟨r1, r2, r3, r4⟩ := redL_red h.kept
  obtain ⟨q1, q2, q3, q4⟩ := redL_red hk0
  obtain ⟨i1, i2, i3⟩ := insF_span h.kept hx hn0
  obtain ⟨p1, p2, p3, p4, -⟩ := putF_red h.red hx hn
  rw [← h.same] at r1 r2 r3
  refine ⟨hk0, p1.unique q1 (fun k hk => ?_) fun k hk => ?_⟩
  · refine Sp.trans (fun a ha => ?_) (p2 k hk)
    rcases List.mem_cons.1 ha with rfl | ha
    · exact Sp.trans (fun b hb => by obtain ⟨c, hc, rfl⟩ := List.mem_map.1 hb; exact q3 c hc) i3
    · obtain ⟨c, hc, rfl⟩ := List.mem_map.1 ha
      refine Sp.trans (fun b hb => ?_) (r2 c hc)
      obtain ⟨d, hd, rfl⟩ := List.mem_map.1 hb
      exact Sp.trans (fun b hb => by obtain ⟨c, hc, rfl⟩ := List.mem_map.1 hb; exact q3 c hc) (i2 d hd)
  · refine Sp.trans (fun a ha => ?_) (q2 k hk)
    obtain ⟨c, hc, rfl⟩ := List.mem_map.1 ha
    refine Sp.trans (fun b hb => ?_) (i1 c hc)
    rcases List.mem_cons.1 hb with rfl | hb
    · exact p4
    · obtain ⟨d, hd, rfl⟩ := List.mem_map.1 hb
      exact Sp.trans (fun b hb => by obtain ⟨e, he, rfl⟩ := List.mem_map.1 hb; exact p3 e he) (r3 d hd)
end Go.Proofs.YtfbmdlfkipipfaaGreatDoor
namespace Go.Proofs.YtfbmdlfkipipfaaGreatDoor
open Go.RowKit Go.By
end Go.Proofs.YtfbmdlfkipipfaaGreatDoor
namespace Go.Proofs.YtfbmdlfkipipfaaGreatDoor
open Go.RowKit Go.By
theorem use_w1 {P : Program} {f : FuncId} {args : Array Value} {W : World} {Q : Ending → World → Prop} (I : World → Prop) (h : I W) (k : ∀ W', I W' → Calls P f args W' Q) : Calls P f args W Q := k W h
end Go.Proofs.YtfbmdlfkipipfaaGreatDoor
namespace Go.Proofs.YtfbmdlfkipipfaaGreatDoor
open Go.RowKit Go.By
end Go.Proofs.YtfbmdlfkipipfaaGreatDoor
namespace Go.By
open Go.RowKit
end Go.By
namespace Go.Proofs.YtfbmdlfkipipfaaGreatDoor
open Go.RowKit Go.By
end Go.Proofs.YtfbmdlfkipipfaaGreatDoor
