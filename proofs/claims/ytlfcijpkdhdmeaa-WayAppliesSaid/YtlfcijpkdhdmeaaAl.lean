/- The contract of the reference's Step of layer 20: drop, double, move, forge, and where nothing is done. -/
import Derived.Test.YtlfcijpkdhdmeaaAk
import Derived.Test.YtlfcijpkdhdmeaaR4
namespace Go.Proofs.Ytlfcijpkdhdmeaa
open Go.RowKit Go.By
abbrev VZ := List (Value × List UInt8)
def ValZ (w : World) (Z : VZ) : Prop := ∀ z, z ∈ Z → ∃ q c, z.1 = .slice q z.2.length c ∧ Sl B8 w q z.2.length c z.2
theorem ValZ.keep {w w' : World} {Z : VZ} (h : ValZ w Z) (hb : Below w.heap.size w w') : ValZ w' Z := fun z hz => by
  obtain ⟨q, c, e, hs⟩ := h z hz; exact ⟨q, c, e, hs.keep hb⟩
theorem ValZ.slices {w : World} {Z : VZ} (h : ValZ w Z) : ∀ v, v ∈ Z.map (·.1) → ∃ q m c, v = .slice q m c := fun v hv => by
  obtain ⟨z, hz, rfl⟩ := List.mem_map.1 hv
  obtain ⟨q, c, e, _⟩ := h z hz
  exact ⟨q, _, c, e⟩
theorem valZ_of {w : World} {p : Option Addr} {n c : Nat} {xss : List (List UInt8)} (h : Sl2 w p n c xss) : ∃ Z : VZ, Z.map (·.2) = xss ∧ Sl id w p n c (Z.map (·.1)) ∧ ValZ w Z := by
  obtain ⟨vs, hvs, hv⟩ := h.vals
  have hl : vs.length = xss.length := hvs.len.trans h.len.symm
  refine ⟨List.zip vs xss, ?_, ?_, ?_⟩
  · rw [List.map_snd_zip (by omega)]
  · rw [List.map_fst_zip (by omega)]; exact hvs
  · intro z hz
    obtain ⟨i, hi, e⟩ := List.getElem_of_mem hz
    have h1 : vs[i]? = some z.1 := by rw [← e, List.getElem_zip]; exact List.getElem?_eq_getElem _
    have h2 : xss[i]? = some z.2 := by rw [← e, List.getElem_zip]; exact List.getElem?_eq_getElem _
    obtain ⟨xs, q, c', hx, hv', hs⟩ := hv i z.1 h1
    rw [h2] at hx; cases hx
    exact ⟨q, c', hv', hs⟩
/-- what comes back: packets and where they stood, as two lists -/
def RetSt (w : World) (PS : List Pack) (e : Ending) (w' : World) : Prop :=
  ∃ (L : Nat) (q1 : Option Addr) (c1 : Nat) (q2 : Option Addr) (c2 : Nat), Hid (L = PS.length) ∧ e = .returned (.tuple #[.slice q1 L c1, .slice q2 L c2]) ∧ Sl2 w' q1 L c1 (PS.map (·.1)) ∧ Sl I64 w' q2 L c2 (PS.map (·.2)) ∧ Below w.heap.size w w'
theorem sl2_of {w' : World} {base n c : Nat} {q : Option Addr} {Z : VZ} (ho : w'.ownsRow base 28 1 (.slice q n c) n (Z.map (·.1))) (hz : ValZ w' Z) : Sl2 w' q n c (Z.map (·.2)) := by
  have hs : Sl id w' q n c (Z.map (·.1)) := Sl.of_owns (by rw [List.map_id]; exact ho)
  have hl : Z.length = n := by have := hs.len; rwa [List.length_map] at this
  refine ⟨by rw [List.length_map]; exact hl, hs.le, hs.max, hs.nil, fun i xs hi => ?_⟩
  obtain ⟨hi1, hi2⟩ := List.getElem?_eq_some_iff.1 hi
  rw [List.length_map] at hi1
  obtain ⟨b, o, hp, hc⟩ := hs.rs i (by rw [List.length_map]; exact hi1)
  have hzi : Z[i] ∈ Z := List.getElem_mem hi1
  obtain ⟨q', c', e, hsl⟩ := hz _ hzi
  rw [List.getElem_map] at hc hi2
  subst hi2
  exact ⟨b, o, q', c', hp, by rw [hc, id, e], hsl⟩
def TupOk (PS : List Pack) (v : Value) (w : World) : Prop := ∃ (L : Nat) (q1 : Option Addr) (c1 : Nat) (q2 : Option Addr) (c2 : Nat), Hid (L = PS.length) ∧ v = .tuple #[.slice q1 L c1, .slice q2 L c2] ∧ Sl2 w q1 L c1 (PS.map (·.1)) ∧ Sl I64 w q2 L c2 (PS.map (·.2))
theorem TupOk.keep {PS : List Pack} {v : Value} {w w' : World} (h : TupOk PS v w) (hb : Below w.heap.size w w') : TupOk PS v w' := by
  obtain ⟨L, q1, c1, q2, c2, hL, e, s1, s2⟩ := h
  exact ⟨L, q1, c1, q2, c2, hL, e, s1.keep hb, s2.keep hb⟩
def ShpT (PS : List Pack) : Shp := ⟨TupOk PS, fun _ _ _ h hb => h.keep hb⟩
def ShpI (ks : List Int) : Shp := ⟨fun v w => ∃ p n c, v = .slice p n c ∧ Sl I64 w p n c ks, fun _ _ _ ⟨p, n, c, e, h⟩ hb => ⟨p, n, c, e, h.keep hb⟩⟩
theorem RetT.st {w w' : World} {vs : List Value} {ks : List Int} {e : Ending} {Z : VZ} {PS : List Pack} (h : RetT w vs ks e w') (hz : ValZ w Z) (h1 : vs = Z.map (·.1)) (h2 : PS.map (·.1) = Z.map (·.2)) (h3 : PS.map (·.2) = ks) : RetSt w PS e w' := by
  obtain ⟨q1, c1, q2, c2, rfl, o1, o2, hb⟩ := h
  subst h1; subst h3
  have l1 : PS.length = Z.length := by have := congrArg List.length h2; simpa using this
  rw [List.length_map] at o1 o2
  rw [List.length_map, List.length_map]
  refine ⟨PS.length, q1, c1, q2, c2, rfl, by rw [l1], ?_, Sl.of_owns o2, hb⟩
  rw [h2, l1]
  exact sl2_of o1 (hz.keep hb)
theorem RetSt.below {w0 w w' : World} {PS : List Pack} {e : Ending} (h : RetSt w PS e w') (hb : Below w0.heap.size w0 w) : RetSt w0 PS e w' := by
  obtain ⟨L, q1, c1, q2, c2, hL, e1, s1, s2, hb'⟩ := h
  exact ⟨L, q1, c1, q2, c2, hL, e1, s1, s2, bl hb hb' hb.size⟩
theorem Sl2.int {w : World} {p : Option Addr} {n c : Nat} {vs : List Value} (h : w.ownsRow 0 0 1 (.slice p n c) n vs) : True := trivial
set_option maxRecDepth 100000 in
set_option maxHeartbeats 4000000 in
theorem Step0_any (p1 p2 q : Option Addr) (c1 c2 m c' i : Nat) (j : Int) (b : Int) (PS : List Pack) (bs : List UInt8) (w : World) (h1 : Sl2 w p1 PS.length c1 (PS.map (·.1))) (h2 : Sl I64 w p2 PS.length c2 (PS.map (·.2))) (hs : Sl B8 w q m c' bs) (hn : PS.length < 4096) (hi : i < PS.length) (hj : 0 ≤ j) :
    Calls Try.prog 21 #[.slice p1 PS.length c1, .slice p2 PS.length c2, .agg #[.int .i64 0, .int .i64 i, .int .i64 j, .int .u32 b, .slice q m c']] w (RetSt w (dropAt PS i)) := by
  obtain ⟨Z, hZ1, hZ2, hZ3⟩ := valZ_of h1
  have hB := fun o => al (o := o) (Below.refl w.heap.size w) (Nat.le_refl _)
  have hZl : Hid (Z.length = PS.length) := by have := hZ2.len; rw [List.length_map] at this; exact this
  obtain ⟨n, hnn⟩ : ∃ n, n = PS.length := ⟨_, rfl⟩
  have bn : n ≤ 9223372036854775807 := by omega
  rw [← hnn] at h1 h2 hZ2 hn hi ⊢
  have HNN := Lib.hid hnn
  have H1 := Lib.hid h1; have H2 := Lib.hid h2; have HS := Lib.hid hs; have HZ1 := Lib.hid hZ1; have HZ2 := Lib.hid hZ2; have HZ3 := Lib.hid hZ3; have HB := Lib.hid hB
  obtain ⟨W, hW⟩ : ∃ W, W = w.alloc (.cells #[.int .i64 0, .int .i64 i, .int .i64 j, .int .u32 b, .slice q m c'] 49) := ⟨_, rfl⟩
  have HBW : Hid (Below w.heap.size w W) := by show Below _ _ _; rw [hW]; exact hB _
  have x1 : W.heap[w.heap.size]? = some (.cells #[.int .i64 0, .int .i64 i, .int .i64 j, .int .u32 b, .slice q m c'] 49 (0, 0)) := by rw [hW]; exact hnew rfl
  have s0 : W.cell? ⟨w.heap.size, 0, none⟩ = some (.int .i64 0) := cell_of_row _ _ 0 _ _ _ x1
  have s1 : W.cell? ⟨w.heap.size, 1, none⟩ = some (.int .i64 i) := cell_of_row _ _ 1 _ _ _ x1
  have s2 : W.cell? ⟨w.heap.size, 2, none⟩ = some (.int .i64 j) := cell_of_row _ _ 2 _ _ _ x1
  have X1 := Lib.hid x1
  clear h1 h2 hs hZ1 hZ2 hZ3 hB hnn x1
  have i1 : (i : Int) < (n : Int) := by omega
  go_enter Try.func21, Try.ntmps21
  go_wp2_with fail
  rw [← hW]
  refine Calls.mono (without_any p1 p2 n c1 c2 i (Z.map (·.1)) (PS.map (·.2)) W (HZ2.out.keep HBW.out) (H2.out.keep HBW.out) HZ3.out.slices (by omega) hi) ?_
  rintro e w1 hR
  have HST : Hid (RetSt w (dropAt PS i) e w1) := (RetT.st (Z := dropAt Z i) hR (fun z hz => HZ3.out.keep HBW.out z ((dropAt_sub _ _).subset hz)) (by rw [dropAt_map]) (by rw [dropAt_map, dropAt_map, HZ1.out]) (by rw [dropAt_map])).below HBW.out
  obtain ⟨L, q1, d1, q2, d2, -, rfl, -⟩ := HST.out
  clear hR
  go_wp2
  go_ret2
  exact HST.out
set_option maxRecDepth 100000 in
set_option maxHeartbeats 4000000 in
theorem Step5_any (p1 p2 q : Option Addr) (c1 c2 m c' k9 : Nat) (i j : Int) (b : Int) (PS : List Pack) (bs : List UInt8) (w : World) (h1 : Sl2 w p1 PS.length c1 (PS.map (·.1))) (h2 : Sl I64 w p2 PS.length c2 (PS.map (·.2))) (hs : Sl B8 w q m c' bs) (hn : PS.length < 4096) (hj : 0 ≤ j) :
    Calls Try.prog 21 #[.slice p1 PS.length c1, .slice p2 PS.length c2, .agg #[.int .i64 5, .int .i64 i, .int .i64 j, .int .u32 b, .slice q m c']] w (RetSt w (PS ++ [(bs, -1)])) := by
  obtain ⟨Z, hZ1, hZ2, hZ3⟩ := valZ_of h1
  have hB := fun o => al (o := o) (Below.refl w.heap.size w) (Nat.le_refl _)
  have hZl : Hid (Z.length = PS.length) := by have := hZ2.len; rw [List.length_map] at this; exact this
  obtain ⟨n, hnn⟩ : ∃ n, n = PS.length := ⟨_, rfl⟩
  have bn : n ≤ 9223372036854775807 := by omega
  rw [← hnn] at h1 h2 hZ2 hn ⊢
  have HNN := Lib.hid hnn
  have H1 := Lib.hid h1; have H2 := Lib.hid h2; have HS := Lib.hid hs; have HZ1 := Lib.hid hZ1; have HZ2 := Lib.hid hZ2; have HZ3 := Lib.hid hZ3; have HB := Lib.hid hB
  obtain ⟨W, hW⟩ : ∃ W, W = w.alloc (.cells #[.int .i64 5, .int .i64 i, .int .i64 j, .int .u32 b, .slice q m c'] 49) := ⟨_, rfl⟩
  have HBW : Hid (Below w.heap.size w W) := by show Below _ _ _; rw [hW]; exact hB _
  have x1 : W.heap[w.heap.size]? = some (.cells #[.int .i64 5, .int .i64 i, .int .i64 j, .int .u32 b, .slice q m c'] 49 (0, 0)) := by rw [hW]; exact hnew rfl
  have s0 : W.cell? ⟨w.heap.size, 0, none⟩ = some (.int .i64 5) := cell_of_row _ _ 0 _ _ _ x1
  have s1 : W.cell? ⟨w.heap.size, 1, none⟩ = some (.int .i64 i) := cell_of_row _ _ 1 _ _ _ x1
  have s2 : W.cell? ⟨w.heap.size, 2, none⟩ = some (.int .i64 j) := cell_of_row _ _ 2 _ _ _ x1
  have X1 := Lib.hid x1
  clear h1 h2 hs hZ1 hZ2 hZ3 hB hnn x1
  have i1 : (n : Int) < 4096 := by omega
  have hml : Hid (bs.length = m) := HS.out.len
  go_enter Try.func21, Try.ntmps21
  go_wp2_with fail
  rw [← hW]
  refine Calls.mono (put_any p1 p2 q n c1 c2 m c' n (-1) (Z.map (·.1)) (PS.map (·.2)) W (HZ2.out.keep HBW.out) (H2.out.keep HBW.out) HZ3.out.slices (by omega)) ?_
  rintro e w1 hR
  have pa : ∀ {α : Type} (xs : List α) (x : α), xs.length = n → putAt xs (min n n) x = xs ++ [x] := fun xs x h => by unfold putAt; rw [Nat.min_self, List.take_of_length_le (by omega), List.drop_eq_nil_of_le (by omega)]
  have HST : Hid (RetSt w (PS ++ [(bs, -1)]) e w1) := (RetT.st (Z := Z ++ [(.slice q m c', bs)]) hR (fun z hz => by
      rcases List.mem_append.1 hz with hz | hz
      · exact HZ3.out.keep HBW.out z hz
      · simp at hz; subst hz; exact ⟨q, c', by rw [hml.out], by rw [hml.out]; exact HS.out.keep HBW.out⟩) (by rw [pa _ _ (by rw [List.length_map, hZl.out, HNN.out])]; simp) (by rw [List.map_append, List.map_append, HZ1.out]; rfl) (by rw [pa _ _ (by rw [List.length_map, HNN.out])]; simp)).below HBW.out
  obtain ⟨L, q1, d1, q2, d2, -, rfl, -⟩ := HST.out
  clear hR
  go_wp2
  go_ret2
  exact HST.out
set_option maxRecDepth 100000 in
set_option maxHeartbeats 4000000 in
theorem Step1_any (p1 p2 q : Option Addr) (c1 c2 m c' i : Nat) (j : Int) (b : Int) (PS : List Pack) (bs : List UInt8) (w : World) (h1 : Sl2 w p1 PS.length c1 (PS.map (·.1))) (h2 : Sl I64 w p2 PS.length c2 (PS.map (·.2))) (hs : Sl B8 w q m c' bs) (hn : PS.length < 4096) (hi : i < PS.length) (hj : 0 ≤ j) (pk : Pack) (hpk0 : PS[i]? = some pk) :
    Calls Try.prog 21 #[.slice p1 PS.length c1, .slice p2 PS.length c2, .agg #[.int .i64 1, .int .i64 i, .int .i64 j, .int .u32 b, .slice q m c']] w (RetSt w (PS ++ [pk])) := by
  obtain ⟨Z, hZ1, hZ2, hZ3⟩ := valZ_of h1
  have hB := fun o => al (o := o) (Below.refl w.heap.size w) (Nat.le_refl _)
  have hZl : Hid (Z.length = PS.length) := by have := hZ2.len; rw [List.length_map] at this; exact this
  obtain ⟨n, hnn⟩ : ∃ n, n = PS.length := ⟨_, rfl⟩
  have bn : n ≤ 9223372036854775807 := by omega
  rw [← hnn] at h1 h2 hZ2 hn ⊢
  have HNN := Lib.hid hnn
  have H1 := Lib.hid h1; have H2 := Lib.hid h2; have HS := Lib.hid hs; have HZ1 := Lib.hid hZ1; have HZ2 := Lib.hid hZ2; have HZ3 := Lib.hid hZ3; have HB := Lib.hid hB
  obtain ⟨W, hW⟩ : ∃ W, W = w.alloc (.cells #[.int .i64 1, .int .i64 i, .int .i64 j, .int .u32 b, .slice q m c'] 49) := ⟨_, rfl⟩
  have HBW : Hid (Below w.heap.size w W) := by show Below _ _ _; rw [hW]; exact hB _
  have x1 : W.heap[w.heap.size]? = some (.cells #[.int .i64 1, .int .i64 i, .int .i64 j, .int .u32 b, .slice q m c'] 49 (0, 0)) := by rw [hW]; exact hnew rfl
  have s0 : W.cell? ⟨w.heap.size, 0, none⟩ = some (.int .i64 1) := cell_of_row _ _ 0 _ _ _ x1
  have s1 : W.cell? ⟨w.heap.size, 1, none⟩ = some (.int .i64 i) := cell_of_row _ _ 1 _ _ _ x1
  have s2 : W.cell? ⟨w.heap.size, 2, none⟩ = some (.int .i64 j) := cell_of_row _ _ 2 _ _ _ x1
  have X1 := Lib.hid x1
  clear h1 h2 hs hZ1 hZ2 hZ3 hB hnn x1
  have hi' : i < n := by rw [HNN.out]; exact hi
  clear hi
  have hi := hi'
  clear hi'
  have hil : i < Z.length := by rw [hZl.out, ← HNN.out]; exact hi
  obtain ⟨z, hz⟩ : ∃ z, Z[i]? = some z := ⟨_, List.getElem?_eq_getElem hil⟩
  have hpk := hpk0
  clear hpk0
  have hzp : z.2 = pk.1 := by
    have := congrArg (fun l => l[i]?) HZ1.out
    simp only [List.getElem?_map, hz, hpk] at this
    simpa using this
  obtain ⟨qz, cz, ez, hsz⟩ := HZ3.out z (List.mem_of_getElem? hz)
  obtain ⟨b1, o1, v1, rfl, hc1, hx1⟩ := HZ2.out.at i hi
  obtain ⟨b2, o2, y2, rfl, hc2, hx2⟩ := H2.out.at i hi
  have hv1 : v1 = .slice qz z.2.length cz := by
    have := hx1.out; rw [List.getElem?_map, hz] at this
    rw [← ez]; simpa using this.symm
  have hy2 : y2 = pk.2 := by have := hx2.out; rw [List.getElem?_map, hpk] at this; simpa using this.symm
  subst hv1; subst hy2
  have t1 : W.cell? ⟨b1, o1 + i, none⟩ = some (.slice qz z.2.length cz) := (HBW.out.cell (p := ⟨b1, o1 + i, none⟩) (lt_of_cell hc1)).trans hc1
  have t2 : W.cell? ⟨b2, o2 + i, none⟩ = some (.int .i64 pk.2) := (HBW.out.cell (p := ⟨b2, o2 + i, none⟩) (lt_of_cell hc2)).trans hc2
  have HSZ := Lib.hid hsz
  have i1 : (i : Int) < (n : Int) := by omega
  have HZI := Lib.hid hz; have HPK := Lib.hid hpk; have HZP := Lib.hid hzp; have HEZ := Lib.hid ez
  clear hc1 hc2 hsz hz hpk hzp ez
  have i2 : (n : Int) < 4096 := by omega
  obtain ⟨lz, hlz⟩ : ∃ lz, lz = z.2.length := ⟨_, rfl⟩
  rw [← hlz] at t1
  have HLZ := Lib.hid hlz
  clear hlz
  have pa : Hid (∀ {α : Type} (xs : List α) (x : α), xs.length = n → putAt xs (min n n) x = xs ++ [x]) := fun xs x h => by unfold putAt; rw [Nat.min_self, List.take_of_length_le (by omega), List.drop_eq_nil_of_le (by omega)]
  have hZW := Lib.hid (HZ3.out.keep HBW.out)
  have FIN : Hid (∀ W' e w1, Below W.heap.size W W' → RetT W' (putAt (Z.map (·.1)) (min n n) (.slice qz lz cz)) (putAt (PS.map (·.2)) (min n n) pk.2) e w1 → RetSt W' (PS ++ [pk]) e w1) := fun W' e w1 hb hR =>
    RetT.st (Z := Z ++ [z]) hR (fun y hy => by
      rcases List.mem_append.1 hy with hy | hy
      · exact hZW.out.keep hb y hy
      · simp at hy; subst hy; exact hZW.out.keep hb _ (List.mem_of_getElem? HZI.out)) (by rw [pa.out _ _ (by rw [List.length_map, hZl.out, HNN.out]), HLZ.out]; simp [HEZ.out]) (by rw [List.map_append, List.map_append, HZ1.out]; simp [HZP.out]) (by rw [pa.out _ _ (by rw [List.length_map, HNN.out])]; simp)
  go_enter Try.func21, Try.ntmps21
  go_wp2_with fail
  rw [← hW]
  clear hW
  refine wp_region_shapes (fun ix => ([.val (.slice (some ⟨b1, o1, none⟩) n c1), .val (.slice (some ⟨b2, o2, none⟩) n c2), .val (.slice (some ⟨b1, o1, none⟩) n c1), .val (.int .i64 n), .val (.slice (some ⟨b1, o1, none⟩) n c1), .val (.pointer (some ⟨w.heap.size, 1, none⟩)), .val (.int .i64 i), .val (.pointer (some ⟨b1, o1 + i, none⟩)), .val (.slice qz lz cz), .val (.slice (some ⟨b2, o2, none⟩) n c2), .val (.pointer (some ⟨w.heap.size, 1, none⟩)), .val (.int .i64 i), .val (.pointer (some ⟨b2, o2 + i, none⟩)), .val (.int .i64 pk.2), ShpT (PS ++ [pk]), .rows ((PS ++ [pk]).map (·.1)), ShpI ((PS ++ [pk]).map (·.2)), .rows ((PS ++ [pk]).map (·.1)), ShpI ((PS ++ [pk]).map (·.2))][ix]?).getD (.any)) 218 rfl (by kernel_rfl) (by decide) (by decide) (by decide) ?_ ?_
  · refine ⟨?_, ?_, ?_, ?_, ?_, ?_, ?_, ?_, ?_, ?_, ?_, ?_, ?_, ?_, ?_, ?_, ?_, ?_, ?_, trivial⟩
    · intro a W hb0 hs hp hi; have hb := undrew hb0; clear hb0
      have t0 : sl a 0 = .slice (some ⟨b1, o1, none⟩) n c1 := hi 0 (by decide)
      exact ite_y rfl (wp_val (sl a 0) rfl ⟨_, rfl, Below.refl _ _, t0⟩)
    · intro a W hb0 hs hp hi; have hb := undrew hb0; clear hb0
      have t1 : sl a 1 = .slice (some ⟨b2, o2, none⟩) n c2 := hi 1 (by decide)
      exact ite_y rfl (wp_val (sl a 1) rfl ⟨_, rfl, Below.refl _ _, t1⟩)
    · intro a W hb0 hs hp hi; have hb := undrew hb0; clear hb0
      have t0 : sl a 0 = .slice (some ⟨b1, o1, none⟩) n c1 := hi 0 (by decide)
      exact ite_y rfl (wp_val (sl a 0) rfl ⟨_, rfl, Below.refl _ _, t0⟩)
    · intro a W hb0 hs hp hi; have hb := undrew hb0; clear hb0
      have t58 : sl a 58 = .slice (some ⟨b1, o1, none⟩) n c1 := hp 2 (by decide)
      refine ite_y rfl (wp_val (.int .i64 n) ?_ ?_)
      · simp only [execOp, resolve, List.map_toArray, List.map, eval_tmp, eval_func, eval_const, t58]; simp [go_sem]
      · exact ⟨_, rfl, Below.refl _ _, rfl⟩
    · intro a W hb0 hs hp hi; have hb := undrew hb0; clear hb0
      have t0 : sl a 0 = .slice (some ⟨b1, o1, none⟩) n c1 := hi 0 (by decide)
      exact ite_y rfl (wp_val (sl a 0) rfl ⟨_, rfl, Below.refl _ _, t0⟩)
    · intro a W hb0 hs hp hi; have hb := undrew hb0; clear hb0
      have t5 : sl a 5 = .pointer (some ⟨w.heap.size, 0, none⟩) := hi 5 (by decide)
      refine ite_y rfl (wp_val (.pointer (some ⟨w.heap.size, 1, none⟩)) ?_ ?_)
      · simp only [execOp, eval_tmp, eval_const, t5]; simp [go_sem]
      · exact ⟨_, rfl, Below.refl _ _, rfl⟩
    · intro a W hb0 hs hp hi; have hb := undrew hb0; clear hb0
      have tt : sl a 61 = .pointer (some ⟨w.heap.size, 1, none⟩) := hp 5 (by decide)
      have dd := (hb.cell (p := ⟨w.heap.size, 1, none⟩) (lt_of_cell s1)).trans s1
      refine ite_y rfl (wp_val (.int .i64 i) ?_ ?_)
      · simp only [execOp, eval_tmp, tt]; simp [go_sem, dd]
      · exact ⟨_, rfl, Below.refl _ _, rfl⟩
    · intro a W hb0 hs hp hi; have hb := undrew hb0; clear hb0
      have ta : sl a 60 = .slice (some ⟨b1, o1, none⟩) n c1 := hp 4 (by decide)
      have ti : sl a 62 = .int .i64 i := hp 6 (by decide)
      refine ite_y rfl (wp_val (.pointer (some ⟨b1, o1 + i, none⟩)) ?_ ?_)
      · simp only [execOp, eval_tmp, ta, ti]; simp [go_sem, i1]
      · exact ⟨_, rfl, Below.refl _ _, rfl⟩
    · intro a W hb0 hs hp hi; have hb := undrew hb0; clear hb0
      have tt : sl a 63 = .pointer (some ⟨b1, o1 + i, none⟩) := hp 7 (by decide)
      have dd := (hb.cell (p := ⟨b1, o1 + i, none⟩) (lt_of_cell t1)).trans t1
      refine ite_y rfl (wp_val (.slice qz lz cz) ?_ ?_)
      · simp only [execOp, eval_tmp, tt]; simp [go_sem, dd]
      · exact ⟨_, rfl, Below.refl _ _, rfl⟩
    · intro a W hb0 hs hp hi; have hb := undrew hb0; clear hb0
      have t1 : sl a 1 = .slice (some ⟨b2, o2, none⟩) n c2 := hi 1 (by decide)
      exact ite_y rfl (wp_val (sl a 1) rfl ⟨_, rfl, Below.refl _ _, t1⟩)
    · intro a W hb0 hs hp hi; have hb := undrew hb0; clear hb0
      have t5 : sl a 5 = .pointer (some ⟨w.heap.size, 0, none⟩) := hi 5 (by decide)
      refine ite_y rfl (wp_val (.pointer (some ⟨w.heap.size, 1, none⟩)) ?_ ?_)
      · simp only [execOp, eval_tmp, eval_const, t5]; simp [go_sem]
      · exact ⟨_, rfl, Below.refl _ _, rfl⟩
    · intro a W hb0 hs hp hi; have hb := undrew hb0; clear hb0
      have tt : sl a 66 = .pointer (some ⟨w.heap.size, 1, none⟩) := hp 10 (by decide)
      have dd := (hb.cell (p := ⟨w.heap.size, 1, none⟩) (lt_of_cell s1)).trans s1
      refine ite_y rfl (wp_val (.int .i64 i) ?_ ?_)
      · simp only [execOp, eval_tmp, tt]; simp [go_sem, dd]
      · exact ⟨_, rfl, Below.refl _ _, rfl⟩
    · intro a W hb0 hs hp hi; have hb := undrew hb0; clear hb0
      have ta : sl a 65 = .slice (some ⟨b2, o2, none⟩) n c2 := hp 9 (by decide)
      have ti : sl a 67 = .int .i64 i := hp 11 (by decide)
      refine ite_y rfl (wp_val (.pointer (some ⟨b2, o2 + i, none⟩)) ?_ ?_)
      · simp only [execOp, eval_tmp, ta, ti]; simp [go_sem, i1]
      · exact ⟨_, rfl, Below.refl _ _, rfl⟩
    · intro a W hb0 hs hp hi; have hb := undrew hb0; clear hb0
      have tt : sl a 68 = .pointer (some ⟨b2, o2 + i, none⟩) := hp 12 (by decide)
      have dd := (hb.cell (p := ⟨b2, o2 + i, none⟩) (lt_of_cell t2)).trans t2
      refine ite_y rfl (wp_val (.int .i64 pk.2) ?_ ?_)
      · simp only [execOp, eval_tmp, tt]; simp [go_sem, dd]
      · exact ⟨_, rfl, Below.refl _ _, rfl⟩
    · intro a W hb0 hs hp hi; have hb := undrew hb0; clear hb0
      have t56 : sl a 56 = .slice (some ⟨b1, o1, none⟩) n c1 := hp 0 (by decide)
      have t57 : sl a 57 = .slice (some ⟨b2, o2, none⟩) n c2 := hp 1 (by decide)
      have t59 : sl a 59 = .int .i64 n := hp 3 (by decide)
      have t64 : sl a 64 = .slice qz lz cz := hp 8 (by decide)
      have t69 : sl a 69 = .int .i64 pk.2 := hp 13 (by decide)
      refine ite_y rfl (wp_enter 34 #[.slice (some ⟨b1, o1, none⟩) n c1, .slice (some ⟨b2, o2, none⟩) n c2, .int .i64 n, .slice qz lz cz, .int .i64 pk.2] ?_ (put_any (some ⟨b1, o1, none⟩) (some ⟨b2, o2, none⟩) qz n c1 c2 lz cz n pk.2 (Z.map (·.1)) (PS.map (·.2)) _ ((HZ2.out.keep HBW.out).keep hb) ((H2.out.keep HBW.out).keep hb) HZ3.out.slices (by omega)) ?_)
      · simp only [execOp, resolve, List.map_toArray, List.map, eval_tmp, eval_func, eval_const, t56, t57, t59, t64, t69]; simp [go_sem]
      · rintro e W' hR; obtain ⟨L', q1', d1', q2', d2', hL', rfl, s1', s2', hw⟩ := FIN.out W e W' hb hR; exact ⟨_, rfl, _, rfl, hw, L', q1', d1', q2', d2', hL', rfl, s1', s2'⟩
    · intro a W hb0 hs hp hi; have hb := undrew hb0; clear hb0
      have tt : (ShpT (PS ++ [pk])).ok (sl a 70) W := hp 14 (by decide)
      obtain ⟨L', q1', d1', q2', d2', hL', et, s1', s2'⟩ := tt
      refine ite_y rfl (wp_val (.slice q1' L' d1') ?_ ?_)
      · simp only [execOp, eval_tmp, et]; rfl
      · exact ⟨_, rfl, Below.refl _ _, q1', L', d1', rfl, s1'⟩
    · intro a W hb0 hs hp hi; have hb := undrew hb0; clear hb0
      have tt : (ShpT (PS ++ [pk])).ok (sl a 70) W := hp 14 (by decide)
      obtain ⟨L', q1', d1', q2', d2', hL', et, s1', s2'⟩ := tt
      refine ite_y rfl (wp_val (.slice q2' L' d2') ?_ ?_)
      · simp only [execOp, eval_tmp, et]; rfl
      · exact ⟨_, rfl, Below.refl _ _, q2', L', d2', rfl, s2'⟩
    · intro a W hb0 hs hp hi; have hb := undrew hb0; clear hb0
      exact ite_y rfl (wp_val (sl a 71) rfl ⟨_, rfl, Below.refl _ _, hp 15 (by decide)⟩)
    · intro a W hb0 hs hp hi; have hb := undrew hb0; clear hb0
      exact ite_y rfl (wp_val (sl a 72) rfl ⟨_, rfl, Below.refl _ _, hp 16 (by decide)⟩)
  · intro a w9 hb hs hd hI ht
    have ha := act_is [56, 57, 58, 59, 60, 61, 62, 63, 64, 65, 66, 67, 68, 69, 70, 71, 72, 6, 7] hs hd ht (by decide)
    have y6 : (Shp.rows ((PS ++ [pk]).map (·.1))).ok (sl a 6) w9 := hI 17 (by decide)
    obtain ⟨p6, n6, k6, t6, z6⟩ := y6
    have y7 : (ShpI ((PS ++ [pk]).map (·.2))).ok (sl a 7) w9 := hI 18 (by decide)
    obtain ⟨p7, n7, k7, t7, z7⟩ := y7
    simp only [List.foldl, t6, t7] at ha
    generalize sl a 56 = u56 at ha
    generalize sl a 57 = u57 at ha
    generalize sl a 58 = u58 at ha
    generalize sl a 59 = u59 at ha
    generalize sl a 60 = u60 at ha
    generalize sl a 61 = u61 at ha
    generalize sl a 62 = u62 at ha
    generalize sl a 63 = u63 at ha
    generalize sl a 64 = u64 at ha
    generalize sl a 65 = u65 at ha
    generalize sl a 66 = u66 at ha
    generalize sl a 67 = u67 at ha
    generalize sl a 68 = u68 at ha
    generalize sl a 69 = u69 at ha
    generalize sl a 70 = u70 at ha
    generalize sl a 71 = u71 at ha
    generalize sl a 72 = u72 at ha
    simp only [Act.put, List.setIfInBounds_toArray, List.set_cons_zero, List.set_cons_succ] at ha
    rw [ha]; clear ha
    have e67 : n7 = n6 := by have g1 := z6.len; have g2 := z7.len; rw [List.length_map] at g1 g2; omega
    subst e67
    have HST : Hid (RetSt w (PS ++ [pk]) (.returned (.tuple #[.slice p6 n7 k6, .slice p7 n7 k7])) w9) := ⟨n7, p6, k6, p7, k7, by have g1 := z6.len; rw [List.length_map] at g1; exact g1.symm, rfl, z6, z7, HBW.out.trans (hb.mono HBW.out.size)⟩
    clear z6 z7 hI
    go_wp2
    go_ret2
    exact HST.out
end Go.Proofs.Ytlfcijpkdhdmeaa
