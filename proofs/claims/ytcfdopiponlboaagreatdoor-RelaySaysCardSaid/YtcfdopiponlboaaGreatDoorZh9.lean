/- Chapter 21: relay.Say of what says something. What is written is read again; the numbers of the law's examples. Chapter 21: what a turn of a sender, a taker, a relay leaves as it is; sender.Explicit. Chapter 21: the law's awake. What the laws of the packets ask first: few bytes, small plans. The contracts of the document's sum: Put, Sum (bit by bit). The document's packets as written (of what fits, told by bytes): chapters 13, 14, 15. Of a plan that may not be there is no gate, no taker, no relay; a plan that may be as numbers. A region that draws its order, by shapes, by what holds of the world as operations run, and by ties between slots. Two slices of headers, each grown by one in a region that draws its order. -/
import Derived.Test.YtcfdopiponlboaaGreatDoorZh8
namespace Go.By
open Go.RowKit
theorem noByte2 {g : Option Addr} {nx : Int} : ∀ (j : Nat) (x : UInt8), #[Value.pointer g, .int .u64 nx][j]? ≠ some (B8 x) := by
  intro j x h
  match j with
  | 0 => simp at h
  | 1 => simp at h
  | j + 2 => simp at h
theorem noOwn : ∀ b, Value.ownBlock (.slice none 0 0) = some b → Value.ownBlock (.slice none 0 0) ≠ some b := by
  intro b hb; cases hb
theorem news_one {w : World} {g T : Nat} {v : Value} {fr : Nat × Nat} (h : w.heap[g]? = some (.cells #[v] T fr)) : ∀ (j : Nat) (u : Value), [v][j]? = some u → w.cell? ((⟨g, 0, none⟩ : Addr).add j) = some u := by
  intro j u hj
  cases j with
  | zero =>
    simp at hj; subst hj
    rw [Addr.add_lit, cell_of_row _ _ _ _ _ _ h]; rfl
  | succ j => simp at hj
theorem ones_one {q : Option Addr} {n c : Nat} : ∀ u, u ∈ [Value.slice q n c] → u.oneCell' = true := by
  intro u hu; simp at hu; subst hu; rfl
/-- a slice of headers, made by the call, of slices that read in an elder world -/
def Hdr (T : TypeId) (w1 : World) (base : Nat) (w : World) (v : Value) (i : Nat) (xss : List (List UInt8)) : Prop :=
  ∃ vs, w.ownsRow base T 1 v i vs ∧ xss.length = i ∧ ∀ (j : Nat) (u : Value), vs[j]? = some u → ∃ q m c xs, u = .slice q m c ∧ xss[j]? = some xs ∧ Sl B8 w1 q m c xs
theorem Hdr.shape {T base i : Nat} {w1 w : World} {v : Value} {xss : List (List UInt8)} (h : Hdr T w1 base w v i xss) : ∃ q c, v = .slice q i c := by
  obtain ⟨vs, o, _⟩ := h; exact owns_shape o
theorem Hdr.nil (T base : Nat) (w1 w : World) : Hdr T w1 base w (.slice none 0 0) 0 [] := ⟨[], World.ownsRow_nil _ _ _ _, rfl, fun j u h => by simp at h⟩
theorem Hdr.push {T base i : Nat} {w1 w : World} {v : Value} {xss : List (List UInt8)} {vs : List Value} {q : Option Addr} {m c : Nat} {xs : List UInt8} (ho : w.ownsRow base T 1 v (i + 1) (vs ++ [.slice q m c])) (hl : xss.length = i) (hv : vs.length = i) (h : ∀ (j : Nat) (u : Value), vs[j]? = some u → ∃ q m c xs, u = .slice q m c ∧ xss[j]? = some xs ∧ Sl B8 w1 q m c xs) (hs : Sl B8 w1 q m c xs) : Hdr T w1 base w v (i + 1) (xss ++ [xs]) := by
  refine ⟨_, ho, by simp [hl], fun j u hj => ?_⟩
  rcases Nat.lt_trichotomy j i with h1 | h1 | h1
  · rw [List.getElem?_append_left (by omega)] at hj
    obtain ⟨q', m', c', xs', e, hx, hs'⟩ := h j u hj
    exact ⟨q', m', c', xs', e, by rw [List.getElem?_append_left (by omega)]; exact hx, hs'⟩
  · subst h1
    rw [List.getElem?_append_right (by omega), hv, Nat.sub_self] at hj
    simp at hj
    exact ⟨q, m, c, xs, hj.symm, by rw [List.getElem?_append_right (by omega), hl, Nat.sub_self]; rfl, hs⟩
  · rw [List.getElem?_eq_none (by simp [hv]; omega)] at hj; cases hj
theorem Hdr.sl2 {T base i : Nat} {w1 w : World} {q : Option Addr} {c : Nat} {xss : List (List UInt8)} (h : Hdr T w1 base w (.slice q i c) i xss) (hb : Below w1.heap.size w1 w) : Sl2 w q i c xss := by
  obtain ⟨vs, o, hl, hr⟩ := h
  have hc := owns_cap o
  have hvl : vs.length = i := owns_len o
  refine ⟨hl, hc.1, hc.2, fun hp => ?_, fun j xs hj => ?_⟩
  · rcases o.2 with ⟨h2, rfl⟩ | ⟨g, cap, cur, hv, _⟩
    · simp at h2; exact ⟨rfl, h2.2⟩
    · rw [hp] at hv; cases hv
  · have hji : j < i := by rw [← hl]; exact (List.getElem?_eq_some_iff.1 hj).1
    obtain ⟨q', m', c', xs', e, hx, hs⟩ := hr j vs[j] (List.getElem?_eq_getElem (by omega))
    rw [hj] at hx; cases hx
    obtain ⟨g, rfl, _, _⟩ := owns_at o (by omega)
    refine ⟨g, 0, q', c', rfl, ?_, ?_⟩
    · rw [Nat.zero_add, o.cellAt j (by omega), List.getElem?_eq_getElem (by omega), e, hs.len]
    · rw [hs.len]; exact hs.keep hb
theorem map_take_snoc {α β : Type} (f : α → β) {K : List α} {i : Nat} {k : α} (h : K[i]? = some k) : (K.take (i + 1)).map f = (K.take i).map f ++ [f k] := by
  obtain ⟨hi, h⟩ := List.getElem?_eq_some_iff.1 h
  rw [List.take_succ_eq_append_getElem hi, List.map_append, h]; rfl
/-- the second of two slices stays, where the first one grew -/
theorem Hdr.kept {T base i : Nat} {w1 w w' : World} {v : Value} {row : Option Nat} {xss : List (List UInt8)} (h : Hdr T w1 base w v i xss) (hg : w.grownBy w' row) (hne : ∀ b, v.ownBlock = some b → row ≠ some b) : Hdr T w1 base w' v i xss := by
  obtain ⟨vs, o, hl, hr⟩ := h
  refine ⟨vs, o.kept hg ?_, hl, hr⟩
  cases hv : v.ownBlock with
  | none => simp
  | some b => have := hne b hv; simp; intro e; exact this e.symm
end Go.By
namespace Go.Proofs.YtcfdopiponlboaaGreatDoor
open Go.RowKit Go.By Go.Maps
theorem field_gate (L t k D : Nat) (M : Value) (w : World) : (Instr.field 88 (GVal L t k D M) 0).run Tryz.prog w = .ok (PVal L t k D) w := by
  simp [Instr.field, go_sem, asAgg, Tryz.underlying88, Tryz.underlying24]
def PkS (T B : Nat) (D nx : Nat) (qd : Option Addr) (td cd : Nat) (V : List UInt8) (v : Value) (w : World) : Prop := ∃ q n c, v = PkVal 0 D nx 0 q n c 0 qd td cd ∧ Fresh T B w q n c V
def ShPkS (T B : Nat) (D nx : Nat) (qd : Option Addr) (td cd : Nat) (V : List UInt8) : Shp := ⟨PkS T B D nx qd td cd V, fun _ _ _ ⟨q, n, c, e, h⟩ hb => ⟨q, n, c, e, h.keep hb⟩⟩
set_option maxRecDepth 100000 in
set_option maxHeartbeats 8000000 in
theorem YSay_ok (base gr gt be L t k D N nx : Nat) (M v : Value) (C : DataW Unit) (K : List Rw) (st : Nat) (p : Option Addr) (n c : Nat) (draw : List UInt8) (w : World) (h : Rly w base gr gt be L t k D N nx M v C K st) (hs : Sl B8 w p n c draw) (hT : HalfT w) (hk0 : K.length ≠ 0) (hnx : nx < 4294967296) (hn : n = K.length) :
    Calls Tryz.prog 12 #[.pointer (some ⟨gr, 0, none⟩), .slice p n c] w fun e w' => ∃ q n' c', e = .returned (.tuple #[.slice q n' c', .int .i64 0]) ∧ Sl B8 w' q n' c' (pktB 0 D nx (combS draw (K.map (·.1))).1 0 (combS draw (K.map (·.2))).1) ∧ Rly w' base gr gt be L t k D N (nx + 1) M v C K st ∧ GChg w gr w' := by
  have HR := Lib.hid (fun w (h : Tkr w base gt be L t k D N M v C K st) => TRows_any base gt be L t k D N M v C K st w h)
  have HGt := Lib.hid (fun w (h : Tkr w base gt be L t k D N M v C K st) => TGate_any base gt be L t k D N M v C K st w h)
  have hM : M.oneCell' = true := by rcases h.tk.cnt.at_ with ⟨rfl, _⟩ | ⟨b, rfl, _⟩ <;> rfl
  have hf1 : ∀ xs, xs ∈ K.map (·.1) → xs.length = k := fun xs hx => by obtain ⟨r, hr, rfl⟩ := List.mem_map.1 hx; exact (h.tk.red.kept.rows r hr).1.1
  have hf2 : ∀ xs, xs ∈ K.map (·.2) → xs.length = t := fun xs hx => by obtain ⟨r, hr, rfl⟩ := List.mem_map.1 hx; exact (h.tk.red.kept.rows r hr).1.2
  obtain ⟨hv0, hvl⟩ := combS_fit (V := draw) (k := K.length) (by omega) (by rw [hs.len, hn]) (by simp) hf1
  obtain ⟨hd0, hdl⟩ := combS_fit (V := draw) (k := K.length) (by omega) (by rw [hs.len, hn]) (by simp) hf2
  have hk2' := h.tk.ok.k2
  have ht2' := h.tk.ok.t2
  have HC1 : Hid (∀ w p n c q m d, Sl B8 w p n c draw → Sl2 w q m d (K.map (·.1)) → Calls Tryz.prog 36 #[.slice p n c, .slice q m d] w (SRet w (combS draw (K.map (·.1))).1 0)) := fun w p n c q m d h1 h2 => by
    refine Calls.mono (Comb_any p q n m c d _ _ w h1 h2 (fun xs hx => by rw [hf1 xs hx]; show k ≤ _; omega)) ?_
    intro e w' he
    rw [hv0] at he
    exact SRet.of he
  have HC2 : Hid (∀ w p n c q m d, Sl B8 w p n c draw → Sl2 w q m d (K.map (·.2)) → Calls Tryz.prog 36 #[.slice p n c, .slice q m d] w (SRet w (combS draw (K.map (·.2))).1 0)) := fun w p n c q m d h1 h2 => by
    refine Calls.mono (Comb_any p q n m c d _ _ w h1 h2 (fun xs hx => by rw [hf2 xs hx]; show t ≤ _; omega)) ?_
    intro e w' he
    rw [hd0] at he
    exact SRet.of he
  obtain ⟨V, hV⟩ : ∃ V, (combS draw (K.map (·.1))).1 = V := ⟨_, rfl⟩
  obtain ⟨Y, hY⟩ : ∃ Y, (combS draw (K.map (·.2))).1 = Y := ⟨_, rfl⟩
  rw [hV] at hvl HC1 ⊢
  rw [hY] at hdl HC2 ⊢
  have hOK := h.tk.ok
  have HWr : Hid (∀ w q j c qd td cd, j = k → td = t → Sl B8 w q j c V → Sl B8 w qd td cd Y → HalfT w → Calls Tryz.prog 39 #[PkVal 0 D nx 0 q j c 0 qd td cd, PVal L t k D] w (SRet w (pktB 0 D nx V 0 Y) 0)) := fun w q j c qd td cd ej et h1 h2 hT => by
    subst ej et
    exact PWrite_ok L _ _ D nx 0 q j c 0 qd cd V Y w hOK hnx rfl (fun _ => rfl) (by show j ≤ _; omega) h1 h2 hT
  obtain ⟨O, hO⟩ : ∃ O, pktB 0 D nx V 0 Y = O := ⟨_, rfl⟩
  rw [hO] at HWr ⊢
  have HVL := Lib.hid hvl
  have HDL := Lib.hid hdl
  have hnx1 : IntKind.u64.wrap ((nx : Int) + 1) = ((nx + 1 : Nat) : Int) := by rw [IntKind.wrap_u64]; omega
  have hnx2 : IntKind.u32.wrap (nx : Int) = (nx : Int) := by rw [IntKind.wrap_u32]; omega
  have HRk : Hid (Room k) := by show k ≤ 140737488355328; omega
  clear hf1 hf2 hv0 hvl hd0 hdl hV hY hO hOK hk2' ht2'
  have hl := Red.le h.tk.red
  have hk2 := h.tk.ok.k2
  have H := Lib.hid h
  have HS := Lib.hid hs
  have HT := Lib.hid hT
  obtain ⟨c0, c1⟩ := cells2 h.box
  have hbx := h.box
  clear h hs hT
  have e0 : (((K.length : Nat) : Int) == 0) = false := beq_eq_false_iff_ne.2 (by omega)
  have e1 : ((nx : Int) == 4294967296) = false := beq_eq_false_iff_ne.2 (by omega)
  subst hn
  obtain ⟨i0, hi0, hz0, hz1, hz2⟩ := info_parts info_bytesC
  go_enter Tryz.func12, Tryz.ntmps12
  go_wp2_with fail
  refine Calls.mono (HR.out _ H.out.tk) ?_
  rintro e w1 ⟨v', rfl, hr, hb⟩
  obtain ⟨q, cq, rfl⟩ := hr.shape
  have HB := Lib.hid hb
  have HW := Lib.hid hr
  have k1 := (hb.block _ (lt_of_block hbx)).trans hbx
  clear hb hr c0 c1
  obtain ⟨c0, c1⟩ := cells2 k1
  go_wp2
  go_loopw [7, 8, 42] (fun va vb vi wr => ∃ i : Nat, i ≤ K.length ∧ vi = .int .i64 (i : Nat) ∧ Hid (Hdr 36 w1 w1.heap.size wr va i ((K.take i).map (·.1))) ∧ Hid (Hdr 36 w1 w1.heap.size wr vb i ((K.take i).map (·.2))) ∧ Hid (∀ b, va.ownBlock = some b → vb.ownBlock ≠ some b) ∧ Hid (Below w1.heap.size w1 wr)) (fun _ _ vi _ => K.length - (intOf vi).toNat)
  case atStart => exact ⟨0, Nat.zero_le _, rfl, Hdr.nil _ _ _ _, Hdr.nil _ _ _ _, noOwn, Below.refl _ _⟩
  case round =>
    obtain ⟨i, hi, rfl, RA, RB, RN, RW⟩ := hrel
    obtain ⟨qa, ca, rfl⟩ := RA.out.shape
    obtain ⟨qb, cb, rfl⟩ := RB.out.shape
    by_cases hlt : i < K.length
    · obtain ⟨g, kx, q1, m1, d1, q2, m2, d2, rfl, f1, f2, hkx, s1, s2⟩ := HW.out.at hlt
      have x1 := (RW.out.cell (p := ⟨g, i * 2, none⟩) (lt_of_cell f1)).trans f1
      have x2 := (RW.out.cell (p := ⟨g, i * 2 + 1, none⟩) (lt_of_cell f2)).trans f2
      have S1 := Lib.hid s1
      have S2 := Lib.hid s2
      obtain ⟨vsA, oA, lA, rA⟩ := RA.out
      have OA := Lib.hid oA
      have RAA := Lib.hid rA
      clear s1 s2 f1 f2 oA rA RA
      have hKl := hl
      go_wp2_with (first | (at_builtin; refine wpList_append_where _ rfl _ _ 25 rfl w1.heap.size 36 i0 (.slice none 0 0) 1 24 Tryz.underlying25 hi0 hz0 hz1 hz2 rfl (by decide) (.slice qa i ca) i vsA rfl (owns_keep OA.out (al (al (Below.refl _ _) (Nat.le_refl _)) (by simp))) ⟨wr.heap.size + 1, 0, none⟩ 1 1 [.slice q1 m1 d1] rfl rfl (news_one (hnew (by simp))) ones_one (by unfold maxLen; omega) (by omega) (by have := RW.out.size; simp; omega) (by decide) ?_) | fail)
      intro vA wA hoA hgA hwA
      have hRs := RW.out.size
      have lA' : vsA.length = i := owns_len OA.out
      have bA : ∀ b, Value.ownBlock (.slice qa i ca) = some b → w1.heap.size ≤ b ∧ b < wr.heap.size := fun b hb => OA.out.lt b hb
      have bB : ∀ b, Value.ownBlock (.slice qb i cb) = some b → w1.heap.size ≤ b ∧ b < wr.heap.size := fun b hb => by obtain ⟨_, o, _⟩ := RB.out; exact o.lt b hb
      have bx : wA.heap[wr.heap.size]? = some (.cells #[.slice q1 m1 d1, .slice q2 m2 d2] 47 (0, 0)) := (hgA.block _ (by simp; omega) (fun e => by have := (bA _ e.symm).2; omega)).trans (hal (hnew rfl))
      have RA2 : Hid (Hdr 36 w1 w1.heap.size wA vA (i + 1) ((K.take (i + 1)).map (·.1))) := by
        rw [map_take_snoc (·.1) hkx.out]
        exact Hdr.push hoA lA lA' RAA.out S1.out
      have RB2 : Hid (Hdr 36 w1 w1.heap.size wA (.slice qb i cb) i ((K.take i).map (·.2))) := by
        refine Hdr.kept (w := (wr.alloc _).alloc _) ?_ hgA (fun b hb e => RN.out b e hb)
        obtain ⟨vsB, o, l2, r2⟩ := RB.out
        exact ⟨vsB, owns_keep o (al (al (Below.refl _ _) (Nat.le_refl _)) (by simp)), l2, r2⟩
      have RW2 : Hid (Below w1.heap.size w1 wA) := Below.grown (al (al RW.out RW.out.size) (by simp; omega)) hgA (by simp; omega) (fun r hr => (bA r hr).1)
      have RN2 : Hid (∀ b, vA.ownBlock = some b → Value.ownBlock (.slice qb i cb) ≠ some b) := by
        intro b hb e
        rcases hwA with h | h
        · rw [h] at hb; exact RN.out b hb e
        · rw [h] at hb; have := (bB b e).2; simp at hb; omega
      have hsA : wr.heap.size < wA.heap.size := lt_of_block bx
      obtain ⟨z0, z1⟩ := cells2 bx
      obtain ⟨vsB, oB, lB, rB⟩ := RB2.out
      obtain ⟨qa2, ca2, rfl⟩ := RA2.out.shape
      have OB := Lib.hid oB
      have RBB := Lib.hid rB
      have BB : Hid (∀ b, Value.ownBlock (.slice qb i cb) = some b → w1.heap.size ≤ b ∧ b < wA.heap.size) := fun b hb => oB.lt b hb
      have BA : Hid (∀ b, Value.ownBlock (.slice qa2 (i + 1) ca2) = some b → b < wA.heap.size) := fun b hb => by obtain ⟨_, o, _⟩ := RA2.out; exact (o.lt b hb).2
      clear hoA hgA hwA bx oB rB RB2 RB bA bB OA RAA RN x1 x2 lA lA'
      go_wp2_with (first | (at_builtin; refine wpList_append_where _ rfl _ _ 25 rfl w1.heap.size 36 i0 (.slice none 0 0) 1 24 Tryz.underlying25 hi0 hz0 hz1 hz2 rfl (by decide) (.slice qb i cb) i vsB rfl (owns_keep OB.out (al (Below.refl _ _) (Nat.le_refl _))) ⟨wA.heap.size, 0, none⟩ 1 1 [.slice q2 m2 d2] rfl rfl (news_one (hnew rfl)) ones_one (by unfold maxLen; omega) (by omega) (by have := RW2.out.size; simp; omega) (by decide) ?_) | fail)
      intro vB wB hoB hgB hwB
      have lB' : vsB.length = i := owns_len OB.out
      have RB3 : Hid (Hdr 36 w1 w1.heap.size wB vB (i + 1) ((K.take (i + 1)).map (·.2))) := by
        rw [map_take_snoc (·.2) hkx.out]
        exact Hdr.push hoB lB lB' RBB.out S2.out
      have RA3 : Hid (Hdr 36 w1 w1.heap.size wB (.slice qa2 (i + 1) ca2) (i + 1) ((K.take (i + 1)).map (·.1))) := by
        refine Hdr.kept (w := wA.alloc _) ?_ hgB (fun b hb e => RN2.out b hb e)
        obtain ⟨vs3, o, l2, r2⟩ := RA2.out
        exact ⟨vs3, owns_keep o (al (Below.refl _ _) (Nat.le_refl _)), l2, r2⟩
      have RW3 : Hid (Below w1.heap.size w1 wB) := Below.grown (al RW2.out RW2.out.size) hgB (by have := RW2.out.size; simp; omega) (fun r hr => (BB.out r hr).1)
      have RN3 : Hid (∀ b, Value.ownBlock (.slice qa2 (i + 1) ca2) = some b → vB.ownBlock ≠ some b) := by
        intro b hb e
        rcases hwB with h | h
        · rw [h] at e; exact RN2.out b hb e
        · rw [h] at e; have := BA.out b hb; simp at e; omega
      clear hoB hgB hwB lB lB' RBB OB BB BA RA2 RN2 RW2 z0 z1
      go_wp2
      go_roundw
      case rel => exact ⟨i + 1, by omega, by go_num, RA3.out, RB3.out, RN3.out, RW3.out⟩
      case measure => simp [intOf]; omega
    · have hiK : i = K.length := by omega
      subst hiK
      rw [List.take_length] at RA RB
      have SA := Lib.hid (RA.out.sl2 RW.out)
      have SB := Lib.hid (RB.out.sl2 RW.out)
      have B2 := Lib.hid (bl HB.out RW.out HB.out.size)
      have k2 := (RW.out.block _ (lt_of_block k1)).trans k1
      clear RA RB RN RW HW k1 c0 c1
      go_wp2_with fail
      refine Calls.mono (HC1.out _ _ _ _ _ _ _ (HS.out.keep B2.out) SA.out) ?_
      rintro e w3 ⟨qv, nv, cv, rfl, hv, hb⟩
      have hnv : nv = k := by rw [← hv.len]; exact HVL.out
      have B3 := Lib.hid (bl B2.out hb B2.out.size)
      have SB3 := Lib.hid (SB.out.keep hb)
      have ZV := Lib.hid hv
      have k3 := (hb.block _ (lt_of_block k2)).trans k2
      have HNV := Lib.hid hnv
      clear hb hv k2 SA SB hnv
      go_wp2_with fail
      refine Calls.mono (HC2.out _ _ _ _ _ _ _ (HS.out.keep B3.out) SB3.out) ?_
      rintro e w4 ⟨qd, td, cd, rfl, hd, hb⟩
      have htd : td = t := by rw [← hd.len]; exact HDL.out
      have B4 := Lib.hid (bl B3.out hb B3.out.size)
      have ZV4 := Lib.hid (ZV.out.keep hb)
      have ZD := Lib.hid hd
      have k4 := (hb.block _ (lt_of_block k3)).trans k3
      have HTD := Lib.hid htd
      clear hb hd k3 SB3 ZV htd
      obtain ⟨c0, c1⟩ := cells2 k4
      go_wp2_with fail
      refine Calls.mono (HGt.out _ (H.out.tk.keep B4.out)) ?_
      rintro e w5 ⟨rfl, hb⟩
      have B5 := Lib.hid (bl B4.out hb B4.out.size)
      have ZV5 := Lib.hid (ZV4.out.keep hb)
      have ZD5 := Lib.hid (ZD.out.keep hb)
      have k5 := (hb.block _ (lt_of_block k4)).trans k4
      clear hb k4 ZV4 ZD c0 c1
      have hfd := field_gate L t k D M
      go_wp2_with fail
      clear hfd
      have B6 := Lib.hid (al (o := .cells #[.int .i64 (L : Nat), .int .i64 (t : Nat), .int .i64 (k : Nat), .int .u32 (D : Nat)] 24 (0, 0)) B5.out B5.out.size)
      have ba := al (o := .cells #[.int .i64 (L : Nat), .int .i64 (t : Nat), .int .i64 (k : Nat), .int .u32 (D : Nat)] 24 (0, 0)) (Below.refl w5.heap.size w5) (Nat.le_refl _)
      have ZV6 := Lib.hid (ZV5.out.keep ba)
      have ZD6 := Lib.hid (ZD5.out.keep ba)
      have k6 := (ba.block _ (lt_of_block k5)).trans k5
      have p6 : (w5.alloc (.cells #[.int .i64 (L : Nat), .int .i64 (t : Nat), .int .i64 (k : Nat), .int .u32 (D : Nat)] 24 (0, 0))).heap[w5.heap.size]? = some (.cells #[.int .i64 (L : Nat), .int .i64 (t : Nat), .int .i64 (k : Nat), .int .u32 (D : Nat)] 24 (0, 0)) := hnew rfl
      clear ba k5 ZV5 ZD5
      obtain ⟨g14, hg14⟩ : ∃ g, g = w5.heap.size := ⟨_, rfl⟩
      rw [← hg14] at p6 ⊢
      clear hg14
      generalize w5.alloc (.cells #[.int .i64 (L : Nat), .int .i64 (t : Nat), .int .i64 (k : Nat), .int .u32 (D : Nat)] 24 (0, 0)) = w6 at *
      obtain ⟨c0, c1⟩ := cells2 k6
      obtain ⟨d0, d1, d2, d3⟩ := cells_four p6
      refine wp_region_tail (fun ix => ([.val (.pointer (some ⟨g14, 3, none⟩)), .val (.int .u32 (D : Nat)), .val (.pointer (some ⟨gr, 0, none⟩)), .val (.pointer (some ⟨gr, 0, none⟩)), .val (.pointer (some ⟨gr, 1, none⟩)), .val (.int .u64 (nx : Nat)), .val (.int .u32 (nx : Nat)), (.val (HVal 0 D nx)), .val (.slice qv nv cv), (ShRdV 5 w6.heap.size 0 0 V), .val (.slice qd td cd), (ShPkS 5 w6.heap.size D nx qd td cd V), (ShNew 72 w6.heap.size #[.int .u8 0, .int .u32 0, .int .u32 0, .int .u8 0, .slice none 0 0, .int .u64 0, .slice none 0 0]), .any][ix]?).getD (.any)) 110 13 rfl (by kernel_rfl) (by decide) (by decide) (by decide) (by decide) ?_ ?_
      · refine ⟨?_, ?_, ?_, ?_, ?_, ?_, ?_, ?_, ?_, ?_, ?_, ?_, ?_, trivial⟩
        · intro a W hb0 hs hp hi; have hb := undrew hb0; clear hb0
          have t14 : sl a 14 = .pointer (some ⟨g14, 0, none⟩) := hi 14 (by decide)
          refine ite_y rfl (wp_val (.pointer (some ⟨g14, 3, none⟩)) ?_ ?_)
          · simp only [execOp, eval_tmp, eval_const, t14]; simp [go_sem]
          · exact ⟨_, rfl, Below.refl _ _, rfl⟩
        · intro a W hb0 hs hp hi; have hb := undrew hb0; clear hb0
          have tt : sl a 81 = .pointer (some ⟨g14, 3, none⟩) := hp 0 (by decide)
          have dd := (hb.cell (p := ⟨g14, 3, none⟩) (lt_of_cell d3)).trans d3
          refine ite_y rfl (wp_val (.int .u32 (D : Nat)) ?_ ?_)
          · simp only [execOp, eval_tmp, tt]; simp [go_sem, dd]
          · exact ⟨_, rfl, Below.refl _ _, rfl⟩
        · intro a W hb0 hs hp hi; have hb := undrew hb0; clear hb0
          have t0 : sl a 0 = .pointer (some ⟨gr, 0, none⟩) := hi 0 (by decide)
          exact ite_y rfl (wp_val (sl a 0) rfl ⟨_, rfl, Below.refl _ _, t0⟩)
        · intro a W hb0 hs hp hi; have hb := undrew hb0; clear hb0
          have tt : sl a 83 = .pointer (some ⟨gr, 0, none⟩) := hp 2 (by decide)
          refine ite_y rfl (wp_val (.pointer (some ⟨gr, 0, none⟩)) ?_ ?_)
          · simp only [execOp, eval_tmp, tt]; simp [go_sem]
          · exact ⟨_, rfl, Below.refl _ _, rfl⟩
        · intro a W hb0 hs hp hi; have hb := undrew hb0; clear hb0
          have t84 : sl a 84 = .pointer (some ⟨gr, 0, none⟩) := hp 3 (by decide)
          refine ite_y rfl (wp_val (.pointer (some ⟨gr, 1, none⟩)) ?_ ?_)
          · simp only [execOp, eval_tmp, eval_const, t84]; simp [go_sem]
          · exact ⟨_, rfl, Below.refl _ _, rfl⟩
        · intro a W hb0 hs hp hi; have hb := undrew hb0; clear hb0
          have tt : sl a 85 = .pointer (some ⟨gr, 1, none⟩) := hp 4 (by decide)
          have dd := (hb.cell (p := ⟨gr, 1, none⟩) (lt_of_cell c1)).trans c1
          refine ite_y rfl (wp_val (.int .u64 (nx : Nat)) ?_ ?_)
          · simp only [execOp, eval_tmp, tt]; simp [go_sem, dd]
          · exact ⟨_, rfl, Below.refl _ _, rfl⟩
        · intro a W hb0 hs hp hi; have hb := undrew hb0; clear hb0
          have tt : sl a 86 = .int .u64 (nx : Nat) := hp 5 (by decide)
          refine ite_y rfl (wp_val (.int .u32 (nx : Nat)) ?_ ?_)
          · simp only [execOp, eval_tmp, tt]; simp [go_sem, Tryz.underlying35, Tryz.underlying22, hnx2]
          · exact ⟨_, rfl, Below.refl _ _, rfl⟩
        · intro a W hb0 hs hp hi; have hb := undrew hb0; clear hb0
          have t82 : sl a 82 = .int .u32 (D : Nat) := hp 1 (by decide)
          have t87 : sl a 87 = .int .u32 (nx : Nat) := hp 6 (by decide)
          have v82 : a.tmps[82]?.getD undef = sl a 82 := by simp [sl]
          rw [t82] at v82
          have v87 : a.tmps[87]?.getD undef = sl a 87 := by simp [sl]
          rw [t87] at v87
          refine ite_y rfl (wp_val (HVal 0 D nx) ?_ ?_)
          · simp only [execOp, eval_tmp, eval_const, t82, t87]; simp [go_sem, v82, v87, Tryz.underlying70]
          · exact ⟨_, rfl, Below.refl _ _, rfl⟩
        · intro a W hb0 hs hp hi; have hb := undrew hb0; clear hb0
          have t11 : sl a 11 = .slice qv nv cv := hi 11 (by decide)
          exact ite_y rfl (wp_val (sl a 11) rfl ⟨_, rfl, Below.refl _ _, t11⟩)
        · intro a W hb0 hs hp hi; have hb := undrew hb0; clear hb0
          have t89 : sl a 89 = .slice qv nv cv := hp 8 (by decide)
          refine ite_y rfl (wp_enter 38 #[.slice qv nv cv] ?_ (RExplicit_any _ _ _ _ _ (ZV6.out.keep hb) (by rw [HNV.out]; exact HRk.out)) ?_)
          · simp only [execOp, resolve, List.map_toArray, List.map, eval_tmp, eval_func, eval_const, t89]; simp [go_sem]
          · rintro e W' ⟨q5, g5, rfl, o5, hw⟩; exact ⟨_, rfl, _, rfl, hw, q5, _, g5, rfl, o5.mono hb.size⟩
        · intro a W hb0 hs hp hi; have hb := undrew hb0; clear hb0
          have t13 : sl a 13 = .slice qd td cd := hi 13 (by decide)
          exact ite_y rfl (wp_val (sl a 13) rfl ⟨_, rfl, Below.refl _ _, t13⟩)
        · intro a W hb0 hs hp hi; have hb := undrew hb0; clear hb0
          have t88 : sl a 88 = HVal 0 D nx := hp 7 (by decide)
          have t90 : RdV 5 w6.heap.size 0 0 V (sl a 90) W := hp 9 (by decide)
          have t91 : sl a 91 = .slice qd td cd := hp 10 (by decide)
          obtain ⟨q5, n5, g5, t90, z90⟩ := t90
          have v88 : a.tmps[88]?.getD undef = sl a 88 := by simp [sl]
          rw [t88] at v88
          have v90 : a.tmps[90]?.getD undef = sl a 90 := by simp [sl]
          rw [t90] at v90
          have v91 : a.tmps[91]?.getD undef = sl a 91 := by simp [sl]
          rw [t91] at v91
          refine ite_y rfl (wp_val (PkVal 0 D nx 0 q5 n5 g5 0 qd td cd) ?_ ?_)
          · simp only [execOp, eval_tmp, t88, t90, t91]; simp [go_sem, v88, v90, v91, Tryz.underlying70, Tryz.underlying67, Tryz.underlying72]
          · exact ⟨_, rfl, Below.refl _ _, q5, n5, g5, rfl, z90⟩
        · intro a W hb0 hs hp hi; have hb := undrew hb0; clear hb0
          refine ite_y rfl (wp_val' (w' := W.alloc (.cells #[.int .u8 0, .int .u32 0, .int .u32 0, .int .u8 0, .slice none 0 0, .int .u64 0, .slice none 0 0] 72)) (.pointer (some ⟨W.heap.size, 0, none⟩)) ?_ ?_)
          · simp only [execOp]; simp [go_sem]
          · exact ⟨_, rfl, al (Below.refl _ _) (Nat.le_refl _), _, rfl, hb.size, hnew rfl⟩
      intro a w7 hb hs hd hI ht
      have ha := act_is [81, 82, 83, 84, 85, 86, 87, 88, 89, 90, 91, 92, 15] hs hd ht (by decide)
      have y92 := hI 11 (by decide)
      obtain ⟨q9, n9, k9, t92, z92⟩ := y92
      have y15 := hI 12 (by decide)
      obtain ⟨g15, t15, hg15, hh15⟩ := y15
      simp only [List.foldl, t92, t15] at ha
      generalize sl a 81 = u81 at ha
      generalize sl a 82 = u82 at ha
      generalize sl a 83 = u83 at ha
      generalize sl a 84 = u84 at ha
      generalize sl a 85 = u85 at ha
      generalize sl a 86 = u86 at ha
      generalize sl a 87 = u87 at ha
      generalize sl a 88 = u88 at ha
      generalize sl a 89 = u89 at ha
      generalize sl a 90 = u90 at ha
      generalize sl a 91 = u91 at ha
      simp only [Act.put, List.setIfInBounds_toArray, List.set_cons_zero, List.set_cons_succ] at ha
      rw [ha]; clear ha hI ht hs hd
      simp only [List.drop_succ_cons, List.drop_zero]
      have HN9 : Hid (n9 = k) := by show n9 = k; rw [← z92.sl.len]; exact HVL.out
      have B7 := bl B6.out hb B6.out.size
      have l6 := lt_of_block k6
      have l14 := lt_of_block p6
      have q2 := (hb.block _ l6).trans k6
      have q14 := (hb.block _ l14).trans p6
      have D7 := ZD6.out.keep hb
      have hl15 := hh15
      have H15 := Lib.hid hg15
      clear hb c0 c1 d0 d1 d2 d3 k6 p6
      go_wp2_with (refine wpList_store_rowS (o := ⟨none, .store 72 (.tmp 15) (.tmp 92), _, _, _, _⟩) rfl 72 (.tmp 15) (.tmp 92) rfl g15 #[.int .u8 0, .int .u32 (D : Nat), .int .u32 (nx : Nat), .int .u8 0, .slice q9 n9 k9, .int .u64 0, .slice qd td cd] rfl rfl _ _ hh15 info_packet rfl (by simp [Value.oneCell']) ?_)
      intro w8 hr8
      have HB8 : Hid (Below w.heap.size w w8) := by rw [hr8.eq]; exact below_row B7 (Nat.le_trans B6.out.size hg15)
      have k8 : w8.heap[gr]? = some (.cells #[.pointer (some ⟨gt, 0, none⟩), .int .u64 (nx : Nat)] 40 (0, 0)) := by rw [hr8.eq]; exact hro q2 (by omega)
      have p8 : w8.heap[g14]? = some (.cells #[.int .i64 (L : Nat), .int .i64 (t : Nat), .int .i64 (k : Nat), .int .u32 (D : Nat)] 24 (0, 0)) := by rw [hr8.eq]; exact hro q14 (by omega)
      have n8 : w8.heap[g15]? = some (.cells #[.int .u8 0, .int .u32 (D : Nat), .int .u32 (nx : Nat), .int .u8 0, .slice q9 n9 k9, .int .u64 0, .slice qd td cd] 72 (0, 0)) := by rw [hr8.eq]; exact hrs hh15
      have V8 : Hid (Sl B8 w8 q9 n9 k9 V) := by rw [hr8.eq]; exact (z92.row hh15 pkt_ne).sl
      have D8 : Hid (Sl B8 w8 qd td cd Y) := by
        rw [hr8.eq]
        exact sl_setRow D7 fun a ha => by
          obtain ⟨b, o, e, hlb⟩ := ZD6.out.has (by
            rcases Nat.eq_zero_or_pos td with h0 | h0
            · exfalso
              have := HTD.out; have := H.out.tk.ok.t1; omega
            · exact h0)
          rw [ha] at e; cases e
          show b ≠ g15
          omega
      have HT8 := Lib.hid (HT.out.keep HB8.out)
      clear hr8 q2 q14 D7 hh15 hl15 B7 z92 t92 t15 hg15 l6 l14
      obtain ⟨d0, d1, d2, d3⟩ := cells_four p8
      obtain ⟨f0, f1, f2, f3, f4, f5, f6⟩ := cells_seven n8
      go_wp2_with fail
      refine Calls.mono (HWr.out w8 q9 n9 k9 qd td cd HN9.out HTD.out V8.out D8.out HT8.out) ?_
      rintro e w9 ⟨qo, no, co, rfl, ho, hb⟩
      have k9' := (hb.block _ (lt_of_block k8)).trans k8
      have HB9 := Lib.hid (bl HB8.out hb HB8.out.size)
      have HO := Lib.hid ho
      obtain ⟨c0, c1⟩ := cells2 k9'
      have zz := frozen_of_row _ _ 1 _ _ k9'
      clear hb ho d0 d1 d2 d3 f0 f1 f2 f3 f4 f5 f6 k8 p8 n8
      go_wp2
      go_ret2
      have hO1 : OneE w9 gr (w9.setCell ⟨gr, 1, none⟩ (.int .u64 (nx + 1 : Nat))) := (OneE.refl w9 gr).set _
      have T9 := H.out.tk.keep HB9.out
      refine ⟨qo, no, co, rfl, sl_noByte HO.out k9' noByte2, ⟨hss k9', ⟨T9.ok, (hO1.block gt fun e => ?_).trans T9.box, T9.cnt.one hO1 k9', hO1.elm T9.elm k9' (by decide) (by decide) (by decide), T9.red, T9.old⟩, H.out.old⟩, (GChg.of gr HB9.out).set _⟩
      have := T9.box
      rw [e, k9'] at this
      cases this
end Go.Proofs.YtcfdopiponlboaaGreatDoor
namespace Go.Proofs.YtcfdopiponlboaaGreatDoor
open Go.RowKit Go.By
theorem read_write {m : UInt8} {D n s k t : Nat} {xs ys : List UInt8} (hm : modeC m = 0) (hx : m = 0 → xs.length = k) (hy : ys.length = t) (hD : D < 4294967296) (hn : n < 4294967296) :
    readC k t D (pktB m D n xs s ys) = 0 ∧ pktM (pktB m D n xs s ys) = m ∧ pktN (pktB m D n xs s ys) = n ∧ pktX k (pktB m D n xs s ys) = rdX m (srcB m xs s) ∧ pktS k (pktB m D n xs s ys) = rdS m (srcB m xs s) ∧ pktY k t (pktB m D n xs s ys) = ys := by
  have hm01 : m = 0 ∨ m = 1 := by
    unfold modeC at hm
    split at hm
    · assumption
    · cases hm
  have hS : (srcB m xs s).length = widS m k := by
    unfold srcB widS
    rcases hm01 with h | h
    · rw [if_pos h, if_pos h]; exact hx h
    · rw [if_neg (by rw [h]; decide), if_neg (by rw [h]; decide), if_pos h, put8_len]
  obtain ⟨S, hSS⟩ : ∃ S, srcB m xs s = S := ⟨_, rfl⟩
  obtain ⟨W, hW⟩ : ∃ W, widS m k = W := ⟨_, rfl⟩
  obtain ⟨c, hc⟩ : ∃ c, crcS (bodyP m D n xs s ys) = c := ⟨_, rfl⟩
  have hcl : c < 4294967296 := by rw [← hc]; exact crcS_lt _
  have hB : pktB m D n xs s ys = [1, m] ++ (put4 D ++ (put4 n ++ (S ++ (ys ++ put4 c)))) := by
    unfold pktB
    rw [hc]
    unfold bodyP headB
    rw [hSS]; simp
  have hbody : bodyP m D n xs s ys = [1, m] ++ (put4 D ++ (put4 n ++ (S ++ ys))) := by unfold bodyP headB; rw [hSS]; simp
  rw [hSS, hW] at hS
  have g0 : (pktB m D n xs s ys).getD 0 0 = 1 := by rw [hB]; rfl
  have g1 : (pktB m D n xs s ys).getD 1 0 = m := by rw [hB]; rfl
  have hlen : (pktB m D n xs s ys).length = 10 + W + t + 4 := by rw [hB]; simp [put4_len, hS, hy]; omega
  have d2 : (pktB m D n xs s ys).drop 2 = put4 D ++ (put4 n ++ (S ++ (ys ++ put4 c))) := by rw [hB]; exact List.drop_left' rfl
  have d6 : (pktB m D n xs s ys).drop 6 = put4 n ++ (S ++ (ys ++ put4 c)) := by
    rw [show (6 : Nat) = 2 + 4 from rfl, ← List.drop_drop, d2]; exact List.drop_left' (put4_len D)
  have d10 : (pktB m D n xs s ys).drop 10 = S ++ (ys ++ put4 c) := by
    rw [show (10 : Nat) = 6 + 4 from rfl, ← List.drop_drop, d6]; exact List.drop_left' (put4_len n)
  have dW : (pktB m D n xs s ys).drop (10 + W) = ys ++ put4 c := by
    rw [← List.drop_drop, d10]; exact List.drop_left' hS
  have dt : (pktB m D n xs s ys).drop (10 + W + t) = put4 c := by
    rw [← List.drop_drop, dW]; exact List.drop_left' hy
  have tk : (pktB m D n xs s ys).take (10 + W + t) = bodyP m D n xs s ys := by
    have e : pktB m D n xs s ys = bodyP m D n xs s ys ++ put4 c := by unfold pktB; rw [hc]
    rw [e]
    exact List.take_left' (by rw [hbody]; simp [put4_len, hS, hy]; omega)
  have t2 : ((pktB m D n xs s ys).drop 2).take 4 = put4 D := by rw [d2]; exact List.take_left' (put4_len D)
  have t6 : ((pktB m D n xs s ys).drop 6).take 4 = put4 n := by rw [d6]; exact List.take_left' (put4_len n)
  have t10 : ((pktB m D n xs s ys).drop 10).take W = S := by rw [d10]; exact List.take_left' hS
  have tW : ((pktB m D n xs s ys).drop (10 + W)).take t = ys := by rw [dW]; exact List.take_left' hy
  have tc : ((pktB m D n xs s ys).drop (10 + W + t)).take 4 = put4 c := by rw [dt]; exact List.take_of_length_le (Nat.le_of_eq (put4_len c))
  refine ⟨?_, g1, ?_, ?_, ?_, ?_⟩
  · have hh : headC (pktB m D n xs s ys) = 0 := by
      unfold headC
      rw [if_neg (by rw [hlen]; omega), g0, g1, if_neg (by simp)]
      exact hm
    unfold readC
    rw [if_neg (by simp [hh]), g1]
    have hl : (pktB m D n xs s ys).length = lenP m k t := by unfold lenP; rw [hlen, hW]
    rw [if_neg (by simp [hl]), show (pktB m D n xs s ys).length - 4 = 10 + W + t by omega, tc, tk, hc, get4_put4 hcl, if_neg (by simp), t2, get4_put4 hD, if_neg (by simp)]
  · unfold pktN; rw [t6, get4_put4 hn]
  · unfold pktX; rw [g1, hW, t10, hSS]
  · unfold pktS; rw [g1, hW, t10, hSS]
  · unfold pktY; rw [g1, hW, tW]
theorem pok21 : POK 2 1 2 0 := ⟨by decide, by decide, by decide, by decide, by decide, by decide, by decide⟩
theorem pok11 : POK 1 1 1 0 := ⟨by decide, by decide, by decide, by decide, by decide, by decide, by decide⟩
theorem of21 : ofS 2 1 0 = .tuple #[PVal 2 1 2 0, .int .i64 0] := by
  have h : fitS 2 1 = 0 := by decide
  have h2 : needS 2 1 = 2 := by decide
  unfold ofS; rw [if_pos h, h2]; rfl
theorem of11 : ofS 1 1 0 = .tuple #[PVal 1 1 1 0, .int .i64 0] := by
  have h : fitS 1 1 = 0 := by decide
  have h2 : needS 1 1 = 1 := by decide
  unfold ofS; rw [if_pos h, h2]; rfl
theorem comb_a : (combS [2, 0] [[2], [4]]).1 = [4] := by decide
theorem comb_b : (combS [1] [[1, 0]]).1 = [1, 0] := by decide
theorem comb_c : (combS [1] [[2]]).1 = [2] := by decide
theorem comb_d : (combS [1] [[5]]).1 = [5] := by decide
theorem put_a : putK [] ([2, 0], [4]) = [([1, 0], [2])] := by decide +kernel
theorem put_b : putK [] ([1], [5]) = [([1], [5])] := by decide +kernel
end Go.Proofs.YtcfdopiponlboaaGreatDoor
namespace Go.By
open Go.RowKit Go.Maps Go.Proofs.YtcfdopiponlboaaGreatDoor
section
variable {w w' : World} {g : Nat} {old : Array Value} {T' : Nat} {fr : Nat × Nat}
theorem GChg.blk (h : GChg w g w') (hg : w.heap[g]? = some (.cells old T' fr)) {b T : Nat} {cs : Array Value} {fr2 : Nat × Nat} (hb : w.heap[b]? = some (.cells cs T fr2)) (hne : T' ≠ T) : w'.heap[b]? = some (.cells cs T fr2) := by
  refine (h.block b (lt_of_block hb) fun e => ?_).trans hb
  rw [e, hg] at hb; injection hb with hb; injection hb with _ hb _; exact hne hb
theorem GChg.cnt (h : GChg w g w') (hg : w.heap[g]? = some (.cells old T' fr)) {M : Value} {N : Nat} {C : DataW Unit} (hc : CntM w M N C) : CntM w' M N C := by
  refine ⟨?_, hc.small⟩
  rcases hc.at_ with h1 | ⟨b, e, ho⟩
  · exact .inl h1
  · refine .inr ⟨b, e, ?_⟩
    have hlt := ho.lt
    obtain ⟨es, clock, h1, F, hs, hD⟩ := ho
    exact ⟨es, clock, (h.block b hlt (fun e => by rw [e, hg] at h1; cases h1)).trans h1, F, hs, hD⟩
theorem GChg.owns (h : GChg w g w') (hg : w.heap[g]? = some (.cells old T' fr)) {base T e n : Nat} {v : Value} {L : List Value} (ho : w.ownsRow base T e v n L) (hne : T' ≠ T) : w'.ownsRow base T e v n L := by
  refine owns_same ho h.size fun g2 hg2 => ?_
  rcases ho.2 with ⟨e1, _⟩ | ⟨g', cap, cur, e1, _, hh, _⟩
  · rw [e1] at hg2; cases hg2
  · rw [e1] at hg2; cases hg2
    exact (h.blk hg hh hne).trans hh.symm
theorem GChg.elm (h : GChg w g w') (hg : w.heap[g]? = some (.cells old T' fr)) {base be k t n : Nat} {v : Value} {K : List Rw} (hE : Elm w base be k t v n K) (h1 : T' ≠ 140) (h2 : T' ≠ 47) (h3 : T' ≠ 5) : Elm w' base be k t v n K := by
  refine ⟨h.blk hg hE.box h1, ?_, hE.old⟩
  obtain ⟨vs, a, b, o, r⟩ := hE.rows
  refine ⟨vs, a, b, h.owns hg o h2, fun j u hj => ?_⟩
  obtain ⟨x, hk, ⟨q1, m1, c1, e1, l1, o1⟩, ⟨q2, m2, c2, e2, l2, o2⟩⟩ := r j u hj
  exact ⟨x, hk, ⟨q1, m1, c1, e1, l1, h.owns hg o1 h3⟩, ⟨q2, m2, c2, e2, l2, h.owns hg o2 h3⟩⟩
theorem GChg.tkr (h : GChg w g w') (hg : w.heap[g]? = some (.cells old T' fr)) {base gt be L t k D N : Nat} {M v : Value} {C : DataW Unit} {K : List Rw} {st : Nat} (hT : Tkr w base gt be L t k D N M v C K st) (h1 : T' ≠ 140) (h2 : T' ≠ 47) (h3 : T' ≠ 5) (h4 : T' ≠ 92) : Tkr w' base gt be L t k D N M v C K st :=
  ⟨hT.ok, h.blk hg hT.box h4, h.cnt hg hT.cnt, h.elm hg hT.elm h1 h2 h3, hT.red, hT.old⟩
theorem GChg.rly (h : GChg w g w') (hg : w.heap[g]? = some (.cells old T' fr)) {base gr gt be L t k D N nx : Nat} {M v : Value} {C : DataW Unit} {K : List Rw} {st : Nat} (hR : Rly w base gr gt be L t k D N nx M v C K st) (h1 : T' ≠ 140) (h2 : T' ≠ 47) (h3 : T' ≠ 5) (h4 : T' ≠ 92) (h5 : T' ≠ 40) : Rly w' base gr gt be L t k D N nx M v C K st :=
  ⟨h.blk hg hR.box h5, h.tkr hg hR.tk h1 h2 h3 h4, hR.old⟩
end
theorem TChg.blk {w w' : World} {base gt be L t k D N : Nat} {M v : Value} {C : DataW Unit} {K : List Rw} {st : Nat} (h : TChg w w' gt be v) (hT : Tkr w base gt be L t k D N M v C K st) {b T : Nat} {cs : Array Value} {fr : Nat × Nat} (hb : w.heap[b]? = some (.cells cs T fr)) (h1 : T ≠ 92) (h2 : T ≠ 140) (h3 : 47 ≠ T) : w'.heap[b]? = some (.cells cs T fr) := by
  refine (h.block b (lt_of_block hb) (fun e => ?_) (fun e => ?_) (hT.elm.rows.ne_box hb h3)).trans hb
  · have := hT.box; rw [← e, hb] at this; injection this with this; injection this with _ this _; exact h1 this
  · have := hT.elm.box; rw [← e, hb] at this; injection this with this; injection this with _ this _; exact h2 this
theorem TChg.below {w w' : World} {B base gt be L t k D N : Nat} {M v : Value} {C : DataW Unit} {K : List Rw} {st : Nat} (h : TChg w w' gt be v) (hT : Tkr w base gt be L t k D N M v C K st) (hB : B ≤ base) (hw : B ≤ w.heap.size) : Below B w w' := by
  refine ⟨h.os, h.tape, h.output, h.size, fun i hi => h.block i (by omega) (by have := hT.old; omega) (by have := hT.elm.old; omega) (fun e => ?_)⟩
  have := (hT.elm.rows.lt _ e).1
  omega
end Go.By
namespace Go.Proofs.YtcfdopiponlboaaGreatDoor
open Go.RowKit Go.By Go.Maps
theorem Snd.keep {w w' : World} {gs L t k D nx : Nat} {xss : List (List UInt8)} (h : Snd w gs L t k D nx xss) (hb : Below w.heap.size w w') : Snd w' gs L t k D nx xss := by
  obtain ⟨q, c, h1, h2, h3⟩ := h.mem
  exact ⟨h.ok, ⟨q, c, (hb.block _ (lt_of_block h1)).trans h1, h2.keep hb, h3⟩, h.fit⟩
/-- a relay that took -/
theorem Rly.took {w w' : World} {base gr gt be L t k D N nx : Nat} {M v : Value} {C : DataW Unit} {K : List Rw} {st : Nat} (h : Rly w base gr gt be L t k D N nx M v C K st) {N' : Nat} {M' v' : Value} {C' : DataW Unit} {K' : List Rw} {st' : Nat} (hT : Tkr w' base gt be L t k D N' M' v' C' K' st') (hc : TChg w w' gt be v) : Rly w' base gr gt be L t k D N' nx M' v' C' K' st' :=
  ⟨hc.blk h.tk h.box (by decide) (by decide) (by decide), hT, h.old⟩
set_option maxRecDepth 100000 in
set_option maxHeartbeats 1000000 in
theorem SExplicit_ok (gs L t k D nx : Nat) (xss : List (List UInt8)) (p : Option Addr) (n c : Nat) (xs : List UInt8) (w : World) (hS : Snd w gs L t k D nx xss) (hnx : nx < 4294967296) (hn : n = k) (h : Sl B8 w p n c xs) (hT : HalfT w) :
    Calls Tryz.prog 29 #[.pointer (some ⟨gs, 0, none⟩), .slice p n c] w (SdRet w gs L t k D xss (pktB 0 D nx xs 0 (combS xs xss).1) (nx + 1) 0) := by
  have hr : Room n := by have := hS.ok.k2; show n ≤ 140737488355328; omega
  have HE := Lib.hid (RExplicit_any p n c xs w h hr)
  have HS := Lib.hid (fun w' q c' (hb : Below w.heap.size w w') (hs : Sl B8 w' q n c' xs) => SSend_ok gs L t k D nx xss 0 q n c' 0 xs w' (hS.keep hb) hnx (by unfold srcC; rw [if_pos rfl, if_pos hn]) hs hr (hT.keep hb))
  clear hS hnx hn h hT hr
  go_enter Tryz.func29, Tryz.ntmps29
  go_wp2_with fail
  refine Calls.mono HE.out ?_
  rintro e w1 ⟨q, c', rfl, hf, hb⟩
  have HB := Lib.hid hb
  have HF := Lib.hid hf
  clear hb hf
  go_wp2_with fail
  refine Calls.mono (HS.out w1 q c' HB.out HF.out.sl) ?_
  rintro e w2 ⟨qo, no, co, rfl, ho, hsn, hg⟩
  have HO := Lib.hid ho
  have HSn := Lib.hid hsn
  have HG := Lib.hid hg
  clear ho hsn hg
  go_wp2
  go_ret2
  exact ⟨qo, no, co, rfl, HO.out, HSn.out, ⟨HG.out.os.trans HB.out.os, HG.out.tape.trans HB.out.tape, HG.out.output.trans HB.out.output, Nat.le_trans HB.out.size HG.out.size, fun b hb hne => (HG.out.block b (Nat.lt_of_lt_of_le hb HB.out.size) hne).trans (HB.out.block b hb)⟩⟩
end Go.Proofs.YtcfdopiponlboaaGreatDoor
namespace Go.Proofs.YtcfdopiponlboaaGreatDoor
open Go.RowKit Go.By Go.Maps
def pktA : List UInt8 := pktB 0 0 0 [2, 0] 0 [4]
def pktS9 : List UInt8 := pktB 0 0 9 [1, 0] 0 [2]
theorem readA : readC 2 1 0 pktA = 0 ∧ eqX 2 1 pktA = ([2, 0], [4]) := by
  obtain ⟨h1, h2, h3, h4, h5, h6⟩ := read_write (m := 0) (D := 0) (n := 0) (s := 0) (k := 2) (t := 1) (xs := [2, 0]) (ys := [4]) rfl (fun _ => rfl) rfl (by decide) (by decide)
  refine ⟨h1, ?_⟩
  unfold eqX
  rw [show pktM pktA = 0 from h2, show pktX 2 pktA = [2, 0] from h4, show pktY 2 1 pktA = [4] from h6]
  rfl
theorem takeA (st : Nat) (h : st = 0) : takeK 2 1 0 [] st pktA = [([1, 0], [2])] := by
  unfold takeK
  rw [if_pos ⟨readA.1, h⟩, readA.2, put_a]
theorem pieces24 : (List.range 2).map (pieceS [2, 4] 1) = [[2], [4]] := by decide
theorem lenA : pktA.length = 17 := by simp [pktA, pktB, bodyP, headB, srcB, put4_len]
theorem len9 : pktS9.length = 17 := by simp [pktS9, pktB, bodyP, headB, srcB, put4_len]
theorem saidA : pktB 0 0 9 (combS [1] (([([1, 0], [2])] : List Rw).map (·.1))).1 0 (combS [1] (([([1, 0], [2])] : List Rw).map (·.2))).1 = pktS9 := by
  show pktB 0 0 9 (combS [1] [[1, 0]]).1 0 (combS [1] [[2]]).1 = pktS9
  rw [comb_b, comb_c]; rfl
set_option maxRecDepth 100000 in
set_option maxHeartbeats 8000000 in
theorem awake21 (w : World) (hT : HalfT w) : Calls Tryz.prog 5 #[] w fun e w' => e = .returned (.bool true) ∧ Below w.heap.size w w' := by
  have HT := Lib.hid hT
  have HOf : Hid (∀ w, Calls Tryz.prog 17 #[.int .i64 2, .int .i64 1, .int .u32 0] w fun e w' => e = .returned (.tuple #[PVal 2 1 2 0, .int .i64 0]) ∧ Below w.heap.size w w') := fun w => by have := POf_any 2 1 0 w (by decide); rw [of21] at this; exact this
  have HRd : Hid (∀ w p n c, HalfT w → Sl B8 w p n c pktS9 → Calls Tryz.prog 22 #[PVal 2 1 2 0, .slice p n c] w (PRet w 0 0 9 [1, 0] 0 [2])) := fun w p n c hT hs => by
    have hn := hs.len
    rw [len9] at hn
    have := PRead_any 2 1 2 0 p n c pktS9 w pok21 hT hs (by rw [← hn]; show 17 ≤ 140737488355328; decide)
    obtain ⟨h1, h2, h3, h4, h5, h6⟩ := read_write (m := 0) (D := 0) (n := 9) (s := 0) (k := 2) (t := 1) (xs := [1, 0]) (ys := [2]) rfl (fun _ => rfl) rfl (by decide) (by decide)
    rw [show readC 2 1 0 pktS9 = 0 from h1, if_pos rfl, show pktM pktS9 = 0 from h2, show pktN pktS9 = 9 from h3, show pktX 2 pktS9 = [1, 0] from h4, show pktS 2 pktS9 = 0 from h5, show pktY 2 1 pktS9 = [2] from h6] at this
    exact this
  have HSm : Hid (∀ xs p1 p2 n1 n2 c1 c2 w, Sl B8 w p1 n1 c1 xs → Sl B8 w p2 n2 c2 xs → Calls Tryz.prog 15 #[.slice p1 n1 c1, .slice p2 n2 c2] w fun e w' => e = .returned (.bool true) ∧ Below w.heap.size w w') := fun xs p1 p2 n1 n2 c1 c2 w h1 h2 => by
    have := Same_any p1 p2 n1 n2 c1 c2 xs xs w h1 h2
    rw [decide_eq_true rfl] at this
    exact this
  clear hT
  go_enter Tryz.func5, Tryz.ntmps5
  go_wp2_with fail
  refine Calls.mono (HOf.out w) ?_
  rintro e w1 ⟨rfl, hb1⟩
  have HB1 := Lib.hid hb1
  clear hb1
  go_wp2_with fail
  refine Calls.mono (SNew_ok 2 1 2 0 _ 2 2 [2, 4] _ pok21 (sl_block [2, 4] 2 (hnew (by simp)) rfl rfl (by simp [maxLen])) (fun i hi => by omega) rfl) ?_
  rintro e w2 ⟨gs, rfl, hgs, hsn, hb⟩
  rw [pieces24] at hsn
  obtain ⟨hb2, kp, -, hs2⟩ := two_of hb
  have HB2 := Lib.hid (bl HB1.out hb2 HB1.out.size)
  have HSn := Lib.hid hsn
  have HGS : Hid (w.heap.size ≤ gs) := by have := HB1.out.size; show w.heap.size ≤ gs; simp at hgs; omega
  clear hb hb2 hsn hgs hs2
  obtain ⟨p0, p1, p2, p3⟩ := cells_four kp
  go_wp2_with fail
  refine Calls.mono (YNew_ok 2 1 2 0 9 _ pok21 (by decide)) ?_
  rintro e w3 ⟨gr, gt, be, v, rfl, hr, hb⟩
  have HB3 := Lib.hid (bl HB2.out hb HB2.out.size)
  have HR3 := Lib.hid hr
  have HSn3 := Lib.hid (HSn.out.keep hb)
  have kp3 := (hb.block _ (lt_of_block kp)).trans kp
  clear hb hr HSn kp p0 p1 p2 p3
  go_wp2_with fail
  have ba := al (o := .cells #[.int .u8 2, .int .u8 0] 5 (0, 0)) (Below.refl w3.heap.size w3) (Nat.le_refl _)
  have HR4 := Lib.hid (HR3.out.keep ba)
  have HSn4 := Lib.hid (HSn3.out.keep ba)
  have kp4 := (ba.block _ (lt_of_block kp3)).trans kp3
  have HB4 := Lib.hid (bl HB3.out ba HB3.out.size)
  have HX4 : Hid (Sl B8 (w3.alloc (.cells #[.int .u8 2, .int .u8 0] 5 (0, 0))) (some ⟨w3.heap.size, 0, none⟩) 2 2 [2, 0]) := sl_block [2, 0] 2 (hnew rfl) rfl rfl (by simp [maxLen])
  clear ba HR3 HSn3 kp3 HB3
  refine Calls.mono (SExplicit_ok gs 2 1 2 0 0 [[2], [4]] _ 2 2 [2, 0] _ HSn4.out (by decide) rfl HX4.out (HT.out.keep HB4.out)) ?_
  rintro e w5 ⟨ql, nl, cl, rfl, hl, hsn, hg⟩
  rw [comb_a] at hl
  obtain ⟨_, _, hbx, -⟩ := HSn4.out.mem
  have HL := Lib.hid hl
  have HR5 := Lib.hid (hg.rly hbx HR4.out (by decide) (by decide) (by decide) (by decide) (by decide))
  have kp5 := hg.blk hbx kp4 (by decide)
  have HB5 := Lib.hid (HB4.out.trans (hg.below HGS.out HB4.out.size))
  have hnl : nl = 17 := by rw [← hl.len]; exact lenA
  have HNL := Lib.hid hnl
  clear hg hbx hl hsn HR4 HSn4 kp4 HB4 HX4 hnl
  obtain ⟨r0, r1⟩ := cells2 HR5.out.box
  go_wp2_with fail
  refine Calls.mono (TTake_any _ gt be 2 1 2 0 0 (.map none) v (.map []) [] 0 ql nl cl pktA w5 HR5.out.tk (HT.out.keep HB5.out) (by decide) HL.out (by rw [HNL.out]; show 17 ≤ 140737488355328; decide)) ?_
  rintro e w6 ⟨he, M6, v6, hT6, hc6, -⟩
  rw [readA.1] at he
  subst he
  rw [takeA 0 rfl] at hT6
  have HR6 := Lib.hid (HR5.out.took hT6 hc6)
  have kp6 := hc6.blk HR5.out.tk kp5 (by decide) (by decide) (by decide)
  have HB6 := Lib.hid (HB5.out.trans (hc6.below HR5.out.tk HB2.out.size HB5.out.size))
  clear hT6 hc6 HR5 kp5 HB5 HL HNL r0 r1
  go_wp2_with fail
  have ba := al (o := .cells #[.int .u8 1] 5 (0, 0)) (Below.refl w6.heap.size w6) (Nat.le_refl _)
  have HR7 := Lib.hid (HR6.out.keep ba)
  have kp7 := (ba.block _ (lt_of_block kp6)).trans kp6
  have HB7 := Lib.hid (bl HB6.out ba HB6.out.size)
  have HX7 : Hid (Sl B8 (w6.alloc (.cells #[.int .u8 1] 5 (0, 0))) (some ⟨w6.heap.size, 0, none⟩) 1 1 [1]) := sl_block [1] 1 (hnew rfl) rfl rfl (by simp [maxLen])
  clear ba HR6 kp6 HB6
  refine Calls.mono (YSay_ok _ gr gt be 2 1 2 0 _ 9 M6 v6 _ _ _ _ 1 1 [1] _ HR7.out HX7.out (HT.out.keep HB7.out) (by decide) (by decide) rfl) ?_
  rintro e w8 ⟨qx, nx, cx, rfl, hx, hr8, hg8⟩
  rw [saidA] at hx
  have HX8 := Lib.hid hx
  have kp8 := hg8.blk HR7.out.box kp7 (by decide)
  have HB8 := Lib.hid (HB7.out.trans (hg8.below (Nat.le_trans HB2.out.size HR7.out.old) HB7.out.size))
  clear hx hr8 hg8 HR7 kp7 HB7 HX7
  obtain ⟨p0, p1, p2, p3⟩ := cells_four kp8
  go_wp2_with fail
  refine Calls.mono (HRd.out _ _ _ _ (HT.out.keep HB8.out) HX8.out) ?_
  rintro e w9 ⟨q1, n1, c1, q2, n2, c2, rfl, f1, f2, hb⟩
  have HB9 := Lib.hid (bl HB8.out hb HB8.out.size)
  have F1 := Lib.hid f1.sl
  have F2 := Lib.hid f2.sl
  clear hb f1 f2 kp8 p0 p1 p2 p3 HX8 HB8
  go_wp2_with fail
  refine Calls.mono (HSm.out [1, 0] _ _ _ _ _ _ _ (F1.out.keep (al (al (Below.refl _ _) (Nat.le_refl _)) (by simp))) (sl_block [1, 0] 2 (hnew (by simp)) rfl rfl (by simp [maxLen]))) ?_
  rintro e w10 ⟨rfl, hb⟩
  obtain ⟨hb10, k9, -, -⟩ := two_of hb
  have HB10 := Lib.hid (bl HB9.out hb10 HB9.out.size)
  have F3 := Lib.hid (F2.out.keep hb10)
  have f6 := (cells_seven k9).2.2.2.2.2.2
  clear hb hb10 k9 F1 F2 HB9
  go_wp2_with fail
  refine Calls.mono (HSm.out [2] _ _ _ _ _ _ _ (F3.out.keep (al (Below.refl _ _) (Nat.le_refl _))) (sl_block [2] 1 (hnew rfl) rfl rfl (by simp [maxLen]))) ?_
  rintro e w11 ⟨rfl, hb⟩
  have HB11 := Lib.hid (bl HB10.out (one_of hb).1 HB10.out.size)
  clear hb
  go_wp2
  go_ret
  exact ⟨rfl, HB11.out⟩
end Go.Proofs.YtcfdopiponlboaaGreatDoor
namespace Go.Proofs.YtcfdopiponlboaaGreatDoor
open Go.RowKit Go.By
set_option maxRecDepth 100000 in
set_option maxHeartbeats 1000000 in
theorem Few18_any (p : Option Addr) (m c : Nat) (xss : List (List UInt8)) (w : World) (h : Sl2 w p m c xss) :
    Calls Tryz.prog 6 #[.slice p m c] w fun e w' => e = .returned (.bool (xss.all (fun y => decide (y.length ≤ 800)) && decide (m ≤ 30))) ∧ w = w' := by
  have H := Lib.hid h
  have HL := Lib.hid h.len
  have hmb := h.bound
  obtain ⟨R, hR⟩ : ∃ R : Bool, R = (xss.all (fun y => decide (y.length ≤ 800)) && decide (m ≤ 30)) := ⟨_, rfl⟩
  rw [← hR]
  have HR := Lib.hid hR
  clear h hR
  go_enter Tryz.func6, Tryz.ntmps6
  go_wp2
  go_loop [7] (fun i => ∃ k : Nat, k ≤ m ∧ i = .int .i64 k ∧ Hid (∀ (j : Nat) (x : List UInt8), j < k → xss[j]? = some x → x.length ≤ 800)) (fun i => m - (intOf i).toNat)
  case atStart => exact ⟨0, Nat.zero_le _, rfl, fun j x hj => by omega⟩
  case round =>
    obtain ⟨k, hk, rfl, hj⟩ := hrel
    by_cases hlt : k < m
    · obtain ⟨b, o, q, mx, cx, xs, rfl, hc, hs, hx⟩ := H.out.at k hlt
      have hmx := hs.len
      have hxb := hs.bound
      by_cases e : mx ≤ 800
      · have HX := Lib.hid hmx
        clear hs hmx
        have e' : (mx : Int) ≤ 800 := by omega
        go_wp2
        go_round
        case rel => exact ⟨k + 1, by omega, by go_num, fun j x hjk hx' => by
          rcases Nat.lt_or_ge j k with h | h
          · exact hj.out j x h hx'
          · obtain rfl : j = k := by omega
            have := hx.out; rw [hx'] at this; cases this; rw [HX.out]; exact e⟩
        case measure => simp [intOf]; omega
      · have e' : (800 : Int) < (mx : Int) := by omega
        have hRf : Hid (R = false) := by
          show R = false
          rw [HR.out]
          have : xss.all (fun y => decide (y.length ≤ 800)) = false := by
            rw [List.all_eq_false]
            exact ⟨xs, List.mem_of_getElem? hx.out, by simp; omega⟩
          rw [this]; rfl
        clear hs hmx e
        go_wp2
        go_ret
        exact ⟨by rw [hRf.out]; rfl, rfl⟩
    · have hkm : k = m := by omega
      have hRt : Hid (R = decide ((m : Int) ≤ 30)) := by
        show R = _
        rw [HR.out]
        have : xss.all (fun y => decide (y.length ≤ 800)) = true := by
          rw [List.all_eq_true]
          intro x hx
          obtain ⟨i, hi, rfl⟩ := List.getElem_of_mem hx
          exact decide_eq_true (hj.out i _ (by rw [hkm, ← HL.out]; exact hi) (List.getElem?_eq_getElem hi))
        rw [this, Bool.true_and]
        by_cases h30 : m ≤ 30
        · rw [decide_eq_true h30, decide_eq_true (by omega)]
        · rw [decide_eq_false h30, decide_eq_false (by omega)]
      have hge : (m : Int) ≤ (k : Int) := by omega
      clear hkm
      go_wp2
      go_ret
      exact ⟨by rw [hRt.out]; rfl, rfl⟩
/-- a plan is gone through here: none that may be, or a small one -/
def small19 (l s n : Int) : Bool := if checkS l s n = 0 then decide (n ≤ 12) && decide (s ≤ 20) else true
set_option maxRecDepth 100000 in
set_option maxHeartbeats 1000000 in
theorem Small19_any (l s n d : Int) (w : World) (hl2 : l ≤ 9223372036854775807) :
    Calls Tryz.prog 7 #[.agg #[.int .i64 l, .int .i64 s, .int .i64 n, .int .u32 d]] w fun e w' => e = .returned (.bool (small19 l s n)) ∧ Below w.heap.size w w' := by
  have HC := Lib.hid (fun w => Check_any l s n d w hl2)
  have HS : Hid (small19 l s n = if checkS l s n = 0 then decide (n ≤ 12) && decide (s ≤ 20) else true) := rfl
  generalize small19 l s n = R at *
  generalize checkS l s n = C at *
  by_cases hc : C = 0
  · subst hc
    by_cases hn : n ≤ 12
    · by_cases hs : s ≤ 20
      · have HR : Hid (R = true) := by show _ = _; rw [HS.out, if_pos rfl, decide_eq_true hn, decide_eq_true hs]; rfl
        clear HS
        go_enter Tryz.func7, Tryz.ntmps7
        go_wp2_with fail
        refine Calls.mono (HC.out _) ?_
        rintro e w1 ⟨rfl, hb⟩
        obtain ⟨hb1, h1, hsz⟩ := one_of hb
        obtain ⟨c0, c1, c2, c3⟩ := cells_four h1
        have HB := Lib.hid hb1
        clear hb hb1
        go_wp2
        go_ret
        exact ⟨by rw [HR.out]; first | rfl | (simp only [decide_eq_true hs]; rfl), HB.out⟩
      · have hs' : ¬ s ≤ 20 := by omega
        have HR : Hid (R = false) := by show _ = _; rw [HS.out, if_pos rfl, decide_eq_true hn, decide_eq_false hs']; rfl
        clear HS
        go_enter Tryz.func7, Tryz.ntmps7
        go_wp2_with fail
        refine Calls.mono (HC.out _) ?_
        rintro e w1 ⟨rfl, hb⟩
        obtain ⟨hb1, h1, hsz⟩ := one_of hb
        obtain ⟨c0, c1, c2, c3⟩ := cells_four h1
        have HB := Lib.hid hb1
        clear hb hb1
        go_wp2
        go_ret
        exact ⟨by rw [HR.out]; first | rfl | (simp only [show decide (s ≤ 20) = false from decide_eq_false (by omega)]; rfl), HB.out⟩
    · have HR : Hid (R = false) := by show _ = _; rw [HS.out, if_pos rfl, decide_eq_false hn]; rfl
      clear HS
      go_enter Tryz.func7, Tryz.ntmps7
      go_wp2_with fail
      refine Calls.mono (HC.out _) ?_
      rintro e w1 ⟨rfl, hb⟩
      obtain ⟨hb1, h1, hsz⟩ := one_of hb
      obtain ⟨c0, c1, c2, c3⟩ := cells_four h1
      have HB := Lib.hid hb1
      clear hb hb1
      go_wp2
      go_ret
      exact ⟨by rw [HR.out]; rfl, HB.out⟩
  · have hz : (C != 0) = true := bne_iff_ne.2 hc
    have HR : Hid (R = true) := by show _ = _; rw [HS.out, if_neg hc]
    clear HS hc
    go_enter Tryz.func7, Tryz.ntmps7
    go_wp2_with fail
    refine Calls.mono (HC.out _) ?_
    rintro e w1 ⟨rfl, hb⟩
    obtain ⟨hb1, h1, hsz⟩ := one_of hb
    have HB := Lib.hid hb1
    clear hb hb1
    go_wp2
    go_ret
    exact ⟨by rw [HR.out]; rfl, HB.out⟩
end Go.Proofs.YtcfdopiponlboaaGreatDoor
namespace Go.By
theorem crcBit_lt {r : Nat} (h : r < 4294967296) : crcBit r < 4294967296 := by
  unfold crcBit
  have h2 : r / 2 < 2 ^ 32 := by omega
  split
  · exact Nat.xor_lt_two_pow h2 (by decide)
  · omega
/-- some bits shifted out -/
def crcBits : Nat → Nat → Nat
  | 0, r => r
  | j + 1, r => crcBit (crcBits j r)
theorem crcBits_lt {r : Nat} (h : r < 4294967296) : ∀ j, crcBits j r < 4294967296
  | 0 => h
  | j + 1 => crcBit_lt (crcBits_lt h j)
theorem crcBits_eight (r : Nat) (b : UInt8) : crcBits 8 (r ^^^ b.toNat) = crcByte r b := by
  rw [crc_byte]; rfl
theorem crcRun_snoc {xs : List UInt8} {k : Nat} {x : UInt8} (r : Nat) (h : xs[k]? = some x) : crcRun r (xs.take (k + 1)) = crcByte (crcRun r (xs.take k)) x := by
  rw [List.take_add_one, h, crcRun_append]; rfl
end Go.By
namespace Go.Proofs.YtcfdopiponlboaaGreatDoor
open Go.RowKit Go.By
set_option maxHeartbeats 1000000 in
theorem RPut4_any (n : Nat) (h : n < 4294967296) (w : World) :
    Calls Tryz.prog 44 #[.int .u32 (n : Int)] w fun e w' => ∃ g, e = .returned (.slice (some ⟨g, 0, none⟩) 4 4) ∧ w.heap.size ≤ g ∧ w'.heap[g]? = some (.cells ((put4 n).map B8).toArray 5 (0, 0)) ∧ Below w.heap.size w w' := by
  have e0 := put4_cells n h
  go_enter Tryz.func44, Tryz.ntmps44
  go_wp2
  rw [← e0]
  go_ret
  exact ⟨w.heap.size, rfl, Nat.le_refl _, hnew rfl, al (Below.refl _ _) (Nat.le_refl _)⟩
set_option maxRecDepth 100000 in
set_option maxHeartbeats 2000000 in
theorem RSum4_any (p : Option Addr) (n c : Nat) (xs : List UInt8) (w : World) (h : Sl B8 w p n c xs) :
    Calls Tryz.prog 45 #[.slice p n c] w fun e w' => e = .returned (.int .u32 (crcS xs : Nat)) ∧ w = w' := by
  have hb := h.bound
  have H := Lib.hid h; clear h
  go_enter Tryz.func45, Tryz.ntmps45
  go_wp2
  go_loop [3, 4] (fun r i => ∃ k v : Nat, k ≤ n ∧ i = .int .i64 k ∧ r = .int .u32 (v : Nat) ∧ Hid (v = crcRun 4294967295 (xs.take k))) (fun _ i => n - (intOf i).toNat)
  case atStart => exact ⟨0, 4294967295, Nat.zero_le _, rfl, rfl, rfl⟩
  case round =>
    obtain ⟨k, v, hk, rfl, rfl, hv⟩ := hrel
    have hv32 : v < 4294967296 := by rw [hv.out]; exact crcRun_lt (by decide)
    by_cases hlt : k < n
    · obtain ⟨b, o, x, rfl, hc, hx⟩ := H.out.at k hlt
      have hlt' : (k : Int) < (n : Int) := by omega
      have hxb := x.toNat_lt
      have e1 : bits .xor .u32 (v : Int) (x.toNat : Int) = ((v ^^^ x.toNat : Nat) : Int) := bits_xor32 hv32 (by omega)
      have hu : v ^^^ x.toNat < 4294967296 := Nat.xor_lt_two_pow hv32 (show x.toNat < 2 ^ 32 by omega)
      obtain ⟨u, hu0⟩ : ∃ u, u = v ^^^ x.toNat := ⟨_, rfl⟩
      rw [← hu0] at e1 hu
      have HU := Lib.hid hu0; clear hu0
      have e0 : IntKind.u32.wrap (x.toNat : Int) = (x.toNat : Int) := by rw [IntKind.wrap_u32]; omega
      clear hlt
      go_wp2_with (first | simp only [e1] | simp only [e0])
      go_loop [3, 5] (fun r i => ∃ j y : Nat, j ≤ 8 ∧ i = .int .i64 j ∧ r = .int .u32 (y : Nat) ∧ Hid (y = crcBits j u)) (fun _ i => 8 - (intOf i).toNat)
      case atStart => exact ⟨0, u, by omega, rfl, rfl, rfl⟩
      case round =>
        obtain ⟨j, y, hj, rfl, rfl, hy⟩ := hrel
        have hy32 : y < 4294967296 := by rw [hy.out]; exact crcBits_lt hu j
        by_cases hj8 : j < 8
        · have hj8' : (j : Int) < 8 := by omega
          by_cases hodd : y % 2 = 1
          · have hm : (y : Int) % 2 = 1 := by omega
            obtain ⟨z, hz⟩ : ∃ z, z = y / 2 ^^^ 3988292384 := ⟨_, rfl⟩
            have e2 : bits .xor .u32 ((y : Int) / 2) 3988292384 = (z : Int) := by
              rw [hz, show (y : Int) / 2 = ((y / 2 : Nat) : Int) by omega]; exact bits_xor32 (by omega) (b := 3988292384) (by decide)
            have HY : Hid (z = crcBits (j + 1) u) := by
              show _ = crcBit (crcBits j u)
              rw [← hy.out, hz]; unfold crcBit; rw [if_pos hodd]
            clear hodd hj8 hz
            go_wp2_with (first | simp only [e2] | simp only [hm])
            go_round
            case rel => exact ⟨j + 1, _, by omega, by go_num, rfl, HY.out⟩
            case measure => simp [intOf]; omega
          · have hm : (y : Int) % 2 = 0 := by omega
            have HY : Hid (y / 2 = crcBits (j + 1) u) := by
              show _ = crcBit (crcBits j u)
              rw [← hy.out]; unfold crcBit; rw [if_neg hodd]
            clear hodd hj8
            go_wp2_with (first | simp only [hm])
            go_round
            case rel => exact ⟨j + 1, _, by omega, by go_num, rfl, HY.out⟩
            case measure => simp [intOf]; omega
        · obtain rfl : j = 8 := by omega
          have HV : Hid (y = crcRun 4294967295 (xs.take (k + 1))) := by
            show _ = _
            rw [hy.out, HU.out, crcBits_eight, crcRun_snoc _ hx.out, ← hv.out]
          clear hj8
          go_wp2
          go_round
          case rel => exact ⟨k + 1, y, by omega, by go_num, rfl, HV.out⟩
          case measure => simp [intOf]; omega
    · obtain rfl : k = n := by omega
      obtain ⟨d, hdd⟩ : ∃ d, d = 4294967295 - v := ⟨_, rfl⟩
      have HE : Hid (d = crcS xs) := by
        show _ = _
        rw [hdd, hv.out, ← H.out.len, List.take_length]; rfl
      have e3 : IntKind.u32.wrap ((4294967295 : Int) - (v : Int)) = (d : Int) := by rw [IntKind.wrap_u32]; omega
      clear hlt hdd
      go_wp2_with (simp only [e3])
      go_ret
      exact ⟨by rw [HE.out]; rfl, rfl⟩
end Go.Proofs.YtcfdopiponlboaaGreatDoor
namespace Go.Proofs.YtcfdopiponlboaaGreatDoor
open Go.RowKit Go.By
/-- bytes of the call's own -/
def ORet (w : World) (N : Nat) (ys : List UInt8) (e : Ending) (w' : World) : Prop :=
  ∃ q c, e = .returned (.tuple #[.slice q N c, .int .i64 0]) ∧ w'.ownsRow w.heap.size 5 1 (.slice q N c) N (ys.map B8) ∧ Below w.heap.size w w'
set_option maxRecDepth 100000 in
set_option maxHeartbeats 2000000 in
theorem RHead_any (o n : Nat) (ho : o < 4294967296) (hn : n < 4294967296) (w : World) :
    Calls Tryz.prog 42 #[HVal 0 o n] w (ORet w 10 (headB 0 o n)) := by
  obtain ⟨i0, hi0, hz0, hz1, hz2⟩ := info_parts info_u8
  have HP := Lib.hid RPut4_any
  have HO := Lib.hid ho
  have HN := Lib.hid hn
  clear ho hn
  go_enter Tryz.func42, Tryz.ntmps42
  go_wp2_with fail
  refine Calls.mono (HP.out o HO.out _) ?_
  rintro e w1 ⟨g1, rfl, hg1, h1, hb⟩
  obtain ⟨hb1, k0, k1, hs1⟩ := two_of hb
  have HB1 := Lib.hid hb1
  have O0 : Hid (w1.ownsRow w.heap.size 5 1 (.slice (some ⟨w.heap.size + 1, 0, none⟩) 2 2) 2 [.int .u8 1, B8 0]) := by
    have := World.ownsRow_lit (base := w.heap.size) (e := 5) (size := 1) (w.alloc (.cells #[B8 0, .int .u32 (o : Nat), .int .u32 (n : Nat)] 52)) #[.int .u8 1, B8 0] 2 (by simp) (by simp [maxLen]) rfl
    have h2 := owns_keep this hb
    exact Lib.hid (by simpa using h2)
  have S1 : Hid (Sl B8 w1 (some ⟨g1, 0, none⟩) 4 4 (put4 o)) := sl_block (put4 o) 4 h1 rfl (put4_len o) (by simp [maxLen])
  obtain ⟨c0, c1, c2⟩ := cells_three k0
  clear hb hb1 h1 k1
  go_wp2_with (first | (at_builtin; refine wpList_append_rs _ rfl _ _ 36 rfl w.heap.size 5 i0 (.int .u8 0) 1 Tryz.underlying36 hi0 hz0 hz1 hz2 rfl _ 2 _ rfl O0.out B8 _ _ _ (put4 o) (fun _ _ => rfl) rfl S1.out (by simp [maxLen]) (by decide) HB1.out.size ?_) | fail)
  intro v1 w2 ho1 hg2
  obtain ⟨q1, d1, rfl⟩ := owns_shape ho1
  have OB : ∀ b, Value.ownBlock (.slice (some ⟨w.heap.size + 1, 0, none⟩) 2 2) = some b → b = w.heap.size + 1 := fun b hb => by simpa [Value.ownBlock] using hb.symm
  have HB2 : Hid (Below w.heap.size w w2) := HB1.out.grown hg2 HB1.out.size (fun r hr => by have := OB r hr; omega)
  have k2 := (hg2.block w.heap.size (lt_of_block k0) (fun e => by have := OB _ e.symm; omega)).trans k0
  have O1 := Lib.hid ho1
  obtain ⟨c0, c1, c2⟩ := cells_three k2
  clear ho1 hg2 k0 O0 S1 OB HB1
  go_wp2_with fail
  refine Calls.mono (HP.out n HN.out _) ?_
  rintro e w3 ⟨g3, rfl, hg3, h3, hb⟩
  have HB3 := Lib.hid (bl HB2.out hb HB2.out.size)
  have O2 := Lib.hid (owns_keep O1.out hb)
  have S3 : Hid (Sl B8 w3 (some ⟨g3, 0, none⟩) 4 4 (put4 n)) := sl_block (put4 n) 4 h3 rfl (put4_len n) (by simp [maxLen])
  clear hb h3 O1 k2 c0 c1 c2 HB2
  go_wp2_with (first | (at_builtin; refine wpList_append_rs _ rfl _ _ 36 rfl w.heap.size 5 i0 (.int .u8 0) 1 Tryz.underlying36 hi0 hz0 hz1 hz2 rfl _ 6 _ rfl O2.out B8 _ _ _ (put4 n) (fun _ _ => rfl) rfl S3.out (by simp [maxLen]) (by decide) HB3.out.size ?_) | fail)
  intro v2 w4 ho4 hg4
  obtain ⟨q2, d2, rfl⟩ := owns_shape ho4
  have HB4 : Hid (Below w.heap.size w w4) := HB3.out.grown hg4 HB3.out.size (fun r hr => (O2.out.lt r hr).1)
  have O4 := Lib.hid ho4
  clear ho4 hg4 O2 S3 HB3
  go_wp2
  go_ret2
  refine ⟨_, _, rfl, ?_, HB4.out⟩
  exact O4.out
theorem RWidth14_ok (k : Nat) (h1 : 1 ≤ k) (h2 : k ≤ 4096) (w : World) :
    Calls Tryz.prog 112 #[.int .u8 0, .int .i64 (k : Nat)] w fun e w' => e = .returned (.tuple #[.int .i64 (k : Nat), .int .i64 0]) ∧ w = w' := by
  have h1' : ¬ (k : Int) < 1 := by omega
  have h2' : ¬ (4096 : Int) < (k : Int) := by omega
  clear h1 h2
  go_enter Tryz.func112, Tryz.ntmps112
  go_wp2
  go_ret2
  exact ⟨rfl, rfl⟩
theorem RVector14_ok (k : Nat) (h1 : 1 ≤ k) (h2 : k ≤ 4096) (p : Option Addr) (c s : Nat) (w : World) :
    Calls Tryz.prog 83 #[.int .u8 0, .slice p k c, .int .u64 (s : Nat), .int .i64 (k : Nat)] w fun e w' => e = .returned (.tuple #[.slice p k c, .int .i64 0]) ∧ w = w' := by
  have HW := Lib.hid (fun w => RWidth14_ok k h1 h2 w)
  have hk : ((k : Int) != (k : Int)) = false := by simp
  clear h1 h2
  go_enter Tryz.func83, Tryz.ntmps83
  go_wp2_with fail
  refine Calls.mono (HW.out _) ?_
  rintro e w1 ⟨rfl, rfl⟩
  go_wp2
  go_ret2
  exact ⟨rfl, rfl⟩
theorem RWrite14_ok (k : Nat) (h1 : 1 ≤ k) (h2 : k ≤ 4096) (p : Option Addr) (c s : Nat) (w : World) :
    Calls Tryz.prog 43 #[.int .u8 0, .slice p k c, .int .u64 (s : Nat), .int .i64 (k : Nat)] w fun e w' => e = .returned (.tuple #[.slice p k c, .int .i64 0]) ∧ w = w' := by
  have HW := Lib.hid (fun w => RVector14_ok k h1 h2 p c s w)
  clear h1 h2
  go_enter Tryz.func43, Tryz.ntmps43
  go_wp2_with fail
  refine Calls.mono (HW.out _) ?_
  rintro e w1 ⟨rfl, rfl⟩
  go_wp2
  go_ret2
  exact ⟨rfl, rfl⟩
set_option maxRecDepth 100000 in
set_option maxHeartbeats 2000000 in
theorem RCheck15_ok (L t k D n : Nat) (p : Option Addr) (c s : Nat) (q : Option Addr) (d : Nat) (w : World) (hP : POK L t k D) :
    Calls Tryz.prog 41 #[PVal L t k D, PkVal 0 D n 0 p k c s q t d] w fun e w' => e = .returned (.int .i64 0) ∧ Below w.heap.size w w' := by
  have HK : Hid (∀ w, Calls Tryz.prog 9 #[PVal L t k D] w fun e w' => e = .returned (.int .i64 0) ∧ Below w.heap.size w w') := fun w => by
    have := RCheck_any (L : Int) (t : Int) (k : Int) (D : Int) w hP.l
    rw [hP.chk] at this; exact this
  have e1 : ((D : Int) != (D : Int)) = false := by simp
  have e2 : ((k : Int) != (k : Int)) = false := by simp
  have e3 : ((t : Int) != (t : Int)) = false := by simp
  clear hP
  go_enter Tryz.func41, Tryz.ntmps41
  go_wp2_with fail
  refine Calls.mono (HK.out _) ?_
  rintro e w1 ⟨rfl, hb⟩
  obtain ⟨hb1, h1, h2, hs⟩ := two_of hb
  obtain ⟨c0, c1, c2, c3⟩ := cells_four h1
  obtain ⟨d0, d1, d2, d3, d4, d5, d6⟩ := cells_seven h2
  have HB := Lib.hid hb1
  clear hb hb1 h1 h2
  go_wp2
  go_ret
  exact ⟨rfl, HB.out⟩
set_option maxRecDepth 100000 in
set_option maxHeartbeats 4000000 in
theorem RWrite15_ok (L t k D n : Nat) (p : Option Addr) (c s : Nat) (q : Option Addr) (d : Nat) (xs ys : List UInt8) (w : World) (hP : POK L t k D) (hn : n < 4294967296) (h1 : Sl B8 w p k c xs) (h2 : Sl B8 w q t d ys) :
    Calls Tryz.prog 14 #[PVal L t k D, PkVal 0 D n 0 p k c s q t d] w (SRet w (pktB 0 D n xs 0 ys) 0) := by
  obtain ⟨i0, hi0, hz0, hz1, hz2⟩ := info_parts info_u8
  have HK := Lib.hid (fun w => RCheck15_ok L t k D n p c s q d w hP)
  have HH := Lib.hid (fun w => RHead_any D n hP.d hn w)
  have HW := Lib.hid (fun w => RWrite14_ok k hP.k1 hP.k2 p c s w)
  have HSum := Lib.hid RSum4_any
  have HPut := Lib.hid RPut4_any
  have H1 := Lib.hid h1
  have H2 := Lib.hid h2
  have hk2 := hP.k2
  have ht2 := hP.t2
  clear hP h1 h2 hn
  go_enter Tryz.func14, Tryz.ntmps14
  go_wp2_with fail
  refine Calls.mono (HK.out _) ?_
  rintro e w1 ⟨rfl, hb⟩
  obtain ⟨hb1, k1, k2, hs⟩ := two_of hb
  have HB1 := Lib.hid hb1
  obtain ⟨c0, c1, c2, c3⟩ := cells_four k1
  obtain ⟨d0, d1, d2, d3, d4, d5, d6⟩ := cells_seven k2
  clear hb hb1
  go_wp2_with fail
  refine Calls.mono (HH.out _) ?_
  rintro e w2 ⟨qh, ch, rfl, oh, hb⟩
  have HB2 := Lib.hid (bl HB1.out hb HB1.out.size)
  have m1 := (hb.block _ (lt_of_block k1)).trans k1
  have m2 := (hb.block _ (lt_of_block k2)).trans k2
  have OH := Lib.hid oh
  have HZ1 := Lib.hid hs
  have HSz : Hid (w1.heap.size ≤ w2.heap.size) := hb.size
  clear hb k1 k2 c0 c1 c2 c3 d0 d1 d2 d3 d4 d5 d6 oh
  obtain ⟨c0, c1, c2, c3⟩ := cells_four m1
  obtain ⟨d0, d1, d2, d3, d4, d5, d6⟩ := cells_seven m2
  go_wp2_with fail
  refine Calls.mono (HW.out _) ?_
  rintro e w3 ⟨rfl, rfl⟩
  go_wp2_with (first | (at_builtin; refine wpList_append_rs _ rfl _ _ 36 rfl w1.heap.size 5 i0 (.int .u8 0) 1 Tryz.underlying36 hi0 hz0 hz1 hz2 rfl _ 10 _ rfl OH.out B8 _ _ _ xs (fun _ _ => rfl) rfl (H1.out.keep HB2.out) (by unfold maxLen; omega) (by omega) HSz.out ?_) | fail)
  intro v3 w3 ho3 hg3
  obtain ⟨q3, e3, rfl⟩ := owns_shape ho3
  have n2 := (hg3.block _ (lt_of_block m2) (fun e => by have := (OH.out.lt _ e.symm).1; have := HZ1.out; omega)).trans m2
  have HB3 : Hid (Below w.heap.size w w3) := HB2.out.grown hg3 HB2.out.size (fun r hr => Nat.le_trans (by have := HZ1.out; omega) (OH.out.lt r hr).1)
  have O3 : Hid (w3.ownsRow w1.heap.size 5 1 (.slice q3 (10 + k) e3) (10 + k) ((headB 0 D n ++ xs).map B8)) := by
    have := ho3; rw [← List.map_append] at this; exact this
  have HS3 : Hid (w1.heap.size ≤ w3.heap.size) := Nat.le_trans HSz.out hg3.size
  clear ho3 hg3 m1 m2 c0 c1 c2 c3 d0 d1 d2 d3 d4 d5 d6 OH HB2 HSz
  obtain ⟨d0, d1, d2, d3, d4, d5, d6⟩ := cells_seven n2
  go_wp2_with (first | (at_builtin; refine wpList_append_rs _ rfl _ _ 36 rfl w1.heap.size 5 i0 (.int .u8 0) 1 Tryz.underlying36 hi0 hz0 hz1 hz2 rfl _ (10 + k) _ rfl O3.out B8 _ _ _ ys (fun _ _ => rfl) rfl (H2.out.keep HB3.out) (by unfold maxLen; omega) (by omega) HS3.out ?_) | fail)
  intro v4 w4 ho4 hg4
  obtain ⟨q4, e4, rfl⟩ := owns_shape ho4
  have HB4 : Hid (Below w.heap.size w w4) := HB3.out.grown hg4 HB3.out.size (fun r hr => Nat.le_trans (by have := HZ1.out; omega) (O3.out.lt r hr).1)
  have O4 : Hid (w4.ownsRow w1.heap.size 5 1 (.slice q4 (10 + k + t) e4) (10 + k + t) ((bodyP 0 D n xs 0 ys).map B8)) := by
    have := ho4; rw [← List.map_append] at this; exact this
  have HS4 : Hid (w1.heap.size ≤ w4.heap.size) := Nat.le_trans HS3.out hg4.size
  clear ho4 hg4 n2 d0 d1 d2 d3 d4 d5 d6 O3 HB3 HS3
  go_wp2_with fail
  refine Calls.mono (HSum.out _ _ _ _ _ (Sl.of_owns O4.out)) ?_
  rintro e w5 ⟨rfl, rfl⟩
  go_wp2_with fail
  refine Calls.mono (HPut.out _ (crcS_lt _) _) ?_
  rintro e w6 ⟨g6, rfl, hg6, h6, hb⟩
  have HB6 := Lib.hid (bl HB4.out hb HB4.out.size)
  have O6 := Lib.hid (owns_keep O4.out hb)
  have HS6 : Hid (w1.heap.size ≤ w6.heap.size) := Nat.le_trans HS4.out hb.size
  have S6 : Hid (Sl B8 w6 (some ⟨g6, 0, none⟩) 4 4 (put4 (crcS (bodyP 0 D n xs 0 ys)))) := sl_block (put4 _) 4 h6 rfl (put4_len _) (by simp [maxLen])
  clear hb h6 hg6 O4 HB4 HS4
  go_wp2_with (first | (at_builtin; refine wpList_append_rs _ rfl _ _ 36 rfl w1.heap.size 5 i0 (.int .u8 0) 1 Tryz.underlying36 hi0 hz0 hz1 hz2 rfl _ (10 + k + t) _ rfl O6.out B8 _ _ _ (put4 (crcS (bodyP 0 D n xs 0 ys))) (fun _ _ => rfl) rfl S6.out (by unfold maxLen; omega) (by omega) HS6.out ?_) | fail)
  intro v7 w7 ho7 hg7
  obtain ⟨q7, e7, rfl⟩ := owns_shape ho7
  have HB7 : Hid (Below w.heap.size w w7) := HB6.out.grown hg7 HB6.out.size (fun r hr => Nat.le_trans (by have := HZ1.out; omega) (O6.out.lt r hr).1)
  have O7 : Hid (w7.ownsRow w1.heap.size 5 1 (.slice q7 (10 + k + t + 4) e7) (10 + k + t + 4) ((pktB 0 D n xs 0 ys).map B8)) := by
    have := ho7; rw [← List.map_append] at this; exact this
  clear ho7 hg7 O6 S6 HB6 HS6
  go_wp2
  go_ret2
  exact ⟨_, _, _, rfl, Sl.of_owns O7.out, HB7.out⟩
end Go.Proofs.YtcfdopiponlboaaGreatDoor
namespace Go.Proofs.YtcfdopiponlboaaGreatDoor
open Go.RowKit Go.By Go.Maps
theorem pok_of {l s n d : Int} (hl : l ≤ 9223372036854775807) (hc : checkS l s n = 0) (h0 : 0 ≤ d) (h1 : d < 4294967296) : ∃ L t k D : Nat, l = L ∧ s = t ∧ n = k ∧ d = D ∧ POK L t k D := by
  have hf : fitS l s = 0 ∧ n = needS l s := by
    unfold checkS at hc
    by_cases hf : fitS l s = 0
    · rw [if_pos hf] at hc
      refine ⟨hf, ?_⟩
      by_cases hn : n = needS l s
      · exact hn
      · rw [if_neg hn] at hc; omega
    · rw [if_neg hf] at hc; exact absurd hc hf
  obtain ⟨hf, hn⟩ := hf
  have hs : 0 ≤ l ∧ 1 ≤ s ∧ s ≤ 65535 ∧ needS l s ≤ 4096 := by
    unfold fitS at hf
    split at hf
    · omega
    · split at hf
      · omega
      · split at hf
        · omega
        · omega
  obtain ⟨g1, g2⟩ := needS_pos hs.1 hs.2.1
  refine ⟨l.toNat, s.toNat, n.toNat, d.toNat, by omega, by omega, by omega, by omega, ⟨?_, by omega, by omega, by omega, by omega, by omega, by omega⟩⟩
  rw [show ((l.toNat : Nat) : Int) = l by omega, show ((s.toNat : Nat) : Int) = s by omega, show ((n.toNat : Nat) : Int) = n by omega]
  exact hc
set_option maxRecDepth 100000 in
set_option maxHeartbeats 1000000 in
theorem GNew_bad (l s n d : Int) (w : World) (hl : l ≤ 9223372036854775807) (hc : checkS l s n ≠ 0) :
    Calls Tryz.prog 49 #[.agg #[.int .i64 l, .int .i64 s, .int .i64 n, .int .u32 d]] w fun e w' => e = .returned (.tuple #[.agg #[.int .i64 0, .int .i64 0, .int .i64 0, .int .u32 0, .map none], .int .i64 (checkS l s n)]) ∧ Below w.heap.size w w' := by
  have HK := Lib.hid (fun w => Check_any l s n d w hl)
  have hz : (checkS l s n != 0) = true := bne_iff_ne.2 hc
  clear hc
  generalize checkS l s n = C at *
  go_enter Tryz.func49, Tryz.ntmps49
  go_wp2_with fail
  refine Calls.mono (HK.out _) ?_
  rintro e w1 ⟨rfl, hb⟩
  obtain ⟨hb1, h1, h2, hs⟩ := two_of hb
  have HB := Lib.hid hb1
  obtain ⟨c0, c1, c2, c3⟩ := cells_four h1
  clear hb hb1
  go_wp2_with (refine wpList_store_row (o := ⟨none, .store 88 (.tmp 2) (.tmp 9), _, _, _, _⟩) rfl 88 (.tmp 2) (.tmp 9) rfl (w.heap.size + 1) #[.int .i64 0, .int .i64 0, .int .i64 0, .int .u32 0, .map none] rfl rfl _ _ h2 info_gate rfl (by simp [Value.oneCell']) ?_)
  refine bodyPost_ret (res_ct rfl _ _ _ 88 #[.int .i64 0, .int .i64 0, .int .i64 0, .int .u32 0, .map none] (0, 0) _ (.int .i64 C) rfl (hrs h2) rfl Tryz.underlying88 rfl info_gate) rfl ?_
  exact ⟨rfl, below_row HB.out (by omega)⟩
set_option maxRecDepth 100000 in
set_option maxHeartbeats 1000000 in
theorem TNew_bad (l s n d : Int) (w : World) (hl : l ≤ 9223372036854775807) (hc : checkS l s n ≠ 0) :
    Calls Tryz.prog 19 #[.agg #[.int .i64 l, .int .i64 s, .int .i64 n, .int .u32 d]] w fun e w' => e = .returned (.tuple #[.pointer none, .int .i64 (checkS l s n)]) ∧ Below w.heap.size w w' := by
  have HK := Lib.hid (fun w => GNew_bad l s n d w hl hc)
  have hz : (checkS l s n != 0) = true := bne_iff_ne.2 hc
  clear hc
  generalize checkS l s n = C at *
  go_enter Tryz.func19, Tryz.ntmps19
  go_wp2_with fail
  refine Calls.mono (HK.out _) ?_
  rintro e w1 ⟨rfl, hb⟩
  obtain ⟨hb1, h1, hs⟩ := one_of hb
  have HB := Lib.hid hb1
  clear hb hb1
  go_wp2
  go_ret2
  exact ⟨rfl, al HB.out HB.out.size⟩
set_option maxRecDepth 100000 in
set_option maxHeartbeats 1000000 in
theorem YNew_bad (l s n d first : Int) (w : World) (hl : l ≤ 9223372036854775807) (hc : checkS l s n ≠ 0) :
    Calls Tryz.prog 8 #[.agg #[.int .i64 l, .int .i64 s, .int .i64 n, .int .u32 d], .int .u32 first] w fun e w' => e = .returned (.tuple #[.pointer none, .int .i64 (checkS l s n)]) ∧ Below w.heap.size w w' := by
  have HK := Lib.hid (fun w => TNew_bad l s n d w hl hc)
  have hz : (checkS l s n != 0) = true := bne_iff_ne.2 hc
  clear hc
  generalize checkS l s n = C at *
  go_enter Tryz.func8, Tryz.ntmps8
  go_wp2_with fail
  refine Calls.mono (HK.out _) ?_
  rintro e w1 ⟨rfl, hb⟩
  obtain ⟨hb1, h1, hs⟩ := one_of hb
  have HB := Lib.hid hb1
  clear hb hb1
  go_wp2
  go_ret2
  exact ⟨rfl, HB.out⟩
end Go.Proofs.YtcfdopiponlboaaGreatDoor
namespace Go.By
open Go.RowKit
section
variable {P : Program} {ops : Array Oper} {Q : Exit → Act → World → Prop}
/-- what is to be shown of one operation -/
def StepTie (P : Program) (ops : Array Oper) (Q : Exit → Act → World → Prop) (a0 : Act) (E : (Nat → Bool) → World → Prop) (R : Nat → World → World → Prop) (sh : Nat → Value → World → Prop) (X : Nat → (Nat → Value) → Prop) (i : Nat) (o : Oper) : Prop :=
  ∀ (a : Act) (w : World) (dn : Nat → Bool), dn i = false → E dn w → a.tmps.size = a0.tmps.size → (∀ k, k ∈ preds o → InvD ops sh k (sl a) w) → (∀ k, k ∈ preds o → X k (sl a)) → (∀ t, initAt ops i t = true → sl a t = sl a0 t) →
    if Region.wanted o (yielded ops a.tmps) = true then o.wp P a w (fun a' w' => ∃ v, a' = a.put o.dst v ∧ R i w w' ∧ sh i v w' ∧ X i (sl (a.put o.dst v))) Q
    else R i w w ∧ sh i undef w ∧ X i (sl (a.put o.dst undef))
def EachTie (P : Program) (ops : Array Oper) (Q : Exit → Act → World → Prop) (a0 : Act) (E : (Nat → Bool) → World → Prop) (R : Nat → World → World → Prop) (sh : Nat → Value → World → Prop) (X : Nat → (Nat → Value) → Prop) : List Oper → Nat → Prop
  | [], _ => True
  | o :: rest, i => StepTie P ops Q a0 E R sh X i o ∧ EachTie P ops Q a0 E R sh X rest (i + 1)
def InvTie (ops : Array Oper) (sh : Nat → Value → World → Prop) (X : Nat → (Nat → Value) → Prop) (i : Nat) (σ : Nat → Value) (w : World) : Prop := InvD ops sh i σ w ∧ X i σ
theorem eachTie_of {a0 : Act} {E : (Nat → Bool) → World → Prop} {R : Nat → World → World → Prop} {sh : Nat → Value → World → Prop} {X : Nat → (Nat → Value) → Prop} {n : Nat} (hn : a0.tmps.size = n) : ∀ (l : List Oper) (k : Nat), (∀ j o, l[j]? = some o → ops[k + j]? = some o) → (l.all fun o => match o.dst with
    | some d => decide (d < n)
    | none => false) = true →
    EachTie P ops Q a0 E R sh X l k → EachDn P ops Q a0 E R (InvTie ops sh X) l k := by
  intro l
  induction l with
  | nil => intro k _ _ _; trivial
  | cons o l ih =>
    intro k hk hd h
    simp only [List.all_cons, Bool.and_eq_true] at hd
    refine ⟨?_, ih (k + 1) (fun j o' hj => by have := hk (j + 1) o' (by simpa using hj); rwa [show k + (j + 1) = k + 1 + j by omega] at this) hd.2 h.2⟩
    intro a w dn hdn hE hs hp hi
    have ho : ops[k]? = some o := by have := hk 0 o (by simp); simpa using this
    have hs1 := h.1 a w dn hdn hE hs (fun k hk => (hp k hk).1) (fun k hk => (hp k hk).2) hi
    cases hdo : o.dst with
    | none => rw [hdo] at hd; simp at hd
    | some d =>
      rw [hdo] at hd
      have hd1 : d < n := of_decide_eq_true hd.1
      have hdn : d < a.tmps.size := by rw [hs, hn]; exact hd1
      have hdst : dstOf ops k = some d := by simp [dstOf, ho, hdo]
      split
      · rename_i hw
        rw [if_pos hw] at hs1
        refine Oper.wp_mono ?_ hs1
        rintro a' w' ⟨v, e, hb, hok, hx⟩
        refine ⟨v, e.trans (by rw [hdo]), hb, ?_, by rw [e]; exact hx⟩
        unfold InvD
        rw [hdst]
        show sh k (sl a' d) w'
        rw [e, hdo, put_same _ _ _ hdn]; exact hok
      · rename_i hw
        rw [if_neg hw] at hs1
        refine ⟨hs1.1, ?_, by rw [hdo] at hs1; exact hs1.2.2⟩
        unfold InvD
        rw [hdst]
        show sh k (sl (a.put (some d) undef) d) w
        rw [put_same _ _ _ hdn]; exact hs1.2.1
/-- no operation that may run behind j writes what j's tie speaks of -/
def depB (ops : Array Oper) (dep : Nat → List Nat) : Bool := (List.range ops.size).all fun j => (List.range ops.size).all fun i => decide (i = j) || predB ops i j || (dep j).all fun t => (dstOf ops i) != some t
/-- a drawn region by shapes, by what holds of the world, and by ties between slots -/
theorem wp_region_ties {id : Nat} {a0 : Act} {w0 : World} (E : (Nat → Bool) → World → Prop) (R : Nat → World → World → Prop) (sh : Nat → Value → World → Prop) (X : Nat → (Nat → Value) → Prop) (dep : Nat → List Nat) (n : Nat) (hn : a0.tmps.size = n) (hm : P.follows .mixedOrders = true) (hback : backB ops = true) (hdist : distB ops = true) (hdsts : dstsB ops n = true) (hdep : depB ops dep = true)
    (hX : ∀ j σ σ', (∀ t, t ∈ dep j → σ' t = σ t) → X j σ → X j σ')
    (E0 : E (fun _ => false) w0.drew) (ER : ∀ dn i w w', dn i = false → E dn w → R i w w' → E (fun j => if i = j then true else dn j) w') (keep : ∀ i j v w w', i ≠ j → predB ops i j = false → sh j v w → R i w w' → sh j v w')
    (each : EachTie P ops Q a0 E R sh X ops.toList 0)
    (fin : ∀ a w dn, E dn w → a.tmps.size = a0.tmps.size → a.defers = a0.defers → (∀ j, j < ops.size → InvD ops sh j (sl a) w) → (∀ j, j < ops.size → X j (sl a)) → (∀ t, (ops.toList.all fun o => o.dst != some t) = true → sl a t = sl a0 t) → Q .normal a w) :
    (Code.region id ops true).wp P Q a0 w0 := by
  refine wp_region_done hm hback E R (InvTie ops sh X) E0 ER ?_ (eachTie_of hn _ 0 (fun j o hj => by simpa using hj) hdsts each) (fun a w dn h1 h2 h3 h4 h5 => fin a w dn h1 h2 h3 (fun j hj => (h4 j hj).1) (fun j hj => (h4 j hj).2) h5)
  intro i j oi oj σ σ' w w' hij hoi hoj _ hI hR hσ _ hnp
  have hi' : i < ops.size := (Array.getElem?_eq_some_iff.1 hoi).1
  have hj' : j < ops.size := (Array.getElem?_eq_some_iff.1 hoj).1
  have hpf : predB ops i j = false := by
    unfold predB
    rw [hoj]
    show (preds oj).contains i = false
    cases hc : (preds oj).contains i with
    | false => rfl
    | true =>
      have hdo := List.all_eq_true.1 hdsts oi (by rw [Array.mem_toList_iff]; exact Array.mem_of_getElem? hoi)
      cases hd : oi.dst with
      | none => rw [hd] at hdo; simp at hdo
      | some d => exact (hnp d hd (by simpa using hc)).elim
  refine ⟨?_, ?_⟩
  · have hI := hI.1
    unfold InvD at hI ⊢
    cases hdj : dstOf ops j with
    | none => trivial
    | some d =>
      rw [hdj] at hI
      show sh j (σ' d) w'
      have hne : oi.dst ≠ some d := by
        intro e
        have := List.all_eq_true.1 (List.all_eq_true.1 hdist i (List.mem_range.2 hi')) j (List.mem_range.2 hj')
        rw [hoi, hoj] at this
        have hdj' : oj.dst = some d := by simpa [dstOf, hoj] using hdj
        simp [e, hdj', hij] at this
      rw [hσ d hne]
      exact keep i j _ _ _ hij hpf hI hR
  · refine hX j σ σ' (fun t ht => hσ t ?_) hI.2
    intro e
    have := List.all_eq_true.1 (List.all_eq_true.1 hdep j (List.mem_range.2 hj')) i (List.mem_range.2 hi')
    rw [hpf] at this
    have hd : dstOf ops i = some t := by simp [dstOf, hoi, e]
    simp [hij, hd] at this
    exact this t ht rfl
end
end Go.By
namespace Go.By
open Go.RowKit
theorem Hdr.keep {T base i : Nat} {w1 w w' : World} {v : Value} {xss : List (List UInt8)} (h : Hdr T w1 base w v i xss) (hb : Below w.heap.size w w') : Hdr T w1 base w' v i xss := by
  obtain ⟨vs, o, hl, hr⟩ := h
  exact ⟨vs, owns_keepv o hb, hl, hr⟩
/-- what an operation of such a region leaves; i4 and i9 append -/
def R2A (va vb : Value) (i4 i9 : Nat) (i : Nat) (w w' : World) : Prop := (i = i4 ∧ w.grownBy w' va.ownBlock) ∨ (i = i9 ∧ w.grownBy w' vb.ownBlock) ∨ (i ≠ i4 ∧ i ≠ i9 ∧ Below w.heap.size w w')
/-- what holds of the world in such a region -/
structure E2A (T : Nat) (wz W : World) (va vb : Value) (n : Nat) (A B : List (List UInt8)) (i4 i9 : Nat) (dn : Nat → Bool) (w : World) : Prop where
  bel : Below wz.heap.size wz w
  hH : W.heap.size ≤ w.heap.size
  frame : ∀ b, b < W.heap.size → va.ownBlock ≠ some b → vb.ownBlock ≠ some b → w.heap[b]? = W.heap[b]?
  a : dn i4 = false → Hdr T wz wz.heap.size w va n A
  b : dn i9 = false → Hdr T wz wz.heap.size w vb n B
section
variable {T : Nat} {wz W w w' : World} {va vb : Value} {n i4 i9 i : Nat} {A B : List (List UInt8)} {dn : Nat → Bool}
theorem E2A.next (h : E2A T wz W va vb n A B i4 i9 dn w) (hR : R2A va vb i4 i9 i w w') (hA : ∀ b, va.ownBlock = some b → wz.heap.size ≤ b ∧ b < W.heap.size) (hB : ∀ b, vb.ownBlock = some b → wz.heap.size ≤ b ∧ b < W.heap.size) (hN : ∀ b, va.ownBlock = some b → vb.ownBlock ≠ some b) :
    E2A T wz W va vb n A B i4 i9 (fun j => if i = j then true else dn j) w' := by
  rcases hR with ⟨rfl, hg⟩ | ⟨rfl, hg⟩ | ⟨h1, h2, hb⟩
  · refine ⟨h.bel.grown hg h.bel.size (fun r hr => (hA r hr).1), Nat.le_trans h.hH hg.size, fun b hb ha' hb' => ?_, fun e => by simp at e, fun e => ?_⟩
    · exact (hg.block b (Nat.lt_of_lt_of_le hb h.hH) (fun e => ha' e.symm)).trans (h.frame b hb ha' hb')
    · split at e
      · cases e
      · exact (h.b e).kept hg (fun b hb' e' => hN b e' hb')
  · refine ⟨h.bel.grown hg h.bel.size (fun r hr => (hB r hr).1), Nat.le_trans h.hH hg.size, fun b hb ha' hb' => ?_, fun e => ?_, fun e => by simp at e⟩
    · exact (hg.block b (Nat.lt_of_lt_of_le hb h.hH) (fun e => hb' e.symm)).trans (h.frame b hb ha' hb')
    · split at e
      · cases e
      · exact (h.a e).kept hg (fun b hb' e' => hN b hb' e')
  · refine ⟨bl h.bel hb h.bel.size, Nat.le_trans h.hH hb.size, fun b hb' x1 x2 => (hb.block b (Nat.lt_of_lt_of_le hb' h.hH)).trans (h.frame b hb' x1 x2), fun e => ?_, fun e => ?_⟩
    · rw [if_neg h1] at e; exact (h.a e).keep hb
    · rw [if_neg h2] at e; exact (h.b e).keep hb
/-- a block made in the region stays -/
theorem R2A.new {g : Nat} {o : Obj} (hR : R2A va vb i4 i9 i w w') (hA : ∀ b, va.ownBlock = some b → wz.heap.size ≤ b ∧ b < W.heap.size) (hB : ∀ b, vb.ownBlock = some b → wz.heap.size ≤ b ∧ b < W.heap.size) (hg : W.heap.size ≤ g) (ho : w.heap[g]? = some o) : w'.heap[g]? = some o := by
  have hl := blk_lt ho
  rcases hR with ⟨_, h⟩ | ⟨_, h⟩ | ⟨_, _, h⟩
  · exact (h.block g hl (fun e => by have := hA g e.symm; omega)).trans ho
  · exact (h.block g hl (fun e => by have := hB g e.symm; omega)).trans ho
  · exact (h.block g hl).trans ho
/-- what the first append gives stays -/
theorem R2A.a {m : Nat} {v : Value} {L : List (List UInt8)} (hR : R2A va vb i4 i9 i w w') (hi : i ≠ i4) (h : Hdr T wz wz.heap.size w v m L) (hv : ∀ b, v.ownBlock = some b → vb.ownBlock ≠ some b) : Hdr T wz wz.heap.size w' v m L := by
  rcases hR with ⟨e, _⟩ | ⟨_, hg⟩ | ⟨_, _, hb⟩
  · exact absurd e hi
  · exact h.kept hg hv
  · exact h.keep hb
/-- what the second append gives stays -/
theorem R2A.b {m : Nat} {v : Value} {L : List (List UInt8)} (hR : R2A va vb i4 i9 i w w') (hi : i ≠ i4) (hi9 : i ≠ i9) (h : Hdr T wz wz.heap.size w v m L) : Hdr T wz wz.heap.size w' v m L := by
  rcases hR with ⟨e, _⟩ | ⟨e, _⟩ | ⟨_, _, hb⟩
  · exact absurd e hi
  · exact absurd e hi9
  · exact h.keep hb
theorem wp_append_head {P : Program} {o : Oper} {a : Act} {w : World} {K : Act → World → Prop} {Q : Exit → Act → World → Prop} (s x : Operand) (t : TypeId) (ho : o.op = .call { callee := .builtin .append, args := #[s, x], argTypes := #[t, t] })
    (base : Nat) (e : TypeId) (i : TypeInfo) (z : Value) (bytes : Nat) (ht : P.underlying t = some (.slice e)) (hi : P.info? e = some i) (hz : i.zero = some z) (hsize : i.size = 1) (hby : i.bytes = bytes) (hzs : z.cells.size = 1)
    (v : Value) (n : Nat) (vs : List Value) (hs : a.eval s = v) (hown : w.ownsRow base e 1 v n vs) (g c : Nat) (u : Value) (T : TypeId) (fr : Nat × Nat) (hx : a.eval x = .slice (some ⟨g, 0, none⟩) 1 c) (hg : w.heap[g]? = some (.cells #[u] T fr))
    (h1 : u.oneCell' = true) (h63 : n + 1 ≤ maxLen) (hb : (n + 1) * bytes ≤ 140737488355328) (hbase : base ≤ w.heap.size)
    (h : ∀ v' w', w'.ownsRow base e 1 v' (n + 1) (vs ++ [u]) → w.grownBy w' v.ownBlock → (v'.ownBlock = v.ownBlock ∨ v'.ownBlock = some w.heap.size) → K (a.put o.dst v') w') : o.wp P a w K Q := by
  obtain ⟨v', w', hrun, r1, r2, r3⟩ := run_append_where (P := P) w base t o.type e i z 1 bytes ht hi hz hsize hby hzs (by decide) v n vs hown ⟨g, 0, none⟩ 1 c [u] rfl (news_one hg) (fun u' hu => by
      simp at hu; subst hu; exact h1) h63 hb hbase (by decide)
  unfold Oper.wp
  simp [execOp, ho, resolve, invoke, builtin, hs, hx, hrun, Result.andThen]
  exact h v' w' r1 r2 r3
end
end Go.By
