/- The contract of the law's Made. The contract of a grid's Mul. The contract of the reference's Same of layer 7. The example of chapter 7. Plain laws of GridTells: rows and what they are joined; a unit's bytes. GridTells: the walk, no unit. -/
import Derived.Test.YtofhdakggapahaaZk4
import Derived.Laws.CopyOwn
namespace Go.By
open Go.RowKit
theorem results_cell_tmp2 {P : Program} {fn : Func} {p u u2 : Tmp} {ty : TypeId} (h : fn.results = #[.cell p ty, .tmp u, .tmp u2]) (tmps : Array Value) (w : World) (g : Nat) (t : TypeId) (cs : Array Value) (fr : Nat × Nat) (d : TypeDesc) (v v2 : Value)
    (hp : tmps.getD p undef = .pointer (some ⟨g, 0, none⟩)) (hg : w.heap[g]? = some (.cells cs t fr)) (hv : tmps.getD u undef = v) (hv2 : tmps.getD u2 undef = v2)
    (hu : P.underlying ty = some d) (hd : (match d with | .struct _ | .array _ _ => true | _ => false) = true) (hi : (P.info? ty).map (·.size) = some cs.size) :
    (results fn tmps).run P w = .ok (.tuple #[.agg cs, v, v2]) w := by
  have hp' : tmps[p]?.getD undef = .pointer (some ⟨g, 0, none⟩) := by simpa using hp
  have hv' : tmps[u]?.getD undef = v := by simpa using hv
  have hv2' : tmps[u2]?.getD undef = v2 := by simpa using hv2
  simp [results, h, hp', hv', hv2', asAddr, run_loadVar_row w g t ty cs fr d hg hu hd hi]
theorem heap_of_owns {w : World} {base E g n : Nat} {L : List Value} (h : w.ownsRow base E 1 (.slice (some ⟨g, 0, none⟩) n n) n L) : w.heap[g]? = some (.cells L.toArray E (0, 0)) := by
  rcases h.2 with ⟨h1, _⟩ | ⟨g', cap, cur, hv, _, hh, _, _, hs, ht⟩
  · cases h1
  · cases hv
    rw [hh]
    have : cur = L.toArray := by
      rw [← ht, List.take_of_length_le (by simp [hs])]
    rw [this]
/-- a block known whole is owned -/
theorem owns_of_heap {w : World} {base E g n : Nat} {L : List Value} (hg : base ≤ g) (hh : w.heap[g]? = some (.cells L.toArray E (0, 0))) (hl : L.length = n) (hm : n ≤ maxLen) : w.ownsRow base E 1 (.slice (some ⟨g, 0, none⟩) n n) n L :=
  ⟨by rw [Nat.mul_one]; exact hl, .inr ⟨g, n, L.toArray, rfl, hg, hh, Nat.le_refl _, hm, by simp [hl], by rw [Nat.mul_one, List.take_of_length_le (by simp [hl])]⟩⟩
end Go.By
namespace Go.Proofs.Ytofhdakggapahaa
open Go.RowKit Go.By
/-- the first bytes of a row, with noughts behind -/
def fitR (wd : Nat) (r : List UInt8) : List UInt8 := r.take wd ++ List.replicate (wd - r.length) 0
theorem fitR_len (wd : Nat) (r : List UInt8) : (fitR wd r).length = wd := by unfold fitR; rw [List.length_append, List.length_take, List.length_replicate]; omega
theorem splice_fit (wd : Nat) (r : List UInt8) : splice (List.replicate wd (B8 0)) 0 ((r.take wd).map B8) = (fitR wd r).map B8 := by
  unfold splice fitR
  rw [List.take_zero, List.nil_append, Nat.zero_add, List.drop_replicate, List.length_map, List.length_take, List.map_append, List.map_replicate]
  congr 2
  omega
/-- what Made gives -/
def RetM (w : World) (m wd : Nat) (R : List (List UInt8)) (e : Ending) (w' : World) : Prop :=
  ∃ q n c q2 c2, n = m * wd ∧ e = .returned (.tuple #[.agg #[.int .i64 m, .int .i64 wd, .slice q n c], .slice q2 m c2, .int .i64 wd]) ∧ w'.ownsRow w.heap.size 5 1 (.slice q n c) n (R.flatten.map B8) ∧
    Own2 25 5 w' w.heap.size (.slice q2 m c2) m R ∧ Below w.heap.size w w'
set_option maxRecDepth 100000 in
set_option maxHeartbeats 4000000 in
theorem Made_any (x : UInt8) (p : Option Addr) (m c : Nat) (xss : List (List UInt8)) (w : World) (h : Sl2 w p m c xss) (hm : m ≤ 30) :
    Calls Try.prog 19 #[B8 x, .slice p m c] w (RetM w m (x.toNat % 31) (xss.map (fitR (x.toNat % 31)))) := by
  have hinfo := info_grid
  obtain ⟨r0, hr0, hrz, hr1, hr2⟩ := info_parts info_rows
  obtain ⟨i0, hi0, hz0, hz1, hz2⟩ := info_parts info_u8
  obtain ⟨wd, hwd⟩ : ∃ wd, wd = x.toNat % 31 := ⟨_, rfl⟩
  have hw : wd ≤ 30 := by omega
  have hwz : ((x.toNat : Int) % 31) = (wd : Int) := by omega
  have hwt : ((x.toNat : Int)).tmod 31 = (wd : Int) := by rw [Int.tmod_eq_emod_of_nonneg (by omega)]; exact hwz
  have H := Lib.hid h; have HLEN := Lib.hid h.len
  have HM1 : Hid (wd ≤ maxLen) := by show wd ≤ maxLen; unfold maxLen; omega
  have HM2 : Hid (1 * wd ≤ 281474976710656) := by show 1 * wd ≤ _; omega
  rw [← hwd]
  have HB0 : Hid (Below w.heap.size w (w.alloc (.cells #[.int .i64 0, .int .i64 0, .slice none 0 0] 27))) := al (Below.refl _ _) (Nat.le_refl _)
  clear h hwd
  go_enter Try.func19, Try.ntmps19
  go_wp2
  go_loopw [8, 19] (fun o i wr => ∃ (k : Nat) (qo : Option Addr) (co : Nat), k ≤ m ∧ i = .int .i64 k ∧ o = .slice qo k co ∧ Hid (Own2 25 5 wr (w.heap.size + 1) (.slice qo k co) k ((xss.take k).map (fitR wd))) ∧ Hid (Below w.heap.size w wr) ∧
    Hid (wr.heap[w.heap.size]? = some (.cells #[.int .i64 0, .int .i64 0, .slice none 0 0] 27 (0, 0)))) (fun _ i _ => m - (intOf i).toNat)
  case atStart => exact ⟨0, none, 0, Nat.zero_le _, rfl, rfl, Own2.nil _ _ _ _, HB0.out, hnew rfl⟩
  case round =>
    obtain ⟨k, qo, co, hk, rfl, rfl, hO, hB, hZ⟩ := hrel
    by_cases hlt : k < m
    · obtain ⟨b, o, q, mx, cx, row, rfl, hc, hs, hx⟩ := H.out.at k hlt
      have hcw := (hB.out.cell (p := ⟨b, o + k, none⟩) (lt_of_cell hc)).trans hc
      have HSW := Lib.hid (hs.keep hB.out)
      have kn : (k : Int) < (m : Int) := by omega
      have hstep : Hid ((xss.take (k + 1)).map (fitR wd) = (xss.take k).map (fitR wd) ++ [fitR wd row]) := take_map_succ' _ hx.out
      have hszw := (hB.out.size)
      have hzlt := Lib.hid (blk_lt hZ.out)
      have hmx := Lib.hid hs.len
      clear hc hs hx
      go_wp2_with (at_make; refine wpList_make_full _ rfl _ _ 25 rfl wr.heap.size 5 i0 (.int .u8 0) 1 Try.underlying25 hi0 hz0 hz1 .i64 .i64 _ _ wd rfl rfl rfl rfl (by rw [hz2]; exact HM2.out) HM1.out (Nat.le_refl _) ?_)
      intro w1 ho hg
      have HV : Hid (w1.heap[wr.heap.size]? = some (.cells (List.replicate wd (B8 0)).toArray 5 (0, 0))) := by
        have e : (madeCells #[Value.int .u8 0] wd).toList = List.replicate wd (B8 0) := toList_madeCells_one _ _
        rw [e] at ho
        exact heap_of_owns ho
      have B1 : Hid (Below wr.heap.size wr w1) := (Below.refl _ _).grown hg (Nat.le_refl _) (by simp)
      have HS1 := Lib.hid (HSW.out.keep B1.out)
      clear ho hg hcw
      have HE1 : Hid (((row.take wd).map B8).length = Nat.min mx wd) := by
        show _ = _
        rw [List.length_map, List.length_take, hmx.out, Nat.min_comm]
      have HE2 : Hid (0 < ((row.take wd).map B8).length → (some ⟨wr.heap.size, 0, none⟩ : Option Addr) = some ⟨wr.heap.size, 0, none⟩ ∧ ∃ ad, q = some ad ∧ ∀ (j : Nat) (v : Value), ((row.take wd).map B8)[j]? = some v → w1.cell? (ad.add j) = some v) := by
        intro hpos
        refine ⟨rfl, ?_⟩
        have hr0 : 0 < row.length := by rw [List.length_map, List.length_take] at hpos; omega
        obtain ⟨b', o', hp', hc'⟩ := HS1.out.rs 0 hr0
        refine ⟨⟨b', o', none⟩, hp', fun j v hj => ?_⟩
        have hjl := (List.getElem?_eq_some_iff.1 hj).1
        rw [List.length_map, List.length_take] at hjl
        obtain ⟨b2, o2, hp2, hc2⟩ := HS1.out.rs j (by omega)
        rw [hp'] at hp2; cases hp2
        rw [Addr.add_lit, hc2]
        rw [List.getElem?_map, List.getElem?_take, if_pos (by omega), List.getElem?_eq_getElem (by omega)] at hj
        exact hj
      have HE3 : Hid (0 + ((row.take wd).map B8).length ≤ (List.replicate wd (B8 0)).length) := by
        show _ ≤ _
        rw [List.length_map, List.length_take, List.length_replicate]; omega
      have HE4 : Hid (∀ v, v ∈ (row.take wd).map B8 → v.oneCell' = true) := by
        intro v hv
        obtain ⟨y, _, rfl⟩ := List.mem_map.1 hv
        rfl
      go_wp2_with (with_reducible refine wpList_copy_splice rfl (.tmp 25) (.tmp 26) 25 25 rfl 5 Try.underlying25 (by kernel_rfl) (some ⟨wr.heap.size, 0, none⟩) q wd wd mx cx rfl rfl wr.heap.size 0 (List.replicate wd (B8 0)) 5 HV.out ((row.take wd).map B8) HE1.out HE2.out HE3.out HE4.out wr.heap.size wr B1.out (Nat.le_refl _) ?_)
      intro w2 hv2 hb2
      have R2 : Hid (w2.ownsRow (w.heap.size + 1) 5 1 (.slice (some ⟨wr.heap.size, 0, none⟩) wd wd) wd ((fitR wd row).map B8)) := by
        have := hv2.out
        rw [← List.map_take, splice_fit] at this
        have h1 := hzlt.out
        exact owns_of_heap (by omega) this (by rw [List.length_map, fitR_len]) HM1.out
      have O2 := hO.out.keep hb2
      have B2 : Hid (Below w.heap.size w w2) := bl hB.out hb2 hszw
      have Z2 : Hid (w2.heap[w.heap.size]? = some (.cells #[.int .i64 0, .int .i64 0, .slice none 0 0] 27 (0, 0))) := (hb2.block _ hzlt.out).trans hZ.out
      have bal : ∀ (W : World) (o : Obj), Below W.heap.size W (W.alloc o) := fun W o => al (Below.refl _ _) (Nat.le_refl _)
      obtain ⟨vs, oA, lA, rA⟩ := O2
      have OA := Lib.hid oA; have LA := Lib.hid lA; have RA := Lib.hid rA
      have hO3 : Hid (∀ o, (w2.alloc o).ownsRow (w.heap.size + 1) 25 1 (.slice qo k co) k vs) := fun o => owns_keep OA.out (bal _ _)
      have HBAL := Lib.hid bal
      have hsz2 := hb2.size
      have hz1' := hzlt.out
      have nZ : Hid (∀ kk, (Value.slice qo k co).ownBlock = some kk → kk ≠ w.heap.size) := fun kk hk e => by have := (OA.out.lt kk hk).1; omega
      clear hv2 hb2 oA lA rA bal hO hB hZ HV B1 HS1 HSW hmx HE1 HE2 HE3 HE4
      go_wp2_with (at_builtin; refine wpList_append_own _ rfl _ _ 22 rfl (w.heap.size + 1) 25 r0 (.slice none 0 0) 1 24 Try.underlying22 hr0 hrz hr1 hr2 rfl (by omega) _ k _ rfl (hO3.out _) ⟨w2.heap.size, 0, none⟩ 1 1 [.slice (some ⟨wr.heap.size, 0, none⟩) wd wd] rfl rfl (one_cell' rfl) ?d2 ?d3 ?d4 ?d5 ?_)
      case d2 => intro y hy; simp at hy; subst hy; rfl
      case d3 => unfold maxLen; omega
      case d4 => omega
      case d5 => simp; omega
      intro v6 w6 ho6 hg6 _
      obtain ⟨q6, c6, rfl⟩ := owns_shape ho6
      have P6 : Hid (Own2 25 5 w6 (w.heap.size + 1) (.slice q6 (k + 1) c6) (k + 1) ((xss.take (k + 1)).map (fitR wd)) ∧ Below w.heap.size w w6 ∧ w6.heap[w.heap.size]? = some (.cells #[.int .i64 0, .int .i64 0, .slice none 0 0] 27 (0, 0))) := by
        refine ⟨?_, (al B2.out B2.out.size).grown hg6 (by have := B2.out.size; simp; omega) (fun kk hk => by have := (OA.out.lt kk hk).1; omega), ?_⟩
        · rw [hstep.out]
          exact Own2.push (by decide) LA.out (fun jj val hjj => by
            obtain ⟨xs, q, c', a, b, d⟩ := RA.out jj val hjj
            exact ⟨xs, q, c', a, b, owns_keep d (HBAL.out _ _)⟩) (hO3.out _) (owns_keep R2.out (HBAL.out _ _)) ho6 hg6
        · rw [hg6.block _ (by have := blk_lt Z2.out; simp; omega) (fun e => nZ.out _ e.symm rfl)]
          exact hal Z2.out
      clear ho6 hg6 hO3 OA LA RA R2 B2 Z2
      go_wp2
      go_roundw
      case rel => exact ⟨k + 1, q6, c6, by omega, by go_num, rfl, P6.out.1, P6.out.2.1, P6.out.2.2⟩
      case measure => simp [intOf]; omega
    · have hkm : k = m := by omega
      have hge : (m : Int) ≤ (k : Int) := by omega
      have OF : Hid (Own2 25 5 wr (w.heap.size + 1) (.slice qo m co) m (xss.map (fitR wd))) := by
        have := hO.out
        rw [hkm, List.take_of_length_le (by rw [HLEN.out]; exact Nat.le_refl _)] at this; exact this
      have HOF : Hid (∀ W, Sl2 W qo m co (xss.map (fitR wd)) → Calls Try.prog 11 #[.int .i64 wd, .slice qo m co] W (RetG2 5 W m wd (xss.map (fitR wd)).flatten 0)) := fun W h =>
        GOf_good wd qo m co _ W h (by omega) (by omega) (by have : m * wd ≤ 30 * 30 := Nat.mul_le_mul hm hw; omega) (by
          rw [List.all_eq_true]
          intro y hy
          obtain ⟨r, _, rfl⟩ := List.mem_map.1 hy
          exact decide_eq_true (fitR_len wd r))
      subst hkm
      clear hO
      go_wp2_with fail
      refine Calls.mono (HOF.out _ OF.out.sl2) ?_
      rintro e w2 ⟨q2, n2, c2, hn2, rfl, ho2, hb2⟩
      have O2 := Lib.hid (OF.out.keep hb2)
      have B2 := Lib.hid (bl hB.out hb2 hB.out.size)
      have hszw := hB.out.size
      have hzlt := blk_lt hZ.out
      have Z2 : Hid (w2.heap[w.heap.size]? = some (.cells #[.int .i64 0, .int .i64 0, .slice none 0 0] 27 (0, 0))) := (hb2.block _ (blk_lt hZ.out)).trans hZ.out
      have HO2 : Hid (w2.ownsRow (w.heap.size + 1) 5 1 (.slice q2 n2 c2) n2 ((xss.map (fitR wd)).flatten.map B8)) := owns_mono ho2 (by omega)
      have HN2 := Lib.hid hn2
      clear ho2 hb2 hB hZ OF HOF hn2
      obtain ⟨f0, f1, f2⟩ := cells3 (hal (o := .cells #[.int .i64 k, .int .i64 wd, .slice q2 n2 c2] 27) Z2.out)
      have z0 := frozen_of_row _ _ 0 _ _ (hal (o := .cells #[.int .i64 k, .int .i64 wd, .slice q2 n2 c2] 27) Z2.out)
      have z1 := frozen_of_row _ _ 1 _ _ (hal (o := .cells #[.int .i64 k, .int .i64 wd, .slice q2 n2 c2] 27) Z2.out)
      have z2 := frozen_of_row _ _ 2 _ _ (hal (o := .cells #[.int .i64 k, .int .i64 wd, .slice q2 n2 c2] 27) Z2.out)
      go_wp2
      refine bodyPost_ret (results_cell_tmp2 rfl _ _ _ 27 #[.int .i64 k, .int .i64 wd, .slice q2 n2 c2] (0, 0) _ (.slice qo k co) (.int .i64 wd) rfl (hss (hss (hss (hal Z2.out)))) rfl rfl Try.underlying27 rfl hinfo) rfl ⟨q2, n2, c2, qo, co, HN2.out, rfl, ?_, ?_, (((al B2.out B2.out.size).setCell (Nat.le_refl _) _).setCell (Nat.le_refl _) _).setCell (Nat.le_refl _) _⟩
      · exact owns_mono (owns_set (owns_set (owns_set (owns_keep HO2.out (al (Below.refl _ _) (Nat.le_refl _))) (by omega)) (by omega)) (by omega)) (by omega)
      · have key : ∀ (W : World) (u : Value) (i : Nat) (T : TypeId) (cs : Array Value), W.heap[w.heap.size]? = some (.cells cs T (0, 0)) → Own2 25 5 W (w.heap.size + 1) (.slice qo k co) k (xss.map (fitR wd)) → Own2 25 5 (W.setCell ⟨w.heap.size, i, none⟩ u) (w.heap.size + 1) (.slice qo k co) k (xss.map (fitR wd)) := by
          intro W u i T cs hW ⟨vs, oA, lA, rA⟩
          exact ⟨vs, owns_set oA (by omega), lA, fun jj val hjj => by
            obtain ⟨xs, q, c', a, b, d⟩ := rA jj val hjj
            exact ⟨xs, q, c', a, b, owns_set d (by omega)⟩⟩
        have mono : ∀ (W : World), Own2 25 5 W (w.heap.size + 1) (.slice qo k co) k (xss.map (fitR wd)) → Own2 25 5 W w.heap.size (.slice qo k co) k (xss.map (fitR wd)) := by
          intro W ⟨vs, oA, lA, rA⟩
          exact ⟨vs, owns_mono oA (by omega), lA, fun jj val hjj => by
            obtain ⟨xs, q, c', a, b, d⟩ := rA jj val hjj
            exact ⟨xs, q, c', a, b, owns_mono d (by omega)⟩⟩
        exact mono _ (key _ _ _ _ _ (hss (hss (hal Z2.out))) (key _ _ _ _ _ (hss (hal Z2.out)) (key _ _ _ _ _ (hal Z2.out) (O2.out.keep (al (Below.refl _ _) (Nat.le_refl _))))))
end Go.Proofs.Ytofhdakggapahaa
namespace Go.By
open Go.RowKit
theorem grownBy_setRow (w : World) (g : Nat) (cs : Array Value) : w.grownBy (w.setRow g cs) (some g) :=
  ⟨rfl, rfl, rfl, by simp [World.setRow], fun b _ hne => by
    simp only [World.setRow, Array.getElem?_modify]
    rw [if_neg (fun e => hne (by rw [e]))]⟩
theorem take_splice {α : Type} (cur cs : List α) (off n : Nat) (h1 : off + cs.length ≤ n) (h2 : n ≤ cur.length) : (cur.take off ++ (cs ++ cur.drop (off + cs.length))).take n = (cur.take n).take off ++ (cs ++ (cur.take n).drop (off + cs.length)) := by
  have l1 : (cur.take off).length = off := by rw [List.length_take]; omega
  rw [List.take_append, l1, List.take_of_length_le (by omega), List.take_take, Nat.min_eq_left (by omega)]
  congr 1
  rw [List.take_append, List.take_of_length_le (by omega)]
  congr 1
  rw [List.drop_take]
  congr 1
  omega
theorem owns_splice {w : World} {base E g n cap off : Nat} {L cs : List Value} (h : w.ownsRow base E 1 (.slice (some ⟨g, 0, none⟩) n cap) n L) (hfit : off + cs.length ≤ n) :
    ∃ cur : Array Value, w.heap[g]? = some (.cells cur E (0, 0)) ∧ off + cs.length ≤ cur.size ∧ (w.setRow g (cur.toList.take off ++ (cs ++ cur.toList.drop (off + cs.length))).toArray).ownsRow base E 1 (.slice (some ⟨g, 0, none⟩) n cap) n (L.take off ++ (cs ++ L.drop (off + cs.length))) := by
  rcases h.2 with ⟨h1, _⟩ | ⟨g', cap', cur, hv, hb, hh, hle, hm, hs, ht⟩
  · cases h1
  · cases hv
    have hsz : cur.toList.length = cap := by simpa using hs
    have hL := h.1
    refine ⟨cur, hh, by simp at hsz; omega, ?_, .inr ⟨g, cap, _, rfl, hb, hrs hh, hle, hm, ?_, ?_⟩⟩
    · simp only [List.length_append, List.length_take, List.length_drop]; omega
    · simp only [List.size_toArray, List.length_append, List.length_take, List.length_drop]; omega
    · rw [Nat.mul_one] at ht ⊢
      rw [List.toList_toArray, take_splice _ _ _ _ hfit (by omega), ht]
end Go.By
namespace Go.Proofs.Ytofhdakggapahaa
open Go.RowKit Go.By
theorem rowF_len2 {h wd i : Nat} {cells : List UInt8} (hl : cells.length = h * wd) (hi : i < h) : (rowF wd cells i).length = wd := by
  have : (i + 1) * wd ≤ h * wd := Nat.mul_le_mul_right _ hi
  rw [Nat.add_mul, Nat.one_mul] at this
  unfold rowF; rw [List.length_take, List.length_drop]; omega
def mulR (w2 : Nat) (R2 : List (List UInt8)) (r : List UInt8) : List UInt8 := combF (List.replicate w2 0) r R2
theorem mulR_len {w2 : Nat} {R2 : List (List UInt8)} (h : ∀ x, x ∈ R2 → x.length = w2) (r : List UInt8) : (mulR w2 R2 r).length = w2 := combF_len r R2 w2 h _ (by simp)
theorem comb_ok {w2 : Nat} {R2 : List (List UInt8)} {r : List UInt8} (h : ∀ x, x ∈ R2 → x.length = w2) (hl : r.length = R2.length) : combS r R2 = (if R2 = [] then [] else mulR w2 R2 r, 0) := by
  unfold combS
  rw [if_pos hl]
  cases R2 with
  | nil =>
    have : r = [] := List.length_eq_zero_iff.1 (by simpa using hl)
    subst this
    simp [noughtS, combF]
  | cons x l =>
    have hx := h x (by simp)
    have e : noughtS (x :: l) = (List.replicate w2 0, 0) := noughtS_of (x0 := x) rfl hx h
    rw [e, if_pos rfl, if_neg (by simp)]
    rfl
/-- the product's cells behind so many rows -/
def mulC (w2 h1 : Nat) (R2 R1 : List (List UInt8)) (k : Nat) : List UInt8 := ((R1.take k).map (mulR w2 R2)).flatten ++ List.replicate ((h1 - k) * w2) 0
theorem mul_flat_len {w2 : Nat} {R2 : List (List UInt8)} (h : ∀ x, x ∈ R2 → x.length = w2) : ∀ l : List (List UInt8), ((l.map (mulR w2 R2)).flatten).length = l.length * w2
  | [] => by simp
  | x :: l => by
    rw [List.map_cons, List.flatten_cons, List.length_append, mulR_len h, mul_flat_len h l, List.length_cons, Nat.add_mul]; omega
theorem mulC_len {w2 h1 k : Nat} {R2 R1 : List (List UInt8)} (h : ∀ x, x ∈ R2 → x.length = w2) (h1l : R1.length = h1) (hk : k ≤ h1) : (mulC w2 h1 R2 R1 k).length = h1 * w2 := by
  unfold mulC
  rw [List.length_append, mul_flat_len h, List.length_replicate, List.length_take, h1l, Nat.min_eq_left hk, ← Nat.add_mul]
  congr 1; omega
theorem mulC_step {w2 h1 k : Nat} {R2 R1 : List (List UInt8)} {r : List UInt8} (h : ∀ x, x ∈ R2 → x.length = w2) (h1l : R1.length = h1) (hk : k < h1) (hr : R1[k]? = some r) :
    (mulC w2 h1 R2 R1 k).take (k * w2) ++ (mulR w2 R2 r ++ (mulC w2 h1 R2 R1 k).drop (k * w2 + w2)) = mulC w2 h1 R2 R1 (k + 1) := by
  have hl : (((R1.take k).map (mulR w2 R2)).flatten).length = k * w2 := by rw [mul_flat_len h, List.length_take, h1l, Nat.min_eq_left (by omega)]
  unfold mulC
  rw [← hl, List.take_left, ← List.drop_drop, List.drop_left, List.drop_replicate]
  rw [List.take_add_one, hr, List.map_append, List.flatten_append]
  simp only [Option.toList_some, List.map_cons, List.map_nil, List.flatten_cons, List.flatten_nil, List.append_nil, List.append_assoc]
  congr 3
  have : (h1 - k) * w2 = (h1 - (k + 1)) * w2 + w2 := by rw [← Nat.succ_mul]; congr 1; omega
  omega
theorem mulC_skip {w2 h1 k : Nat} {R2 R1 : List (List UInt8)} {r : List UInt8} (h2 : R2 = []) (hk : k < h1) (h1l : R1.length = h1) (hr : R1[k]? = some r) : mulC w2 h1 R2 R1 k = mulC w2 h1 R2 R1 (k + 1) := by
  subst h2
  have e : mulR w2 [] r = List.replicate w2 0 := by unfold mulR combF; simp
  unfold mulC
  rw [List.take_add_one, hr, List.map_append, List.flatten_append]
  simp only [Option.toList_some, List.map_cons, List.map_nil, List.flatten_cons, List.flatten_nil, List.append_nil, List.append_assoc]
  rw [e, List.replicate_append_replicate]
  congr 2
  have : (h1 - k) * w2 = (h1 - (k + 1)) * w2 + w2 := by rw [← Nat.succ_mul]; congr 1; omega
  omega
theorem mulC_zero (h1 k : Nat) (R2 R1 : List (List UInt8)) (h : ∀ x, x ∈ R2 → x.length = 0) (h1l : R1.length = h1) (hk : k ≤ h1) : mulC 0 h1 R2 R1 k = [] := List.length_eq_zero_iff.1 (by rw [mulC_len h h1l hk, Nat.mul_zero])
theorem own2_setRow {T2 T1 base n g : Nat} {W : World} {v : Value} {xss : List (List UInt8)} {cs : Array Value} (h : Own2 T2 T1 W base v n xss) (hg : g < base) : Own2 T2 T1 (W.setRow g cs) base v n xss := by
  obtain ⟨vs, oA, lA, rA⟩ := h
  have key : ∀ {e : TypeId} {u : Value} {m : Nat} {L : List Value}, W.ownsRow base e 1 u m L → (W.setRow g cs).ownsRow base e 1 u m L := fun o => owns_kept o (grownBy_setRow W g cs) (fun k hk e => by
    have := (o.lt k hk).1; injection e with e; omega)
  exact ⟨vs, key oA, lA, fun j val hj => by obtain ⟨xs, q, c', a, b, d⟩ := rA j val hj; exact ⟨xs, q, c', a, b, key d⟩⟩
set_option maxRecDepth 100000 in
set_option maxHeartbeats 4000000 in
theorem GMul_size (h1 w1 h2 w2 : Nat) (p1 p2 : Option Addr) (n1 c1 n2 c2 : Nat) (w : World) (hne : w1 ≠ h2) :
    Calls Try.prog 22 #[.agg #[.int .i64 h1, .int .i64 w1, .slice p1 n1 c1], .agg #[.int .i64 h2, .int .i64 w2, .slice p2 n2 c2]] w (RetG2 5 w 0 0 [] 4) := by
  have hinfo := info_grid
  have hd : ((w1 : Int) != (h2 : Int)) = true := by simp; omega
  have HB : Hid (∀ o1 o2 o3, Below w.heap.size w (((w.alloc o1).alloc o2).alloc o3)) := fun o1 o2 o3 => al (al (al (Below.refl _ _) (Nat.le_refl _)) (by simp)) (by simp; omega)
  have HX : Hid (∀ o1 o2, (((w.alloc o1).alloc o2).alloc (.cells #[.int .i64 0, .int .i64 0, .slice none 0 0] 27)).heap[w.heap.size + 1 + 1]? = some (.cells #[.int .i64 0, .int .i64 0, .slice none 0 0] 27 (0, 0))) := fun o1 o2 => hnew (by simp)
  clear hne
  go_enter Try.func22, Try.ntmps22
  go_wp2
  refine bodyPost_ret (results_cell_tmp rfl _ _ _ 27 #[.int .i64 0, .int .i64 0, .slice none 0 0] (0, 0) _ (.int .i64 4) rfl (HX.out _ _) rfl Try.underlying27 rfl hinfo) rfl (RetG2.zero (HB.out _ _ _))
set_option maxRecDepth 100000 in
set_option maxHeartbeats 4000000 in
theorem GMul_any (h1 h2 w2 : Nat) (p1 p2 : Option Addr) (n1 c1 n2 c2 : Nat) (C1 C2 : List UInt8) (R1 R2 : List (List UInt8)) (w : World) (s1 : Sl B8 w p1 n1 c1 C1) (s2 : Sl B8 w p2 n2 c2 C2) (e1 : n1 = h1 * h2) (e2 : n2 = h2 * w2)
    (r1 : (List.range h1).map (rowF h2 C1) = R1) (r2 : (List.range h2).map (rowF w2 C2) = R2) (b1 : h1 ≤ 4096) (b2 : h2 ≤ 4096) (b3 : w2 ≤ 4096) (bm : h1 * w2 ≤ 65536) :
    Calls Try.prog 22 #[.agg #[.int .i64 h1, .int .i64 h2, .slice p1 n1 c1], .agg #[.int .i64 h2, .int .i64 w2, .slice p2 n2 c2]] w (RetG2 5 w h1 w2 (R1.map (mulR w2 R2)).flatten 0) := by
  have hinfo := info_grid
  have hR2 : ∀ x, x ∈ R2 → x.length = w2 := fun x hx => by
    rw [← r2] at hx
    obtain ⟨i, hi, rfl⟩ := List.mem_map.1 hx
    exact rowF_len2 (by rw [s2.len, e2]) (List.mem_range.1 hi)
  have HR2 := Lib.hid hR2
  have HR1L : Hid (R1.length = h1) := by show _ = _; rw [← r1]; simp
  have HR2L : Hid (R2.length = h2) := by show _ = _; rw [← r2]; simp
  have HR1 : Hid (∀ k, k < h1 → R1[k]? = some (rowF h2 C1 k)) := fun k hk => by rw [← r1, List.getElem?_map, List.getElem?_range hk]; rfl
  have HRL : Hid (∀ k, k < h1 → (rowF h2 C1 k).length = h2) := fun k hk => rowF_len2 (by rw [s1.len, e1]) hk
  have HGR : Hid (∀ W, Sl B8 W p2 n2 c2 C2 → Calls Try.prog 17 #[.agg #[.int .i64 h2, .int .i64 w2, .slice p2 n2 c2]] W fun e w' => ∃ q c', e = .returned (.slice q h2 c') ∧ Own2 25 5 w' W.heap.size (.slice q h2 c') h2 R2 ∧ Below W.heap.size W w') := fun W hs => by
    have := GRows_any h2 w2 p2 n2 c2 C2 W hs e2 (by unfold Room; omega) (by unfold Room; omega)
    rwa [r2] at this
  have HBL := Lib.hid (fun W => blank_any h1 w2 W (show Room (h1 * w2) by unfold Room; omega) (by omega) (by omega))
  have S1 := Lib.hid s1; have S2 := Lib.hid s2; have E1 := Lib.hid e1
  obtain ⟨N, hN⟩ : ∃ N, N = h1 * w2 := ⟨_, rfl⟩
  have wm : IntKind.i64.wrap ((h1 : Int) * (w2 : Int)) = ((N : Nat) : Int) := by rw [hN, ← Int.natCast_mul]; exact Go.IntWalk.i64_in _ (by omega)
  have HNE := Lib.hid hN
  have hN2 : (N : Int) ≤ 65536 := by omega
  have HB0 : Hid (∀ o1 o2 o3, Below w.heap.size w (((w.alloc o1).alloc o2).alloc o3)) := fun o1 o2 o3 => al (al (al (Below.refl _ _) (Nat.le_refl _)) (by simp)) (by simp; omega)
  clear hR2 r1 r2 s1 s2 e1 e2 hN bm
  go_enter Try.func22, Try.ntmps22
  go_wp2_with fail
  refine use_w1 (fun W => Below w.heap.size w W ∧ W.heap[w.heap.size]? = some (.cells #[.int .i64 h1, .int .i64 h2, .slice p1 n1 c1] 27 (0, 0)) ∧ W.heap[w.heap.size + 1]? = some (.cells #[.int .i64 h2, .int .i64 w2, .slice p2 n2 c2] 27 (0, 0)) ∧ W.heap[w.heap.size + 1 + 1]? = some (.cells #[.int .i64 0, .int .i64 0, .slice none 0 0] 27 (0, 0)) ∧ w.heap.size + 3 ≤ W.heap.size) ⟨HB0.out _ _ _, hal (hal (hnew rfl)), hal (hnew (by simp)), hnew (by simp), by simp⟩ ?_
  rintro w0 ⟨b0, x0, y0, z0, s0⟩
  refine Calls.mono (HBL.out _) ?_; rintro e wA ⟨q, nP, cP, hnP, rfl, ho, hb⟩
  obtain rfl : nP = N := hnP.trans HNE.out.symm
  have XA : Hid (wA.heap[w.heap.size]? = some (.cells #[.int .i64 h1, .int .i64 h2, .slice p1 n1 c1] 27 (0, 0))) := (hb.block _ (blk_lt x0)).trans x0
  have YA : Hid (wA.heap[w.heap.size + 1]? = some (.cells #[.int .i64 h2, .int .i64 w2, .slice p2 n2 c2] 27 (0, 0))) := (hb.block _ (blk_lt y0)).trans y0
  have ZA : Hid (wA.heap[w.heap.size + 1 + 1]? = some (.cells #[.int .i64 0, .int .i64 0, .slice none 0 0] 27 (0, 0))) := (hb.block _ (blk_lt z0)).trans z0
  have KA : Hid (Below w.heap.size w wA) := bl b0 hb b0.size
  have OA : Hid (wA.ownsRow (w.heap.size + 3) 5 1 (.slice q nP cP) nP ((mulC w2 h1 R2 R1 0).map B8)) := by
    show World.ownsRow _ _ _ _ _ _ _
    unfold mulC
    rw [List.take_zero, List.map_nil, List.flatten_nil, List.nil_append, Nat.sub_zero]
    exact owns_mono ho s0
  have hsA : Hid (w.heap.size + 3 ≤ wA.heap.size) := Nat.le_trans s0 hb.size
  clear b0 x0 y0 z0 s0 ho hb hnP HB0 HBL
  obtain ⟨f0, f1, f2⟩ := cells3 (hal (o := .cells #[.int .i64 h1, .int .i64 w2, .slice q nP cP] 27) YA.out)
  go_wp2_with fail
  refine use_w1 (fun W => Below wA.heap.size wA W ∧ W.heap[wA.heap.size]? = some (.cells #[.int .i64 h1, .int .i64 w2, .slice q nP cP] 27 (0, 0)) ∧ wA.heap.size + 1 ≤ W.heap.size) ⟨al (Below.refl _ _) (Nat.le_refl _), hnew rfl, by simp⟩ ?_
  rintro wB ⟨bB, xB, sB⟩
  refine Calls.mono (HGR.out _ (S2.out.keep (bl KA.out bB KA.out.size))) ?_; rintro e wC ⟨qR, cR, rfl, hoR, hbR⟩
  have bAC := bl bB hbR bB.size
  have XC : Hid (wC.heap[w.heap.size]? = some (.cells #[.int .i64 h1, .int .i64 h2, .slice p1 n1 c1] 27 (0, 0))) := (bAC.block _ (blk_lt XA.out)).trans XA.out
  have ZC : Hid (wC.heap[w.heap.size + 1 + 1]? = some (.cells #[.int .i64 0, .int .i64 0, .slice none 0 0] 27 (0, 0))) := (bAC.block _ (blk_lt ZA.out)).trans ZA.out
  have PC : Hid (wC.heap[wA.heap.size]? = some (.cells #[.int .i64 h1, .int .i64 w2, .slice q nP cP] 27 (0, 0))) := (hbR.block _ (blk_lt xB)).trans xB
  have KC : Hid (Below w.heap.size w wC) := bl KA.out bAC KA.out.size
  have OC : Hid (wC.ownsRow (w.heap.size + 3) 5 1 (.slice q nP cP) nP ((mulC w2 h1 R2 R1 0).map B8)) := owns_keep OA.out bAC
  have RC : Hid (Own2 25 5 wC wB.heap.size (.slice qR h2 cR) h2 R2) := hoR
  have HGA : Hid (∀ g, (Value.slice q nP cP).ownBlock = some g → g < wA.heap.size) := fun g hg => (OA.out.lt g hg).2
  have HSB := Lib.hid sB
  clear bB xB sB hoR hbR bAC XA YA ZA KA OA f0 f1 f2
  obtain ⟨f0, f1, f2⟩ := cells3 XC.out
  go_wp2
  clear f0 f1 f2
  go_loopw [33] (fun i wr => ∃ k : Nat, k ≤ h1 ∧ i = .int .i64 k ∧ Hid (wr.ownsRow (w.heap.size + 3) 5 1 (.slice q nP cP) nP ((mulC w2 h1 R2 R1 k).map B8)) ∧ Hid (Below w.heap.size w wr) ∧
    Hid (wr.heap[wA.heap.size]? = some (.cells #[.int .i64 h1, .int .i64 w2, .slice q nP cP] 27 (0, 0))) ∧ Hid (wr.heap[w.heap.size]? = some (.cells #[.int .i64 h1, .int .i64 h2, .slice p1 n1 c1] 27 (0, 0))) ∧
    Hid (wr.heap[w.heap.size + 1 + 1]? = some (.cells #[.int .i64 0, .int .i64 0, .slice none 0 0] 27 (0, 0))) ∧ Hid (Own2 25 5 wr wB.heap.size (.slice qR h2 cR) h2 R2)) (fun i _ => h1 - (intOf i).toNat)
  case atStart => exact ⟨0, Nat.zero_le _, rfl, OC.out, KC.out, PC.out, XC.out, ZC.out, RC.out⟩
  case round =>
    clear OC KC PC XC ZC RC
    obtain ⟨k, hk, rfl, hO, hB, hP, hX, hZ, hR⟩ := hrel
    by_cases hlt : k < h1
    · obtain ⟨f0, f1, f2⟩ := cells3 hX.out
      go_wp2_with fail
      refine Calls.mono (row_any h1 h2 k p1 n1 c1 C1 wr (S1.out.keep hB.out) E1.out hlt (by omega)) ?_
      rintro e wa ⟨qa, ca, rfl, hsa, -, hba⟩
      have Ra := hR.out.keep hba
      clear f0 f1 f2
      go_wp2_with fail
      refine Calls.mono (Comb_any qa qR h2 h2 ca cR (rowF h2 C1 k) R2 wa hsa Ra.sl2 (fun xs hx => by rw [HR2.out xs hx]; unfold Room; omega)) ?_
      rw [comb_ok HR2.out (by rw [HRL.out k hlt, HR2L.out])]
      rintro e wb ⟨qs, ms, cs, hms, rfl, hos, hbs⟩
      have hbb := bl hba hbs hba.size
      have O2 : Hid (wb.ownsRow (w.heap.size + 3) 5 1 (.slice q nP cP) nP ((mulC w2 h1 R2 R1 k).map B8)) := owns_keep hO.out hbb
      have B2 : Hid (Below w.heap.size w wb) := bl hB.out hbb hB.out.size
      have P2 : Hid (wb.heap[wA.heap.size]? = some (.cells #[.int .i64 h1, .int .i64 w2, .slice q nP cP] 27 (0, 0))) := (hbb.block _ (blk_lt hP.out)).trans hP.out
      have X2 : Hid (wb.heap[w.heap.size]? = some (.cells #[.int .i64 h1, .int .i64 h2, .slice p1 n1 c1] 27 (0, 0))) := (hbb.block _ (blk_lt hX.out)).trans hX.out
      have Z2 : Hid (wb.heap[w.heap.size + 1 + 1]? = some (.cells #[.int .i64 0, .int .i64 0, .slice none 0 0] 27 (0, 0))) := (hbb.block _ (blk_lt hZ.out)).trans hZ.out
      have R2' : Hid (Own2 25 5 wb wB.heap.size (.slice qR h2 cR) h2 R2) := hR.out.keep hbb
      have SS := Lib.hid (Sl.of_owns hos); have HMS := Lib.hid hms
      clear hO hB hP hX hZ hR Ra hsa hba hbs hbb hos hms
      obtain ⟨f0, f1, f2⟩ := cells3 P2.out
      go_wp2_with fail
      refine Calls.mono (row_any h1 w2 k q nP cP (mulC w2 h1 R2 R1 k) wb (Sl.of_owns O2.out) HNE.out hlt (by omega)) ?_
      rintro e wc ⟨qc, cc, rfl, -, hqc, hbc⟩
      have O3 : Hid (wc.ownsRow (w.heap.size + 3) 5 1 (.slice q nP cP) nP ((mulC w2 h1 R2 R1 k).map B8)) := owns_keep O2.out hbc
      have B3 : Hid (Below w.heap.size w wc) := bl B2.out hbc B2.out.size
      have P3 : Hid (wc.heap[wA.heap.size]? = some (.cells #[.int .i64 h1, .int .i64 w2, .slice q nP cP] 27 (0, 0))) := (hbc.block _ (blk_lt P2.out)).trans P2.out
      have X3 : Hid (wc.heap[w.heap.size]? = some (.cells #[.int .i64 h1, .int .i64 h2, .slice p1 n1 c1] 27 (0, 0))) := (hbc.block _ (blk_lt X2.out)).trans X2.out
      have Z3 : Hid (wc.heap[w.heap.size + 1 + 1]? = some (.cells #[.int .i64 0, .int .i64 0, .slice none 0 0] 27 (0, 0))) := (hbc.block _ (blk_lt Z2.out)).trans Z2.out
      have R3 : Hid (Own2 25 5 wc wB.heap.size (.slice qR h2 cR) h2 R2) := R2'.out.keep hbc
      have SS3 := Lib.hid (SS.out.keep hbc)
      have HQC := Lib.hid hqc
      clear O2 B2 P2 X2 Z2 R2' SS hqc hbc f0 f1 f2
      by_cases hnz : w2 = 0 ∨ R2 = []
      · have hmin : Nat.min ms w2 = 0 := by
          rcases hnz with h0 | h0
          · rw [h0]; exact Nat.min_zero _
          · have := HMS.out; rw [if_pos h0] at this; rw [← this]; exact Nat.zero_min _
        have O4 : Hid (wc.ownsRow (w.heap.size + 3) 5 1 (.slice q nP cP) nP ((mulC w2 h1 R2 R1 (k + 1)).map B8)) := by
          show World.ownsRow _ _ _ _ _ _ _
          rcases hnz with h0 | h0
          · have h3 := O3.out
            subst h0
            rw [mulC_zero h1 k R2 R1 HR2.out HR1L.out (by omega)] at h3
            rw [mulC_zero h1 (k + 1) R2 R1 HR2.out HR1L.out (by omega)]; exact h3
          · rw [← mulC_skip h0 hlt HR1L.out (HR1.out k hlt)]; exact O3.out
        have HMIN := Lib.hid hmin
        clear hmin hnz O3
        go_wp2_with (with_reducible refine wpList_copy_nothing rfl (.tmp 50) (.tmp 51) 25 25 rfl 5 Try.underlying25 (by kernel_rfl) qc qs w2 cc ms cs rfl rfl HMIN.out ?_)
        go_wp2
        go_roundw
        case rel => exact ⟨k + 1, by omega, by go_num, O4.out, B3.out, P3.out, X3.out, Z3.out, R3.out⟩
        case measure => simp [intOf]; omega
      · have hw0 : 0 < w2 := by
          rcases Nat.eq_zero_or_pos w2 with h | h
          · exact absurd (.inl h) hnz
          · exact h
        have hne : R2 ≠ [] := fun h => hnz (.inr h)
        have hms : ms = w2 := by have := HMS.out; rw [if_neg hne, mulR_len HR2.out] at this; exact this.symm
        rw [if_neg hne] at SS3
        subst hms
        have hpos : 0 < nP := by rw [HNE.out]; exact Nat.mul_pos (by omega) hw0
        obtain ⟨g, rfl, hg1, hg2⟩ := owns_at O3.out hpos
        have hqc := HQC.out hw0 g 0 rfl
        rw [Nat.zero_add] at hqc
        subst hqc
        have hgA := HGA.out g rfl
        obtain ⟨bs, os, hqs, hc0⟩ := SS3.out.rs 0 (by rw [SS3.out.len]; exact hw0)
        subst hqs
        clear hc0
        have hlen : ((mulR ms R2 (rowF h2 C1 k)).map B8).length = ms := by rw [List.length_map, mulR_len HR2.out]
        have hfit : k * ms + ((mulR ms R2 (rowF h2 C1 k)).map B8).length ≤ nP := by
          rw [hlen, HNE.out]
          have : (k + 1) * ms ≤ h1 * ms := Nat.mul_le_mul_right _ hlt
          rw [Nat.add_mul, Nat.one_mul] at this; exact this
        obtain ⟨cur, hcur, hcs, hown⟩ := owns_splice (off := k * ms) (cs := (mulR ms R2 (rowF h2 C1 k)).map B8) O3.out hfit
        have hO4 : Hid ((wc.setRow g (cur.toList.take (k * ms) ++ ((mulR ms R2 (rowF h2 C1 k)).map B8 ++ cur.toList.drop (k * ms + ((mulR ms R2 (rowF h2 C1 k)).map B8).length))).toArray).ownsRow (w.heap.size + 3) 5 1 (.slice (some ⟨g, 0, none⟩) nP cP) nP ((mulC ms h1 R2 R1 (k + 1)).map B8)) := by
          show World.ownsRow _ _ _ _ _ _ _
          rw [← mulC_step HR2.out HR1L.out hlt (HR1.out k hlt), List.map_append, List.map_append, List.map_take, List.map_drop]
          rw [hlen] at hown ⊢
          exact hown
        have HCUR := Lib.hid hcur; have HCS := Lib.hid hcs
        have HE1 : Hid (((mulR ms R2 (rowF h2 C1 k)).map B8).length = Nat.min ms ms) := hlen.trans (Nat.min_self ms).symm
        have HE2 : Hid (∀ (j : Nat) (v : Value), ((mulR ms R2 (rowF h2 C1 k)).map B8)[j]? = some v → wc.cell? ((⟨bs, os, none⟩ : Addr).add j) = some v) := fun j v hj => by
          have hjl := (List.getElem?_eq_some_iff.1 hj).1
          rw [List.length_map] at hjl
          obtain ⟨b2, o2, hp2, hc2⟩ := SS3.out.rs j hjl
          cases hp2
          rw [Addr.add_lit, hc2]
          rw [List.getElem?_map, List.getElem?_eq_getElem hjl] at hj
          exact hj
        have HE4 : Hid (∀ v, v ∈ (mulR ms R2 (rowF h2 C1 k)).map B8 → v.oneCell' = true) := by
          intro v hv
          obtain ⟨y, _, rfl⟩ := List.mem_map.1 hv
          rfl
        have hgB : g < wB.heap.size := by have := HSB.out; omega
        have hga : wA.heap.size ≠ g := by omega
        have hgw : w.heap.size ≠ g := by omega
        have hgz : w.heap.size + 1 + 1 ≠ g := by omega
        generalize (mulR ms R2 (rowF h2 C1 k)).map B8 = CS at *
        have P4 : Hid (Below w.heap.size w (wc.setRow g (cur.toList.take (k * ms) ++ (CS ++ cur.toList.drop (k * ms + CS.length))).toArray) ∧
            (wc.setRow g (cur.toList.take (k * ms) ++ (CS ++ cur.toList.drop (k * ms + CS.length))).toArray).heap[wA.heap.size]? = some (.cells #[.int .i64 h1, .int .i64 ms, .slice (some ⟨g, 0, none⟩) nP cP] 27 (0, 0)) ∧
            (wc.setRow g (cur.toList.take (k * ms) ++ (CS ++ cur.toList.drop (k * ms + CS.length))).toArray).heap[w.heap.size]? = some (.cells #[.int .i64 h1, .int .i64 h2, .slice p1 n1 c1] 27 (0, 0)) ∧
            (wc.setRow g (cur.toList.take (k * ms) ++ (CS ++ cur.toList.drop (k * ms + CS.length))).toArray).heap[w.heap.size + 1 + 1]? = some (.cells #[.int .i64 0, .int .i64 0, .slice none 0 0] 27 (0, 0)) ∧
            Own2 25 5 (wc.setRow g (cur.toList.take (k * ms) ++ (CS ++ cur.toList.drop (k * ms + CS.length))).toArray) wB.heap.size (.slice qR h2 cR) h2 R2) :=
          ⟨B3.out.grown (grownBy_setRow _ _ _) B3.out.size (fun kk hk => by injection hk with hk; omega), hro P3.out hga, hro X3.out hgw, hro Z3.out hgz, own2_setRow R3.out hgB⟩
        clear O3 B3 P3 X3 Z3 R3 SS3 HMS HQC hnz hne hlen hfit hown hcur hcs hpos
        go_wp2_with (with_reducible refine wpList_copy_own rfl (.tmp 50) (.tmp 51) 25 25 rfl 5 Try.underlying25 (by kernel_rfl) g (k * ms) ms cc ⟨bs, os, none⟩ ms cs rfl rfl cur 5 HCUR.out CS HE1.out HE2.out HCS.out HE4.out ?_)
        clear HCUR HCS HE1 HE2 HE4
        generalize wc.setRow g (cur.toList.take (k * ms) ++ (CS ++ cur.toList.drop (k * ms + CS.length))).toArray = wd at hO4 P4 ⊢
        go_wp2
        go_roundw
        case rel => exact ⟨k + 1, by omega, by go_num, hO4.out, P4.out.1, P4.out.2.1, P4.out.2.2.1, P4.out.2.2.2.1, P4.out.2.2.2.2⟩
        case measure => simp [intOf]; omega
    · have hkh : k = h1 := by omega
      obtain ⟨y0, y1, y2⟩ := cells3 hP.out
      obtain ⟨f0, f1, f2⟩ := cells3 hZ.out
      have z0 := frozen_of_row _ _ 0 _ _ hZ.out
      have z1 := frozen_of_row _ _ 1 _ _ hZ.out
      have z2 := frozen_of_row _ _ 2 _ _ hZ.out
      have hge : (h1 : Int) ≤ (k : Int) := by omega
      have OF : Hid (wr.ownsRow (w.heap.size + 3) 5 1 (.slice q nP cP) nP ((R1.map (mulR w2 R2)).flatten.map B8)) := by
        have := hO.out
        unfold mulC at this
        rw [hkh, Nat.sub_self, Nat.zero_mul, List.replicate_zero, List.append_nil, List.take_of_length_le (by rw [HR1L.out]; exact Nat.le_refl _)] at this
        exact this
      clear hkh hO hR hX
      go_wp2
      refine bodyPost_ret (results_cell_tmp rfl _ _ _ 27 #[.int .i64 h1, .int .i64 w2, .slice q nP cP] (0, 0) _ (.int .i64 0) rfl (hss (hss (hss hZ.out))) rfl Try.underlying27 rfl hinfo) rfl ⟨q, nP, cP, HNE.out, rfl, ?_, ((hB.out.setCell (by simp; omega) _).setCell (by simp; omega) _).setCell (by simp; omega) _⟩
      exact owns_mono (owns_set (owns_set (owns_set OF.out (by simp)) (by simp)) (by simp)) (by simp)
end Go.Proofs.Ytofhdakggapahaa
namespace Go.Proofs.Ytofhdakggapahaa
open Go.RowKit Go.By
theorem Same_q (p1 p2 : Option Addr) (n1 n2 c1 c2 : Nat) (xs ys : List UInt8) (w : World) (q : Nat) (h1 : Sl B8 w p1 n1 c1 xs) (h2 : Sl B8 w p2 n2 c2 ys) :
    Calls Try.prog 48 #[.slice p1 n1 c1, .slice p2 n2 c2] (w.drewN q) fun e w'' => e = .returned (.bool (decide (xs = ys))) ∧ ∃ m, w'' = w.drewN m :=
  Calls.quiet_of (Same_d p1 p2 n1 n2 c1 c2 xs ys (w.drewN q) (dr h1 q) (dr h2 q))
set_option maxRecDepth 100000 in
set_option maxHeartbeats 1000000 in
theorem Same7_any (p1 p2 : Option Addr) (n1 n2 c1 c2 : Nat) (xss yss : List (List UInt8)) (w : World) (h1 : Sl2 w p1 n1 c1 xss) (h2 : Sl2 w p2 n2 c2 yss) :
    Calls Try.prog 16 #[.slice p1 n1 c1, .slice p2 n2 c2] w fun e w' => e = .returned (.bool (decide (xss = yss))) ∧ Below w.heap.size w w' := by
  have b1 := h1.bound; have b2 := h2.bound
  by_cases he : n1 = n2
  · obtain rfl := he
    have H1 := Lib.hid h1; have H2 := Lib.hid h2; clear h1 h2
    go_enter Try.func16, Try.ntmps16
    go_wp2
    go_loopw [13] (fun i wr => ∃ k q : Nat, k ≤ n1 ∧ i = .int .i64 k ∧ wr = w.drewN q ∧ Hid (∀ j : Nat, j < k → xss[j]? = yss[j]?)) (fun i _ => n1 - (intOf i).toNat)
    case atStart => exact ⟨0, 0, Nat.zero_le _, rfl, rfl, fun j hj => by omega⟩
    case round =>
      obtain ⟨k, q, hk, rfl, rfl, hj⟩ := hrel
      by_cases hlt : k < n1
      · obtain ⟨b, o, q1, m1, k1, x, rfl, hc, hs1, hx⟩ := H1.out.at k hlt
        obtain ⟨b', o', q2, m2, k2, y, rfl, hc', hs2, hy⟩ := H2.out.at k hlt
        have HS1 := Lib.hid hs1; have HS2 := Lib.hid hs2
        have i1 : (k : Int) < (n1 : Int) := by omega
        have CS : Hid (∀ q', Calls Try.prog 48 #[.slice q1 m1 k1, .slice q2 m2 k2] (w.drewN (q + q')) fun e w'' => e = .returned (.bool (decide (x = y))) ∧ ∃ m, w'' = w.drewN (q + m)) := fun q' => by
          have := Same_q _ _ _ _ _ _ x y (w.drewN q) q' (dr HS1.out q) (dr HS2.out q)
          simpa only [World.drewN_drewN] using this
        clear hs1 hs2
        by_cases hxy : x = y
        · rw [decide_eq_true hxy] at CS
          have HX := Lib.hid hxy; clear hxy
          go_wp2
          go_quiet ((go_at_call 48; exact CS.out _))
          go_wp2
          go_roundw
          case rel => exact ⟨k + 1, _, by omega, by go_num, rfl, fun j hj' => by
            by_cases e : j = k
            · subst e; rw [hx.out, hy.out, HX.out]
            · exact hj.out j (by omega)⟩
          case measure => simp [intOf]; omega
        · rw [decide_eq_false hxy] at CS
          have HX := Lib.hid hxy; clear hxy
          go_wp2
          go_quiet ((go_at_call 48; exact CS.out _))
          go_wp2
          go_ret
          refine ⟨?_, bdn (below_drewN _ _)⟩
          have : ¬ xss = yss := by rintro rfl; exact HX.out (Option.some.inj (hx.out.symm.trans hy.out))
          simp [this]
      · go_wp2
        go_ret
        refine ⟨?_, below_drewN _ _⟩
        have : xss = yss := by
          apply List.ext_getElem?
          intro j
          by_cases hjk : j < k
          · exact hj.out j hjk
          · rw [List.getElem?_eq_none (by have := H1.out.len; omega), List.getElem?_eq_none (by have := H2.out.len; omega)]
        simp [this]
  · have hne : ((n1 : Int) != (n2 : Int)) = true := by simp; omega
    have HN : Hid (decide (xss = yss) = false) := by
      simp only [Hid, decide_eq_false_iff_not]; rintro rfl; exact he (h1.len.symm.trans h2.len)
    clear h1 h2
    go_enter Try.func16, Try.ntmps16
    go_wp2
    go_ret
    exact ⟨by rw [HN.out]; rfl, Below.refl _ _⟩
end Go.Proofs.Ytofhdakggapahaa
namespace Go.Proofs.Ytofhdakggapahaa
open Go.RowKit Go.By
theorem use_w {P : Program} {f : FuncId} {args : Array Value} {W : World} {Q : Ending → World → Prop} (I : World → Prop) (h : I W) (k : ∀ W', I W' → Calls P f args W' Q) : Calls P f args W Q := k W h
set_option maxRecDepth 100000 in
set_option maxHeartbeats 2000000 in
theorem awake07 (w : World) : Calls Try.prog 9 #[] w fun e w' => e = .returned (.bool true) ∧ Below w.heap.size w w' := by
  have R1 : (kF 2 [1, 2, 2, 4] 2).length = 1 := by decide +kernel
  have R2 : (kF 2 [1, 2, 2, 5] 2).length = 2 := by decide +kernel
  have O1 : Hid (∀ W q c, Sl2 W q 2 c [[1, 2], [2, 4]] → Calls Try.prog 11 #[.int .i64 2, .slice q 2 c] W (RetG2 5 W 2 2 [1, 2, 2, 4] 0)) := fun W q c h => GOf_good 2 q 2 c [[1, 2], [2, 4]] W h (by omega) (by omega) (by omega) (by decide)
  have O2 : Hid (∀ W q c, Sl2 W q 2 c [[1, 2], [2, 5]] → Calls Try.prog 11 #[.int .i64 2, .slice q 2 c] W (RetG2 5 W 2 2 [1, 2, 2, 5] 0)) := fun W q c h => GOf_good 2 q 2 c [[1, 2], [2, 5]] W h (by omega) (by omega) (by omega) (by decide)
  have K1 : Hid (∀ W q c, Sl B8 W q 4 c [1, 2, 2, 4] → Calls Try.prog 20 #[.agg #[.int .i64 2, .int .i64 2, .slice q 4 c]] W fun e w' => e = .returned (.int .i64 1) ∧ Below W.heap.size W w') := fun W q c h => by
    have := Rank_any 2 2 q 4 c [1, 2, 2, 4] W h rfl (by unfold Room; omega) (by omega)
    rw [R1] at this; exact this
  have K2 : Hid (∀ W q c, Sl B8 W q 4 c [1, 2, 2, 5] → Calls Try.prog 20 #[.agg #[.int .i64 2, .int .i64 2, .slice q 4 c]] W fun e w' => e = .returned (.int .i64 2) ∧ Below W.heap.size W w') := fun W q c h => by
    have := Rank_any 2 2 q 4 c [1, 2, 2, 5] W h rfl (by unfold Room; omega) (by omega)
    rw [R2] at this; exact this
  clear R1 R2
  go_enter Try.func9, Try.ntmps9
  go_wp2_with fail
  refine use_w (fun W => Sl2 W (some ⟨w.heap.size + 1 + 1, 0, none⟩) 2 2 [[1, 2], [2, 4]] ∧ Below w.heap.size w W) ⟨sl2_pair (hnew (by simp)) (sl_block [1, 2] 2 (hal (hal (hnew rfl))) rfl rfl (by simp [maxLen])) (sl_block [2, 4] 2 (hal (hnew (by simp))) rfl rfl (by simp [maxLen])), al (al (al (Below.refl _ _) (Nat.le_refl _)) (by simp)) (by simp; omega)⟩ ?_
  rintro W1 ⟨s1, b1⟩
  refine Calls.mono (O1.out _ _ _ s1) ?_
  rintro e w2 ⟨q1, n1, c1, rfl, rfl, o1, hb1⟩
  have S1 := Lib.hid (Sl.of_owns o1)
  have B1 := Lib.hid (bl b1 hb1 b1.size)
  clear s1 b1 o1 hb1 O1
  go_wp2_with fail
  refine use_w (fun W => Sl2 W (some ⟨w2.heap.size + 1 + 1 + 1, 0, none⟩) 2 2 [[1, 2], [2, 5]] ∧ Below w2.heap.size w2 W ∧ W.heap[w2.heap.size]? = some (.cells #[.int .i64 2, .int .i64 2, .slice q1 4 c1] 27 (0, 0))) ⟨sl2_pair (hnew (by simp)) (sl_block [1, 2] 2 (hal (hal (hnew (by simp)))) rfl rfl (by simp [maxLen])) (sl_block [2, 5] 2 (hal (hnew (by simp))) rfl rfl (by simp [maxLen])), al (al (al (al (Below.refl _ _) (Nat.le_refl _)) (by simp)) (by simp; omega)) (by simp; omega), hal (hal (hal (hnew rfl)))⟩ ?_
  rintro W3 ⟨s2, b2, x2⟩
  refine Calls.mono (O2.out _ _ _ s2) ?_
  rintro e w4 ⟨q2, n2, c2, rfl, rfl, o2, hb2⟩
  have S2 := Lib.hid (Sl.of_owns o2)
  have b24 := bl b2 hb2 b2.size
  have S1' := Lib.hid (S1.out.keep b24)
  have X4 : Hid (w4.heap[w2.heap.size]? = some (.cells #[.int .i64 2, .int .i64 2, .slice q1 4 c1] 27 (0, 0))) := (hb2.block _ (blk_lt x2)).trans x2
  have B4 := Lib.hid (bl B1.out b24 B1.out.size)
  clear s2 b2 o2 hb2 O2 x2 S1 B1 b24
  obtain ⟨f0, f1, f2⟩ := cells3 (hal (o := .cells #[.int .i64 2, .int .i64 2, .slice q2 4 c2] 27) X4.out)
  have bal : ∀ (W : World) (o : Obj), Below W.heap.size W (W.alloc o) := fun W o => al (Below.refl _ _) (Nat.le_refl _)
  have HBAL := Lib.hid bal
  clear bal
  go_wp2_with fail
  refine use_w (fun W => Below w4.heap.size w4 W ∧ W.heap[w4.heap.size]? = some (.cells #[.int .i64 2, .int .i64 2, .slice q2 4 c2] 27 (0, 0))) ⟨HBAL.out _ _, hnew rfl⟩ ?_
  rintro W5 ⟨b5, x5⟩
  refine Calls.mono (K1.out _ _ _ (S1'.out.keep b5)) ?_
  rintro e w6 ⟨rfl, hb6⟩
  have S2' := Lib.hid (S2.out.keep (bl b5 hb6 b5.size))
  have X6 := (hb6.block _ (blk_lt x5)).trans x5
  have B6 := Lib.hid (bl B4.out (bl b5 hb6 b5.size) B4.out.size)
  clear f0 f1 f2 S1' S2 X4 B4 b5 x5 hb6 K1 HBAL
  obtain ⟨f0, f1, f2⟩ := cells3 X6
  clear X6
  go_wp2_with fail
  refine Calls.mono (K2.out _ _ _ S2'.out) ?_
  rintro e w7 ⟨rfl, hb7⟩
  have B7 := Lib.hid (bl B6.out hb7 B6.out.size)
  clear f0 f1 f2 S2' B6 hb7 K2
  go_wp2
  go_ret
  exact ⟨rfl, B7.out⟩
end Go.Proofs.Ytofhdakggapahaa
namespace Go.Proofs.Ytofhdakggapahaa
open Go.RowKit Go.By
theorem rowF_cons {wd : Nat} {x : List UInt8} {l : List (List UInt8)} (hx : x.length = wd) (i : Nat) : rowF wd (x :: l).flatten (i + 1) = rowF wd l.flatten i := by
  unfold rowF
  rw [List.flatten_cons, Nat.add_mul, Nat.one_mul, Nat.add_comm, ← List.drop_drop, ← hx, List.drop_left]
theorem rows_flat {wd : Nat} : ∀ {xss : List (List UInt8)}, (∀ x, x ∈ xss → x.length = wd) → (List.range xss.length).map (rowF wd xss.flatten) = xss
  | [], _ => rfl
  | x :: l, h => by
    have hx := h x (by simp)
    rw [List.length_cons, List.range_succ_eq_map, List.map_cons, List.map_map]
    congr 1
    · unfold rowF; rw [Nat.zero_mul, List.drop_zero, List.flatten_cons, ← hx, List.take_left]
    · have e : (rowF wd (x :: l).flatten ∘ Nat.succ) = rowF wd l.flatten := by funext i; exact rowF_cons hx i
      rw [e]; exact rows_flat (fun y hy => h y (by simp [hy]))
theorem flat_rows {wd : Nat} : ∀ (n : Nat) {C : List UInt8}, C.length = n * wd → ((List.range n).map (rowF wd C)).flatten = C
  | 0, C, h => by have : C = [] := List.length_eq_zero_iff.1 (by simpa using h)
                  subst this; rfl
  | n + 1, C, h => by
    rw [List.range_succ_eq_map, List.map_cons, List.map_map, List.flatten_cons]
    have e : (rowF wd C ∘ Nat.succ) = rowF wd (C.drop wd) := by
      funext i; unfold rowF; simp only [Function.comp]
      rw [List.drop_drop, Nat.succ_mul, Nat.add_comm]
    rw [e, flat_rows n (by rw [List.length_drop, h, Nat.add_mul]; omega)]
    unfold rowF
    rw [Nat.zero_mul, List.drop_zero, List.take_append_drop]
theorem unitC_at (n : Nat) : ∀ k, k ≤ n → ∀ a b, a < n → b < n → (unitC n k)[a * n + b]? = some (if a = b ∧ a < k then 1 else 0)
  | 0, _, a, b, ha, hb => by
    have hlt : a * n + b < n * n := by
      have : (a + 1) * n ≤ n * n := Nat.mul_le_mul_right _ ha
      rw [Nat.add_mul, Nat.one_mul] at this; omega
    unfold unitC; rw [List.getElem?_replicate_of_lt hlt]; simp
  | k + 1, hk, a, b, ha, hb => by
    have hlt : a * n + b < n * n := by
      have : (a + 1) * n ≤ n * n := Nat.mul_le_mul_right _ ha
      rw [Nat.add_mul, Nat.one_mul] at this; omega
    have ih := unitC_at n k (by omega) a b ha hb
    unfold unitC
    rw [List.getElem?_set]
    by_cases e : k * n + k = a * n + b
    · have h1 : k = a := by
        have d1 : (k * n + k) / n = k := by rw [Nat.mul_comm, Nat.mul_add_div (by omega), Nat.div_eq_of_lt (by omega)]; rfl
        have d2 : (a * n + b) / n = a := by rw [Nat.mul_comm, Nat.mul_add_div (by omega), Nat.div_eq_of_lt hb]; rfl
        rw [e, d2] at d1; exact d1.symm
      subst h1
      have h2 : k = b := by omega
      subst h2
      rw [if_pos rfl, unitC_len, if_pos hlt, if_pos ⟨rfl, by omega⟩]
    · rw [if_neg e, ih]
      by_cases h1 : a = b
      · subst h1
        have : a ≠ k := fun h => e (by rw [h])
        by_cases h2 : a < k
        · rw [if_pos ⟨rfl, h2⟩, if_pos ⟨rfl, by omega⟩]
        · rw [if_neg (fun h => h2 h.2), if_neg (fun h => h2 (by omega))]
      · rw [if_neg (fun h => h1 h.1), if_neg (fun h => h1 h.1)]
theorem unit_elem {N k j : Nat} {row : List UInt8} {x : UInt8} (hk : k < N) (hrow : ((List.range N).map (rowF N (unitC N N)))[k]? = some row) (hx : row[j]? = some x) (hj : j < N) : x = if k = j then 1 else 0 := by
  rw [List.getElem?_map, List.getElem?_range hk] at hrow
  have e : rowF N (unitC N N) k = row := by simpa using hrow
  rw [← e] at hx
  unfold rowF at hx
  rw [List.getElem?_take, if_pos hj, List.getElem?_drop, unitC_at N N (Nat.le_refl _) k j hk hj] at hx
  have := Option.some.inj hx
  rw [← this]
  by_cases h : k = j
  · rw [if_pos h, if_pos ⟨h, hk⟩]
  · rw [if_neg h, if_neg (fun g => h g.1)]
/-- a grid is a unit just where its rows are -/
theorem unit_same {N wd m : Nat} {xss : List (List UInt8)} (hm : xss.length = m) (h : ∀ x, x ∈ xss → x.length = wd) : decide (wd = N ∧ m = N ∧ xss.flatten = unitC N N) = (decide (wd = N) && decide (xss = (List.range N).map (rowF N (unitC N N)))) := by
  by_cases e : wd = N
  · subst e
    rw [decide_eq_true rfl, Bool.true_and, decide_eq_decide]
    constructor
    · rintro ⟨_, h2, h3⟩
      have := rows_flat h
      rw [hm, h2, h3] at this
      exact this.symm
    · intro h2
      refine ⟨rfl, ?_, ?_⟩
      · rw [← hm, h2]; simp
      · rw [h2]; exact flat_rows wd (unitC_len wd wd)
  · rw [decide_eq_false (fun h => e h.1), decide_eq_false e, Bool.false_and]
end Go.Proofs.Ytofhdakggapahaa
namespace Go.Proofs.Ytofhdakggapahaa
open Go.RowKit Go.By
set_option maxRecDepth 100000 in
set_option maxHeartbeats 4000000 in
theorem GT_bb (width code : Int) (n : Int) (p : Option Addr) (m c : Nat) (xss : List (List UInt8)) (w : World) (h : Sl2 w p m c xss) (hf : xss.all (fun y => decide (y.length ≤ 30)) = true) (hm : m ≤ 30)
    (hO : ∀ W, Sl2 W p m c xss → Calls Try.prog 11 #[.int .i64 width, .slice p m c] W (RetG2 5 W 0 0 [] code)) (hR : ∀ W, Sl2 W p m c xss → Calls Try.prog 13 #[.int .i64 width, .slice p m c] W fun e w' => e = .returned (.int .i64 code) ∧ W = w') (hcode : code ≠ 0)
    (hn : n < 0 ∨ 256 < n) :
    Calls Try.prog 3 #[.int .i64 width, .slice p m c, .int .i64 n] w fun e w' => e = .returned (.bool true) ∧ Below w.heap.size w w' := by
  have HO := Lib.hid hO; have HR := Lib.hid hR
  have hc1 : (code == 0) = false := by simpa using hcode
  have hc2 : (code != 0) = true := by simpa using hcode
  clear hO hR hcode
  have HU : Hid (∀ W, Calls Try.prog 12 #[.int .i64 n] W (RetG2 5 W 0 0 [] 2)) := fun W => Unit_bad n W hn
  have HF : Hid (∀ W, Sl2 W p m c xss → Calls Try.prog 10 #[.slice p m c] W fun e w' => e = .returned (.bool true) ∧ W = w') := fun W h => by
    have := Few7_any p m c xss W h
    rw [hf, decide_eq_true hm] at this; exact this
  have H := Lib.hid h
  have HF1 := Lib.hid hf
  clear h hf
  rcases hn with hn | hn
  · go_enter Try.func3, Try.ntmps3
    go_wp2_with fail
    refine (awake07 _).mono ?_; rintro e w1 ⟨rfl, k1⟩
    have H1 := Lib.hid (H.out.keep k1); have B1 := Lib.hid k1
    clear k1 H
    go_wp2_with fail
    refine Calls.mono (HF.out _ H1.out) ?_; rintro e w' ⟨rfl, rfl⟩
    go_wp2_with fail
    refine Calls.mono (HO.out _ H1.out) ?_; rintro e w2 ⟨q1, n1, c1, hn1, rfl, o1, hb1⟩
    have S1 := Lib.hid (Sl.of_owns o1); have H2 := Lib.hid (H1.out.keep hb1); have B2 := Lib.hid (bl B1.out hb1 B1.out.size); have HN1 := Lib.hid hn1
    clear o1 hb1 H1 B1 hn1
    go_wp2_with fail
    refine use_w (fun W => Below w2.heap.size w2 W ∧ W.heap[w2.heap.size]? = some (.cells #[.int .i64 0, .int .i64 0, .slice q1 n1 c1] 27 (0, 0))) ⟨al (Below.refl _ _) (Nat.le_refl _), hnew rfl⟩ ?_
    rintro w3 ⟨b3, x3⟩
    refine Calls.mono (HU.out _) ?_; rintro e w4 ⟨q2, n2, c2, hn2, rfl, o2, hb4⟩
    have b24 := bl b3 hb4 b3.size
    have S2 := Lib.hid (Sl.of_owns o2); have S1' := Lib.hid (S1.out.keep b24); have H4 := Lib.hid (H2.out.keep b24); have B4 := Lib.hid (bl B2.out b24 B2.out.size); have HN2 := Lib.hid hn2
    have X4 : Hid (w4.heap[w2.heap.size]? = some (.cells #[.int .i64 0, .int .i64 0, .slice q1 n1 c1] 27 (0, 0))) := (hb4.block _ (blk_lt x3)).trans x3
    clear b3 x3 o2 hb4 b24 S1 H2 B2 hn2
    go_wp2_with fail
    refine use_w (fun W => Below w4.heap.size w4 W ∧ W.heap[w4.heap.size]? = some (.cells #[.int .i64 0, .int .i64 0, .slice q2 n2 c2] 27 (0, 0))) ⟨al (Below.refl _ _) (Nat.le_refl _), hnew rfl⟩ ?_
    rintro w5 ⟨b5, x5⟩
    have S15 := Lib.hid (S1'.out.keep b5); have S25 := Lib.hid (S2.out.keep b5); have H5 := Lib.hid (H4.out.keep b5); have B5 := Lib.hid (bl B4.out b5 B4.out.size)
    have X7 : Hid (w5.heap[w2.heap.size]? = some (.cells #[.int .i64 0, .int .i64 0, .slice q1 n1 c1] 27 (0, 0))) := (b5.block _ (blk_lt X4.out)).trans X4.out
    have X9 := Lib.hid x5
    clear b5 x5 S1' S2 H4 B4 X4
    refine Calls.mono (HR.out _ H5.out) ?_; rintro e w' ⟨rfl, rfl⟩
    obtain ⟨f0, f1, f2⟩ := cells3 X7.out
    obtain ⟨g0, g1, g2⟩ := cells3 X9.out
    go_wp2_with fail
    refine Calls.mono (Width_any 0 0 _ _) ?_
    rintro e w6 ⟨rfl, hb⟩
    have S1_6 := Lib.hid (S15.out.keep hb); have S2_6 := Lib.hid (S25.out.keep hb); have H_6 := Lib.hid (H5.out.keep hb); have B_6 := Lib.hid (bl B5.out hb B5.out.size)
    have X7_6 := Lib.hid ((hb.block _ (blk_lt X7.out)).trans X7.out); have X9_6 := Lib.hid ((hb.block _ (blk_lt X9.out)).trans X9.out)
    clear hb S15 S25 H5 B5 X7 X9 f0 f1 f2 g0 g1 g2
    obtain ⟨f0, f1, f2⟩ := cells3 X7_6.out
    obtain ⟨g0, g1, g2⟩ := cells3 X9_6.out
    go_wp2_with fail
    refine Calls.mono (Height_any 0 0 _ _) ?_
    rintro e w7 ⟨rfl, hb⟩
    have S1_7 := Lib.hid (S1_6.out.keep hb); have S2_7 := Lib.hid (S2_6.out.keep hb); have H_7 := Lib.hid (H_6.out.keep hb); have B_7 := Lib.hid (bl B_6.out hb B_6.out.size)
    have X7_7 := Lib.hid ((hb.block _ (blk_lt X7_6.out)).trans X7_6.out); have X9_7 := Lib.hid ((hb.block _ (blk_lt X9_6.out)).trans X9_6.out)
    clear hb S1_6 S2_6 H_6 B_6 X7_6 X9_6 f0 f1 f2 g0 g1 g2
    obtain ⟨f0, f1, f2⟩ := cells3 X7_7.out
    obtain ⟨g0, g1, g2⟩ := cells3 X9_7.out
    go_wp2_with fail
    refine Calls.mono (Height_any 0 0 _ _) ?_
    rintro e w8 ⟨rfl, hb⟩
    have S1_8 := Lib.hid (S1_7.out.keep hb); have S2_8 := Lib.hid (S2_7.out.keep hb); have H_8 := Lib.hid (H_7.out.keep hb); have B_8 := Lib.hid (bl B_7.out hb B_7.out.size)
    have X7_8 := Lib.hid ((hb.block _ (blk_lt X7_7.out)).trans X7_7.out); have X9_8 := Lib.hid ((hb.block _ (blk_lt X9_7.out)).trans X9_7.out)
    clear hb S1_7 S2_7 H_7 B_7 X7_7 X9_7 f0 f1 f2 g0 g1 g2
    go_wp2
    go_ret
    exact ⟨rfl, B_8.out⟩
  · have hnn : 0 ≤ n := by omega
    go_enter Try.func3, Try.ntmps3
    go_wp2_with fail
    refine (awake07 _).mono ?_; rintro e w1 ⟨rfl, k1⟩
    have H1 := Lib.hid (H.out.keep k1); have B1 := Lib.hid k1
    clear k1 H
    go_wp2_with fail
    refine Calls.mono (HF.out _ H1.out) ?_; rintro e w' ⟨rfl, rfl⟩
    go_wp2_with fail
    refine Calls.mono (HO.out _ H1.out) ?_; rintro e w2 ⟨q1, n1, c1, hn1, rfl, o1, hb1⟩
    have S1 := Lib.hid (Sl.of_owns o1); have H2 := Lib.hid (H1.out.keep hb1); have B2 := Lib.hid (bl B1.out hb1 B1.out.size); have HN1 := Lib.hid hn1
    clear o1 hb1 H1 B1 hn1
    go_wp2_with fail
    refine use_w (fun W => Below w2.heap.size w2 W ∧ W.heap[w2.heap.size]? = some (.cells #[.int .i64 0, .int .i64 0, .slice q1 n1 c1] 27 (0, 0))) ⟨al (Below.refl _ _) (Nat.le_refl _), hnew rfl⟩ ?_
    rintro w3 ⟨b3, x3⟩
    refine Calls.mono (HU.out _) ?_; rintro e w4 ⟨q2, n2, c2, hn2, rfl, o2, hb4⟩
    have b24 := bl b3 hb4 b3.size
    have S2 := Lib.hid (Sl.of_owns o2); have S1' := Lib.hid (S1.out.keep b24); have H4 := Lib.hid (H2.out.keep b24); have B4 := Lib.hid (bl B2.out b24 B2.out.size); have HN2 := Lib.hid hn2
    have X4 : Hid (w4.heap[w2.heap.size]? = some (.cells #[.int .i64 0, .int .i64 0, .slice q1 n1 c1] 27 (0, 0))) := (hb4.block _ (blk_lt x3)).trans x3
    clear b3 x3 o2 hb4 b24 S1 H2 B2 hn2
    go_wp2_with fail
    refine use_w (fun W => Below w4.heap.size w4 W ∧ W.heap[w4.heap.size]? = some (.cells #[.int .i64 0, .int .i64 0, .slice q2 n2 c2] 27 (0, 0))) ⟨al (Below.refl _ _) (Nat.le_refl _), hnew rfl⟩ ?_
    rintro w5 ⟨b5, x5⟩
    have S15 := Lib.hid (S1'.out.keep b5); have S25 := Lib.hid (S2.out.keep b5); have H5 := Lib.hid (H4.out.keep b5); have B5 := Lib.hid (bl B4.out b5 B4.out.size)
    have X7 : Hid (w5.heap[w2.heap.size]? = some (.cells #[.int .i64 0, .int .i64 0, .slice q1 n1 c1] 27 (0, 0))) := (b5.block _ (blk_lt X4.out)).trans X4.out
    have X9 := Lib.hid x5
    clear b5 x5 S1' S2 H4 B4 X4
    refine Calls.mono (HR.out _ H5.out) ?_; rintro e w' ⟨rfl, rfl⟩
    obtain ⟨f0, f1, f2⟩ := cells3 X7.out
    obtain ⟨g0, g1, g2⟩ := cells3 X9.out
    go_wp2_with fail
    refine Calls.mono (Width_any 0 0 _ _) ?_
    rintro e w6 ⟨rfl, hb⟩
    have S1_6 := Lib.hid (S15.out.keep hb); have S2_6 := Lib.hid (S25.out.keep hb); have H_6 := Lib.hid (H5.out.keep hb); have B_6 := Lib.hid (bl B5.out hb B5.out.size)
    have X7_6 := Lib.hid ((hb.block _ (blk_lt X7.out)).trans X7.out); have X9_6 := Lib.hid ((hb.block _ (blk_lt X9.out)).trans X9.out)
    clear hb S15 S25 H5 B5 X7 X9 f0 f1 f2 g0 g1 g2
    obtain ⟨f0, f1, f2⟩ := cells3 X7_6.out
    obtain ⟨g0, g1, g2⟩ := cells3 X9_6.out
    go_wp2_with fail
    refine Calls.mono (Height_any 0 0 _ _) ?_
    rintro e w7 ⟨rfl, hb⟩
    have S1_7 := Lib.hid (S1_6.out.keep hb); have S2_7 := Lib.hid (S2_6.out.keep hb); have H_7 := Lib.hid (H_6.out.keep hb); have B_7 := Lib.hid (bl B_6.out hb B_6.out.size)
    have X7_7 := Lib.hid ((hb.block _ (blk_lt X7_6.out)).trans X7_6.out); have X9_7 := Lib.hid ((hb.block _ (blk_lt X9_6.out)).trans X9_6.out)
    clear hb S1_6 S2_6 H_6 B_6 X7_6 X9_6 f0 f1 f2 g0 g1 g2
    obtain ⟨f0, f1, f2⟩ := cells3 X7_7.out
    obtain ⟨g0, g1, g2⟩ := cells3 X9_7.out
    go_wp2_with fail
    refine Calls.mono (Height_any 0 0 _ _) ?_
    rintro e w8 ⟨rfl, hb⟩
    have S1_8 := Lib.hid (S1_7.out.keep hb); have S2_8 := Lib.hid (S2_7.out.keep hb); have H_8 := Lib.hid (H_7.out.keep hb); have B_8 := Lib.hid (bl B_7.out hb B_7.out.size)
    have X7_8 := Lib.hid ((hb.block _ (blk_lt X7_7.out)).trans X7_7.out); have X9_8 := Lib.hid ((hb.block _ (blk_lt X9_7.out)).trans X9_7.out)
    clear hb S1_7 S2_7 H_7 B_7 X7_7 X9_7 f0 f1 f2 g0 g1 g2
    go_wp2
    go_ret
    exact ⟨rfl, B_8.out⟩
set_option maxRecDepth 100000 in
set_option maxHeartbeats 4000000 in
theorem GT_gb (wd : Nat) (n : Int) (p : Option Addr) (m c : Nat) (xss : List (List UInt8)) (w : World) (h : Sl2 w p m c xss) (hf : xss.all (fun y => decide (y.length ≤ 30)) = true) (hm : m ≤ 30)
    (hw : wd ≤ 65536) (hmw : m * wd ≤ 65536) (hall : xss.all (fun y => decide (y.length = wd)) = true)
    (hn : n < 0 ∨ 256 < n) :
    Calls Try.prog 3 #[.int .i64 (wd : Nat), .slice p m c, .int .i64 n] w fun e w' => e = .returned (.bool true) ∧ Below w.heap.size w w' := by
  have HO : Hid (∀ W, Sl2 W p m c xss → Calls Try.prog 11 #[.int .i64 wd, .slice p m c] W (RetG2 5 W m wd xss.flatten 0)) := fun W h => GOf_good wd p m c xss W h hw (by omega) hmw hall
  have HR : Hid (∀ W, Sl2 W p m c xss → Calls Try.prog 13 #[.int .i64 wd, .slice p m c] W fun e w' => e = .returned (.int .i64 0) ∧ W = w') := fun W h => by
    have := RGOf_good wd p m c xss W h hw (by omega) hmw
    rw [if_pos hall] at this; exact this
  have HROWS : Hid ((List.range m).map (rowF wd xss.flatten) = xss) := by show _ = _; rw [← h.len]; exact rows_flat (fun x hx => by simpa using List.all_eq_true.1 hall x hx)
  have HGR : Hid (∀ W q n1 c1, n1 = m * wd → Sl B8 W q n1 c1 xss.flatten → Calls Try.prog 17 #[.agg #[.int .i64 m, .int .i64 wd, .slice q n1 c1]] W fun e w' => ∃ q c', e = .returned (.slice q m c') ∧ Own2 25 5 w' W.heap.size (.slice q m c') m xss ∧ Below W.heap.size W w') := fun W q n1 c1 hn hs => by
    have := GRows_any m wd q n1 c1 xss.flatten W hs hn (by unfold Room; omega) (by unfold Room; omega)
    rwa [HROWS.out] at this
  have HU : Hid (∀ W, Calls Try.prog 12 #[.int .i64 n] W (RetG2 5 W 0 0 [] 2)) := fun W => Unit_bad n W hn
  have HF : Hid (∀ W, Sl2 W p m c xss → Calls Try.prog 10 #[.slice p m c] W fun e w' => e = .returned (.bool true) ∧ W = w') := fun W h => by
    have := Few7_any p m c xss W h
    rw [hf, decide_eq_true hm] at this; exact this
  have H := Lib.hid h
  have HF1 := Lib.hid hf
  have HALL := Lib.hid hall; have HMW := Lib.hid hmw
  clear hall hmw
  clear h hf
  rcases hn with hn | hn
  · go_enter Try.func3, Try.ntmps3
    go_wp2_with fail
    refine (awake07 _).mono ?_; rintro e w1 ⟨rfl, k1⟩
    have H1 := Lib.hid (H.out.keep k1); have B1 := Lib.hid k1
    clear k1 H
    go_wp2_with fail
    refine Calls.mono (HF.out _ H1.out) ?_; rintro e w' ⟨rfl, rfl⟩
    go_wp2_with fail
    refine Calls.mono (HO.out _ H1.out) ?_; rintro e w2 ⟨q1, n1, c1, hn1, rfl, o1, hb1⟩
    have S1 := Lib.hid (Sl.of_owns o1); have H2 := Lib.hid (H1.out.keep hb1); have B2 := Lib.hid (bl B1.out hb1 B1.out.size); have HN1 := Lib.hid hn1
    clear o1 hb1 H1 B1 hn1
    go_wp2_with fail
    refine use_w (fun W => Below w2.heap.size w2 W ∧ W.heap[w2.heap.size]? = some (.cells #[.int .i64 m, .int .i64 wd, .slice q1 n1 c1] 27 (0, 0))) ⟨al (Below.refl _ _) (Nat.le_refl _), hnew rfl⟩ ?_
    rintro w3 ⟨b3, x3⟩
    refine Calls.mono (HU.out _) ?_; rintro e w4 ⟨q2, n2, c2, hn2, rfl, o2, hb4⟩
    have b24 := bl b3 hb4 b3.size
    have S2 := Lib.hid (Sl.of_owns o2); have S1' := Lib.hid (S1.out.keep b24); have H4 := Lib.hid (H2.out.keep b24); have B4 := Lib.hid (bl B2.out b24 B2.out.size); have HN2 := Lib.hid hn2
    have X4 : Hid (w4.heap[w2.heap.size]? = some (.cells #[.int .i64 m, .int .i64 wd, .slice q1 n1 c1] 27 (0, 0))) := (hb4.block _ (blk_lt x3)).trans x3
    clear b3 x3 o2 hb4 b24 S1 H2 B2 hn2
    go_wp2_with fail
    refine use_w (fun W => Below w4.heap.size w4 W ∧ W.heap[w4.heap.size]? = some (.cells #[.int .i64 0, .int .i64 0, .slice q2 n2 c2] 27 (0, 0))) ⟨al (Below.refl _ _) (Nat.le_refl _), hnew rfl⟩ ?_
    rintro w5 ⟨b5, x5⟩
    have S15 := Lib.hid (S1'.out.keep b5); have S25 := Lib.hid (S2.out.keep b5); have H5 := Lib.hid (H4.out.keep b5); have B5 := Lib.hid (bl B4.out b5 B4.out.size)
    have X7 : Hid (w5.heap[w2.heap.size]? = some (.cells #[.int .i64 m, .int .i64 wd, .slice q1 n1 c1] 27 (0, 0))) := (b5.block _ (blk_lt X4.out)).trans X4.out
    have X9 := Lib.hid x5
    clear b5 x5 S1' S2 H4 B4 X4
    refine Calls.mono (HR.out _ H5.out) ?_; rintro e w' ⟨rfl, rfl⟩
    obtain ⟨f0, f1, f2⟩ := cells3 X7.out
    obtain ⟨g0, g1, g2⟩ := cells3 X9.out
    go_wp2_with fail
    refine Calls.mono (Width_any m wd _ _) ?_
    rintro e w6 ⟨rfl, hb⟩
    have S1_6 := Lib.hid (S15.out.keep hb); have S2_6 := Lib.hid (S25.out.keep hb); have H_6 := Lib.hid (H5.out.keep hb); have B_6 := Lib.hid (bl B5.out hb B5.out.size)
    have X7_6 := Lib.hid ((hb.block _ (blk_lt X7.out)).trans X7.out); have X9_6 := Lib.hid ((hb.block _ (blk_lt X9.out)).trans X9.out)
    clear hb S15 S25 H5 B5 X7 X9 f0 f1 f2 g0 g1 g2
    obtain ⟨f0, f1, f2⟩ := cells3 X7_6.out
    obtain ⟨g0, g1, g2⟩ := cells3 X9_6.out
    go_wp2_with fail
    refine Calls.mono (Height_any m wd _ _) ?_
    rintro e w7 ⟨rfl, hb⟩
    have S1_7 := Lib.hid (S1_6.out.keep hb); have S2_7 := Lib.hid (S2_6.out.keep hb); have H_7 := Lib.hid (H_6.out.keep hb); have B_7 := Lib.hid (bl B_6.out hb B_6.out.size)
    have X7_7 := Lib.hid ((hb.block _ (blk_lt X7_6.out)).trans X7_6.out); have X9_7 := Lib.hid ((hb.block _ (blk_lt X9_6.out)).trans X9_6.out)
    clear hb S1_6 S2_6 H_6 B_6 X7_6 X9_6 f0 f1 f2 g0 g1 g2
    obtain ⟨f0, f1, f2⟩ := cells3 X7_7.out
    obtain ⟨g0, g1, g2⟩ := cells3 X9_7.out
    go_wp2_with fail
    refine Calls.mono (HGR.out _ _ _ _ HN1.out S1_7.out) ?_
    rintro e w8 ⟨q3, c3, rfl, ho3, hb⟩
    have R3 := Lib.hid ho3.sl2
    clear ho3
    have S1_8 := Lib.hid (S1_7.out.keep hb); have S2_8 := Lib.hid (S2_7.out.keep hb); have H_8 := Lib.hid (H_7.out.keep hb); have B_8 := Lib.hid (bl B_7.out hb B_7.out.size)
    have X7_8 := Lib.hid ((hb.block _ (blk_lt X7_7.out)).trans X7_7.out); have X9_8 := Lib.hid ((hb.block _ (blk_lt X9_7.out)).trans X9_7.out)
    clear hb S1_7 S2_7 H_7 B_7 X7_7 X9_7 f0 f1 f2 g0 g1 g2
    obtain ⟨f0, f1, f2⟩ := cells3 X7_8.out
    obtain ⟨g0, g1, g2⟩ := cells3 X9_8.out
    go_wp2_with fail
    refine Calls.mono (Same7_any _ _ _ _ _ _ xss xss _ R3.out H_8.out) ?_
    rintro e w9 ⟨rfl, hb⟩
    have S1_9 := Lib.hid (S1_8.out.keep hb); have S2_9 := Lib.hid (S2_8.out.keep hb); have H_9 := Lib.hid (H_8.out.keep hb); have B_9 := Lib.hid (bl B_8.out hb B_8.out.size)
    have X7_9 := Lib.hid ((hb.block _ (blk_lt X7_8.out)).trans X7_8.out); have X9_9 := Lib.hid ((hb.block _ (blk_lt X9_8.out)).trans X9_8.out)
    clear hb S1_8 S2_8 H_8 B_8 X7_8 X9_8 f0 f1 f2 g0 g1 g2
    rw [decide_eq_true rfl]
    obtain ⟨f0, f1, f2⟩ := cells3 X7_9.out
    obtain ⟨g0, g1, g2⟩ := cells3 X9_9.out
    go_wp2_with fail
    refine Calls.mono (Height_any 0 0 _ _) ?_
    rintro e w10 ⟨rfl, hb⟩
    have S1_10 := Lib.hid (S1_9.out.keep hb); have S2_10 := Lib.hid (S2_9.out.keep hb); have H_10 := Lib.hid (H_9.out.keep hb); have B_10 := Lib.hid (bl B_9.out hb B_9.out.size)
    have X7_10 := Lib.hid ((hb.block _ (blk_lt X7_9.out)).trans X7_9.out); have X9_10 := Lib.hid ((hb.block _ (blk_lt X9_9.out)).trans X9_9.out)
    clear hb S1_9 S2_9 H_9 B_9 X7_9 X9_9 f0 f1 f2 g0 g1 g2
    go_wp2
    go_ret
    exact ⟨rfl, B_10.out⟩
  · have hnn : 0 ≤ n := by omega
    go_enter Try.func3, Try.ntmps3
    go_wp2_with fail
    refine (awake07 _).mono ?_; rintro e w1 ⟨rfl, k1⟩
    have H1 := Lib.hid (H.out.keep k1); have B1 := Lib.hid k1
    clear k1 H
    go_wp2_with fail
    refine Calls.mono (HF.out _ H1.out) ?_; rintro e w' ⟨rfl, rfl⟩
    go_wp2_with fail
    refine Calls.mono (HO.out _ H1.out) ?_; rintro e w2 ⟨q1, n1, c1, hn1, rfl, o1, hb1⟩
    have S1 := Lib.hid (Sl.of_owns o1); have H2 := Lib.hid (H1.out.keep hb1); have B2 := Lib.hid (bl B1.out hb1 B1.out.size); have HN1 := Lib.hid hn1
    clear o1 hb1 H1 B1 hn1
    go_wp2_with fail
    refine use_w (fun W => Below w2.heap.size w2 W ∧ W.heap[w2.heap.size]? = some (.cells #[.int .i64 m, .int .i64 wd, .slice q1 n1 c1] 27 (0, 0))) ⟨al (Below.refl _ _) (Nat.le_refl _), hnew rfl⟩ ?_
    rintro w3 ⟨b3, x3⟩
    refine Calls.mono (HU.out _) ?_; rintro e w4 ⟨q2, n2, c2, hn2, rfl, o2, hb4⟩
    have b24 := bl b3 hb4 b3.size
    have S2 := Lib.hid (Sl.of_owns o2); have S1' := Lib.hid (S1.out.keep b24); have H4 := Lib.hid (H2.out.keep b24); have B4 := Lib.hid (bl B2.out b24 B2.out.size); have HN2 := Lib.hid hn2
    have X4 : Hid (w4.heap[w2.heap.size]? = some (.cells #[.int .i64 m, .int .i64 wd, .slice q1 n1 c1] 27 (0, 0))) := (hb4.block _ (blk_lt x3)).trans x3
    clear b3 x3 o2 hb4 b24 S1 H2 B2 hn2
    go_wp2_with fail
    refine use_w (fun W => Below w4.heap.size w4 W ∧ W.heap[w4.heap.size]? = some (.cells #[.int .i64 0, .int .i64 0, .slice q2 n2 c2] 27 (0, 0))) ⟨al (Below.refl _ _) (Nat.le_refl _), hnew rfl⟩ ?_
    rintro w5 ⟨b5, x5⟩
    have S15 := Lib.hid (S1'.out.keep b5); have S25 := Lib.hid (S2.out.keep b5); have H5 := Lib.hid (H4.out.keep b5); have B5 := Lib.hid (bl B4.out b5 B4.out.size)
    have X7 : Hid (w5.heap[w2.heap.size]? = some (.cells #[.int .i64 m, .int .i64 wd, .slice q1 n1 c1] 27 (0, 0))) := (b5.block _ (blk_lt X4.out)).trans X4.out
    have X9 := Lib.hid x5
    clear b5 x5 S1' S2 H4 B4 X4
    refine Calls.mono (HR.out _ H5.out) ?_; rintro e w' ⟨rfl, rfl⟩
    obtain ⟨f0, f1, f2⟩ := cells3 X7.out
    obtain ⟨g0, g1, g2⟩ := cells3 X9.out
    go_wp2_with fail
    refine Calls.mono (Width_any m wd _ _) ?_
    rintro e w6 ⟨rfl, hb⟩
    have S1_6 := Lib.hid (S15.out.keep hb); have S2_6 := Lib.hid (S25.out.keep hb); have H_6 := Lib.hid (H5.out.keep hb); have B_6 := Lib.hid (bl B5.out hb B5.out.size)
    have X7_6 := Lib.hid ((hb.block _ (blk_lt X7.out)).trans X7.out); have X9_6 := Lib.hid ((hb.block _ (blk_lt X9.out)).trans X9.out)
    clear hb S15 S25 H5 B5 X7 X9 f0 f1 f2 g0 g1 g2
    obtain ⟨f0, f1, f2⟩ := cells3 X7_6.out
    obtain ⟨g0, g1, g2⟩ := cells3 X9_6.out
    go_wp2_with fail
    refine Calls.mono (Height_any m wd _ _) ?_
    rintro e w7 ⟨rfl, hb⟩
    have S1_7 := Lib.hid (S1_6.out.keep hb); have S2_7 := Lib.hid (S2_6.out.keep hb); have H_7 := Lib.hid (H_6.out.keep hb); have B_7 := Lib.hid (bl B_6.out hb B_6.out.size)
    have X7_7 := Lib.hid ((hb.block _ (blk_lt X7_6.out)).trans X7_6.out); have X9_7 := Lib.hid ((hb.block _ (blk_lt X9_6.out)).trans X9_6.out)
    clear hb S1_6 S2_6 H_6 B_6 X7_6 X9_6 f0 f1 f2 g0 g1 g2
    obtain ⟨f0, f1, f2⟩ := cells3 X7_7.out
    obtain ⟨g0, g1, g2⟩ := cells3 X9_7.out
    go_wp2_with fail
    refine Calls.mono (HGR.out _ _ _ _ HN1.out S1_7.out) ?_
    rintro e w8 ⟨q3, c3, rfl, ho3, hb⟩
    have R3 := Lib.hid ho3.sl2
    clear ho3
    have S1_8 := Lib.hid (S1_7.out.keep hb); have S2_8 := Lib.hid (S2_7.out.keep hb); have H_8 := Lib.hid (H_7.out.keep hb); have B_8 := Lib.hid (bl B_7.out hb B_7.out.size)
    have X7_8 := Lib.hid ((hb.block _ (blk_lt X7_7.out)).trans X7_7.out); have X9_8 := Lib.hid ((hb.block _ (blk_lt X9_7.out)).trans X9_7.out)
    clear hb S1_7 S2_7 H_7 B_7 X7_7 X9_7 f0 f1 f2 g0 g1 g2
    obtain ⟨f0, f1, f2⟩ := cells3 X7_8.out
    obtain ⟨g0, g1, g2⟩ := cells3 X9_8.out
    go_wp2_with fail
    refine Calls.mono (Same7_any _ _ _ _ _ _ xss xss _ R3.out H_8.out) ?_
    rintro e w9 ⟨rfl, hb⟩
    have S1_9 := Lib.hid (S1_8.out.keep hb); have S2_9 := Lib.hid (S2_8.out.keep hb); have H_9 := Lib.hid (H_8.out.keep hb); have B_9 := Lib.hid (bl B_8.out hb B_8.out.size)
    have X7_9 := Lib.hid ((hb.block _ (blk_lt X7_8.out)).trans X7_8.out); have X9_9 := Lib.hid ((hb.block _ (blk_lt X9_8.out)).trans X9_8.out)
    clear hb S1_8 S2_8 H_8 B_8 X7_8 X9_8 f0 f1 f2 g0 g1 g2
    rw [decide_eq_true rfl]
    obtain ⟨f0, f1, f2⟩ := cells3 X7_9.out
    obtain ⟨g0, g1, g2⟩ := cells3 X9_9.out
    go_wp2_with fail
    refine Calls.mono (Height_any 0 0 _ _) ?_
    rintro e w10 ⟨rfl, hb⟩
    have S1_10 := Lib.hid (S1_9.out.keep hb); have S2_10 := Lib.hid (S2_9.out.keep hb); have H_10 := Lib.hid (H_9.out.keep hb); have B_10 := Lib.hid (bl B_9.out hb B_9.out.size)
    have X7_10 := Lib.hid ((hb.block _ (blk_lt X7_9.out)).trans X7_9.out); have X9_10 := Lib.hid ((hb.block _ (blk_lt X9_9.out)).trans X9_9.out)
    clear hb S1_9 S2_9 H_9 B_9 X7_9 X9_9 f0 f1 f2 g0 g1 g2
    go_wp2
    go_ret
    exact ⟨rfl, B_10.out⟩
end Go.Proofs.Ytofhdakggapahaa
