/- Chapter 11: fits, piece, Cut, Spread. -/
import Derived.Test.YtnlfohbmdmeodaaCB
import Derived.Test.YtnlfohbmdmeodaaP7
import Derived.Laws.OwnMore
import Derived.OwnWalk
namespace Go.By
open Go.RowKit
/-- symbol i of an object -/
def pieceS (o : List UInt8) (s i : Nat) : List UInt8 := fillC (List.replicate s 0) (o.drop (i * s))
theorem pieceS_len (o : List UInt8) (s i : Nat) : (pieceS o s i).length = s := by unfold pieceS; rw [fillS_lenC, List.length_replicate]
/-- slices to new blocks, the first ones known -/
def tabC (m s : Nat) (G : List Nat) : Array Value := (G.map (fun g => Value.slice (some ⟨g, 0, none⟩) s s) ++ List.replicate (m - G.length) (Value.slice none 0 0)).toArray
theorem tabC_at {m s k : Nat} {G : List Nat} (h : G.length = k) (hk : k < m) : (tabC m s G)[k]? = some (.slice none 0 0) := by
  subst h
  unfold tabC
  rw [List.getElem?_toArray, List.getElem?_append_right (by simp), List.length_map, Nat.sub_self, List.getElem?_replicate, if_pos (by omega)]
theorem tabC_set {m s k g : Nat} {G : List Nat} (h : G.length = k) (hk : k < m) : (tabC m s G).setIfInBounds k (.slice (some ⟨g, 0, none⟩) s s) = tabC m s (G ++ [g]) := by
  subst h
  unfold tabC
  rw [List.setIfInBounds_toArray]
  congr 1
  have e : m - G.length = (m - (G ++ [g]).length) + 1 := by simp; omega
  rw [e, List.replicate_succ, List.map_append, List.append_assoc]
  have hl : G.length = (G.map (fun g => Value.slice (some ⟨g, 0, none⟩) s s)).length := by simp
  conv => lhs; rw [hl]
  rw [List.set_append_right _ _ (Nat.le_refl _), Nat.sub_self]; rfl
theorem blk_ltC {w : World} {b : Nat} {o : Obj} (h : w.heap[b]? = some o) : b < w.heap.size := by
  rcases Nat.lt_or_ge b w.heap.size with g | g
  · exact g
  · rw [Array.getElem?_eq_none g] at h; cases h
/-- the symbols cut so far -/
def PcsC (T : TypeId) (o : List UInt8) (s gL : Nat) (G : List Nat) (W : World) : Prop := ∀ (j g : Nat), G[j]? = some g → W.heap[g]? = some (.cells ((pieceS o s j).map B8).toArray T (0, 0)) ∧ gL < g
theorem PcsC.keep {T : TypeId} {o : List UInt8} {s gL : Nat} {G : List Nat} {W W' : World} (h : PcsC T o s gL G W) (hb : Below W.heap.size W W') : PcsC T o s gL G W' := fun j g hj => ⟨(hb.block _ (blk_ltC (h j g hj).1)).trans (h j g hj).1, (h j g hj).2⟩
theorem PcsC.set {T : TypeId} {o : List UInt8} {s gL i : Nat} {G : List Nat} {W : World} {v : Value} (h : PcsC T o s gL G W) : PcsC T o s gL G (W.setCell ⟨gL, i, none⟩ v) := fun j g hj => ⟨hsc (h j g hj).1 (by have := (h j g hj).2; show g ≠ gL; omega), (h j g hj).2⟩
theorem PcsC.push {T : TypeId} {o : List UInt8} {s gL g : Nat} {G : List Nat} {W : World} (h : PcsC T o s gL G W) (hg : W.heap[g]? = some (.cells ((pieceS o s G.length).map B8).toArray T (0, 0))) (hl : gL < g) : PcsC T o s gL (G ++ [g]) W := fun j g' hj => by
  rcases Nat.lt_or_ge j G.length with h1 | h1
  · rw [List.getElem?_append_left h1] at hj; exact h j g' hj
  · rw [List.getElem?_append_right h1] at hj
    have h2 : j - G.length = 0 := by
      rcases Nat.eq_zero_or_pos (j - G.length) with e | e
      · exact e
      · rw [List.getElem?_eq_none (by simp; omega)] at hj; cases hj
    rw [h2] at hj
    cases hj
    obtain rfl : j = G.length := by omega
    exact ⟨hg, hl⟩
theorem range_atC {n i k : Nat} (h : (List.range n)[i]? = some k) : i < n ∧ k = i := by
  obtain ⟨h1, h2⟩ := List.getElem?_eq_some_iff.1 h
  rw [List.getElem_range] at h2
  exact ⟨by simpa using h1, h2.symm⟩
theorem PcsC.sl2 {T U : TypeId} {o : List UInt8} {s gL : Nat} {G : List Nat} {W : World} {fr : Nat × Nat} (h : PcsC T o s gL G W) (hL : W.heap[gL]? = some (.cells (tabC G.length s G) U fr)) (hm : G.length ≤ maxLen) (hs : s ≤ maxLen) : Sl2 W (some ⟨gL, 0, none⟩) G.length G.length ((List.range G.length).map (pieceS o s)) := by
  refine sl2_block ((List.range G.length).map (pieceS o s)) G.length hL (by simp [tabC]) (by simp) hm ?_
  intro i xs hi
  rw [List.getElem?_map] at hi
  obtain ⟨k, hk, rfl⟩ := Option.map_eq_some_iff.1 hi
  obtain ⟨hk1, e⟩ := range_atC hk
  rw [e]
  obtain ⟨g, hg⟩ : ∃ g, G[i]? = some g := ⟨G[i]'hk1, List.getElem?_eq_getElem _⟩
  refine ⟨some ⟨g, 0, none⟩, s, s, ?_, ?_⟩
  · unfold tabC
    rw [List.getElem?_toArray, List.getElem?_append_left (by simpa using hk1), List.getElem?_map, hg]; rfl
  · exact sl_block (pieceS o s i) s (h i g hg).1 rfl (pieceS_len o s i) hs
end Go.By
namespace Go.Proofs.Ytnlfohbmdmeodaa
open Go.RowKit Go.By
set_option maxRecDepth 100000 in
theorem slice_fromC {q : Option Addr} {n c k : Nat} {o : List UInt8} {w : World} (h : Sl B8 w q n c o) (hk : k ≤ n) : ∃ q' c', (∀ W, (Instr.sliceAt 28 (.slice q n c) (some (.int .i64 (k : Int))) none none).run Try.prog W = .ok (.slice q' (n - k) c') W) ∧ Sl B8 w q' (n - k) c' (o.drop k) := by
  have hel : Try.prog.underlying 28 = some (.slice (Try.prog.elem 28)) := by simp [Program.elem, Try.underlying28]
  refine ⟨if c = k then q else q.map (·.add k), c - k, fun W => ?_, ?_⟩
  · rw [run_sliceAt_slice (h := hel), run_slice_l (ht := hel) (h0 := by omega) (h1 := by omega)]
    clear hel
    go_simp
  · have hle := h.le
    by_cases hc : c = k
    · rw [if_pos hc]
      have hn : n = k := by omega
      have e : o.drop k = [] := List.drop_eq_nil_of_le (by rw [h.len]; omega)
      rw [e, hn, Nat.sub_self]
      refine ⟨rfl, by omega, by have := h.max; omega, fun hq => ⟨rfl, ?_⟩, fun i hi => absurd hi (by simp)⟩
      have := h.nil hq; omega
    · rw [if_neg hc]
      cases q with
      | none =>
        obtain ⟨e1, e2⟩ := h.nil rfl
        omega
      | some ad => exact Sl.drop_at h hk
theorem checkS_okC {l s n : Int} (h : checkS l s n = 0) : 0 ≤ l ∧ 1 ≤ s ∧ s ≤ 65535 ∧ n = needS l s ∧ n ≤ 4096 := by
  have hf : fitS l s = 0 := by
    unfold checkS at h
    by_cases e : fitS l s = 0
    · exact e
    · rw [if_neg e] at h; exact h
  have hn : n = needS l s := by
    unfold checkS at h
    rw [if_pos hf] at h
    by_cases e : n = needS l s
    · exact e
    · rw [if_neg e] at h; cases h
  rcases fitS_cases l s with ⟨a, _⟩ | ⟨_, h1, h2, h3, h4⟩
  · exact absurd hf a
  · exact ⟨h1, h2, h3, hn, by omega⟩
set_option maxRecDepth 100000 in
set_option maxHeartbeats 2000000 in
theorem cfits_any (l s m d : Int) (q : Option Addr) (n c : Nat) (w : World) (hl2 : l ≤ 9223372036854775807) (hk : checkS l s m = 0) (hn : (n : Int) = l) :
    Calls Try.prog 23 #[.agg #[.int .i64 l, .int .i64 s, .int .i64 m, .int .u32 d], .slice q n c] w fun e w' => e = .returned (.int .i64 0) ∧ Below w.heap.size w w' := by
  have HC := Lib.hid (fun w => Check_any l s m d w hl2)
  rw [hk] at HC
  have HX : Hid (∀ o, (w.alloc o).heap[w.heap.size]? = some o) := fun o => hnew rfl
  clear hk
  subst hn
  go_enter Try.func23, Try.ntmps23
  go_wp2_with fail
  refine Calls.mono (HC.out _) ?_
  rintro e w1 ⟨rfl, hb⟩
  have h1 := (hb.block _ (lt_of_blk (HX.out _))).trans (HX.out _)
  obtain ⟨c0, c1, c2, c3⟩ := cells4 h1
  have HB : Hid (Below w.heap.size w w1) := bl (al (Below.refl _ _) (Nat.le_refl _)) hb (by simp)
  clear hb h1
  go_wp2
  go_ret
  exact ⟨rfl, HB.out⟩
set_option maxRecDepth 100000 in
set_option maxHeartbeats 2000000 in
theorem piece_any (l m d : Int) (s i : Nat) (q : Option Addr) (n c : Nat) (o : List UInt8) (w : World) (h : Sl B8 w q n c o) (hs1 : 1 ≤ s) (hs : s ≤ 65535) (hi : i * s ≤ n) :
    Calls Try.prog 24 #[.agg #[.int .i64 l, .int .i64 (s : Int), .int .i64 m, .int .u32 d], .slice q n c, .int .i64 (i : Int)] w fun e w' => ∃ g, e = .returned (.slice (some ⟨g, 0, none⟩) s s) ∧ w.heap.size ≤ g ∧ w'.heap[g]? = some (.cells ((pieceS o s i).map B8).toArray 5 (0, 0)) ∧ Below w.heap.size w w' := by
  obtain ⟨i0, hi0, hz0, hz1, hz2⟩ := info_parts info_u8
  have hnb := h.bound
  have H := Lib.hid h
  have HM1 : Hid (s ≤ maxLen) := by show s ≤ maxLen; unfold maxLen; omega
  have HM2 : Hid (1 * s ≤ 281474976710656) := by show 1 * s ≤ _; omega
  obtain ⟨k, hk⟩ : ∃ k, k = i * s := ⟨_, rfl⟩
  have hki : (i : Int) * (s : Int) = (k : Int) := by rw [hk]; simp
  have hkn : k ≤ n := by omega
  have hkn' : (k : Int) ≤ (n : Int) := by omega
  have hw : IntKind.i64.wrap ((i : Int) * (s : Int)) = (k : Int) := by rw [hki, IntKind.wrap_i64]; omega
  have hw2 : wrap64 ((i : Int) * (s : Int)) = (k : Int) := by rw [hki]; unfold wrap64; omega
  have HE : Hid (pieceS o s i = fillC (List.replicate s 0) (o.drop k)) := by show _ = _; unfold pieceS; rw [hk]
  have HX : Hid (∀ o, (w.alloc o).heap[w.heap.size]? = some o) := fun o => hnew rfl
  clear h hk hi
  go_enter Try.func24, Try.ntmps24
  go_wp2_with (at_make; refine wpList_make_full _ rfl _ _ 28 rfl w.heap.size 5 i0 (.int .u8 0) 1 Try.underlying28 hi0 hz0 hz1 .i64 .i64 _ _ s rfl rfl rfl rfl (by rw [hz2]; exact HM2.out) HM1.out (by simp) ?_)
  intro w5 ho hg
  have HV : Hid (w5.heap[w.heap.size + 1]? = some (.cells ((List.replicate s (0 : UInt8)).map B8).toArray 5 (0, 0))) := by
    have e : (madeCells #[Value.int .u8 0] s).toList = List.replicate s (B8 0) := toList_madeCells_one _ _
    rw [e] at ho
    show _ = _
    rw [List.map_replicate]
    have := heap_of_ownsC ho
    simpa using this
  have B5 : Hid (Below w.heap.size w w5) := (al (Below.refl _ _) (Nat.le_refl _)).grown hg (by simp) (by simp)
  have HS1 := Lib.hid (H.out.keep B5.out)
  have h1 : w5.heap[w.heap.size]? = some (.cells #[.int .i64 l, .int .i64 (s : Int), .int .i64 m, .int .u32 d] 24 (0, 0)) := (hg.block _ (by simp) (by simp)).trans (HX.out _)
  obtain ⟨c0, c1, c2, c3⟩ := cells4 h1
  obtain ⟨q', c', hsl, hs2⟩ := slice_fromC HS1.out hkn
  have HS2 := Lib.hid hs2
  clear ho hg h1 hs2 H
  go_wp2_with (first | simp only [hsl] | (with_reducible refine wpList_copy_bytesC w5 rfl (.tmp 11) (.tmp 17) 28 28 rfl 5 Try.underlying28 (by kernel_rfl) (w.heap.size + 1) s q' (n - k) c' rfl rfl (List.replicate s 0) (o.drop k) 5 HV.out (by simp) HS2.out ?_))
  intro w6 z hh hg2
  have B6 : Hid (Below w.heap.size w w6) := B5.out.grown hg2 (by have := B5.out.size; exact this) (fun r hr => by cases hr; omega)
  have HH : Hid (w6.heap[w.heap.size + 1]? = some (.cells ((pieceS o s i).map B8).toArray 5 (0, 0))) := by rw [HE.out]; exact hh
  clear hh hg2
  go_wp2
  go_ret
  exact ⟨_, rfl, by omega, HH.out, B6.out⟩
theorem info_bytesC : (Try.prog.info? 28).map (fun i => (i.zero, i.size, i.bytes)) = some (some (.slice none 0 0), 1, 24) := by kernel_rfl
set_option maxRecDepth 100000 in
set_option maxHeartbeats 4000000 in
theorem Cut_any (d : Int) (n s m : Nat) (q : Option Addr) (c : Nat) (o : List UInt8) (w : World) (h : Sl B8 w q n c o) (hk : checkS n s m = 0) (hfit : ∀ i : Nat, i < m → i * s ≤ n) :
    Calls Try.prog 13 #[.agg #[.int .i64 (n : Int), .int .i64 (s : Int), .int .i64 (m : Int), .int .u32 d], .slice q n c] w fun e w' => ∃ g, e = .returned (.tuple #[.slice (some ⟨g, 0, none⟩) m m, .int .i64 0]) ∧ w.heap.size ≤ g ∧ Sl2 w' (some ⟨g, 0, none⟩) m m ((List.range m).map (pieceS o s)) ∧ Below w.heap.size w w' := by
  obtain ⟨i0, hi0, hz0, hz1, hz2⟩ := info_parts info_bytesC
  obtain ⟨-, hs1, hs2, -, hm4⟩ := checkS_okC hk
  have hnb := h.bound
  have H := Lib.hid h
  have HFT := Lib.hid hfit
  have HF := Lib.hid (fun w => cfits_any n s m d q n c w (by omega) hk rfl)
  have hm5 : m ≤ 4096 := by omega
  have hs3 : 1 ≤ s := by omega
  have hs4 : s ≤ 65535 := by omega
  have HM1 : Hid (m ≤ maxLen) := by show m ≤ maxLen; unfold maxLen; omega
  have HM2 : Hid (24 * m ≤ 281474976710656) := by show 24 * m ≤ _; omega
  have HX : Hid (∀ o, (w.alloc o).heap[w.heap.size]? = some o) := fun o => hnew rfl
  have HBA : Hid (∀ (W : World) o, Below W.heap.size W (W.alloc o)) := fun W o => al (Below.refl _ _) (Nat.le_refl _)
  clear h hk hfit hs1 hs2 hm4
  go_enter Try.func13, Try.ntmps13
  go_wp2_with fail
  refine Calls.mono (HF.out _) ?_
  rintro e w1 ⟨rfl, hb⟩
  have X1 : Hid (w1.heap[w.heap.size]? = some (.cells #[.int .i64 (n : Int), .int .i64 (s : Int), .int .i64 (m : Int), .int .u32 d] 24 (0, 0))) := (hb.block _ (lt_of_blk (HX.out _))).trans (HX.out _)
  have B1 : Hid (Below w.heap.size w w1) := bl (HBA.out _ _) hb (by simp)
  obtain ⟨c0, c1, c2, c3⟩ := cells4 X1.out
  obtain ⟨b0, hb0⟩ : ∃ b0, b0 = w.heap.size := ⟨_, rfl⟩
  have HB0 := Lib.hid hb0
  rw [← hb0] at X1 c0 c1 c2 c3 ⊢
  clear hb HX hb0
  go_wp2_with (at_make; refine wpList_make_full _ rfl _ _ 25 rfl w1.heap.size 28 i0 (.slice none 0 0) 1 Try.underlying25 hi0 hz0 hz1 .i64 .i64 _ _ m rfl rfl rfl rfl (by rw [hz2]; exact HM2.out) HM1.out (by simp) ?_)
  intro w2 ho hg
  have T2 : Hid (w2.heap[w1.heap.size]? = some (.cells (tabC m s []) 28 (0, 0))) := by
    have e : (madeCells #[Value.slice none 0 0] m).toList = List.replicate m (Value.slice none 0 0) := toList_madeCells_one _ _
    rw [e] at ho
    have := heap_of_ownsC ho
    show _ = _
    rw [this]
    rfl
  have X2 : Hid (w2.heap[b0]? = some (.cells #[.int .i64 (n : Int), .int .i64 (s : Int), .int .i64 (m : Int), .int .u32 d] 24 (0, 0))) := (hg.block _ (lt_of_blk X1.out) (by simp)).trans X1.out
  have B2 : Hid (Below w.heap.size w w2) := B1.out.grown hg B1.out.size (by simp)
  have hlt0 : b0 < w1.heap.size := lt_of_blk X1.out
  have hgl : w1.heap.size < w2.heap.size := lt_of_blk T2.out
  have hwl : w.heap.size ≤ w1.heap.size := B1.out.size
  generalize w1.heap.size = gL at *
  clear ho hg c0 c1 c2 c3 X1 B1
  go_wp2
  go_loopw [20] (fun i wr => ∃ (G : List Nat), i = .int .i64 (G.length : Int) ∧ G.length ≤ m ∧ Hid (wr.heap[gL]? = some (.cells (tabC m s G) 28 (0, 0))) ∧ Hid (PcsC 5 o s gL G wr) ∧ Hid (wr.heap[b0]? = some (.cells #[.int .i64 (n : Int), .int .i64 (s : Int), .int .i64 (m : Int), .int .u32 d] 24 (0, 0))) ∧ Hid (Below w.heap.size w wr)) (fun i _ => m - (intOf i).toNat)
  case atStart => exact ⟨[], rfl, Nat.zero_le _, T2.out, fun j g hj => by simp at hj, X2.out, B2.out⟩
  case round =>
    obtain ⟨G, rfl, hG, hT, hP, hX, hB⟩ := hrel
    obtain ⟨k, hk⟩ : ∃ k, k = G.length := ⟨_, rfl⟩
    rw [← hk] at hG ⊢
    by_cases hlt : k < m
    · have hlt' : (k : Int) < (m : Int) := by omega
      have HP2 := Lib.hid (fun W (hW : Below w.heap.size w W) => piece_any n m d s k q n c o W (H.out.keep hW) hs3 hs4 (HFT.out k hlt))
      obtain ⟨c0, c1, c2, c3⟩ := cells4 hX.out
      have HK := Lib.hid hk
      clear hk hlt
      go_wp2_with fail
      refine Calls.mono (HP2.out _ hB.out) ?_
      rintro e w3 ⟨g, rfl, hg0, hgh, hb⟩
      have T3 : Hid (w3.heap[gL]? = some (.cells (tabC m s G) 28 (0, 0))) := (hb.block _ (lt_of_blk hT.out)).trans hT.out
      have X3 : Hid (w3.heap[b0]? = some (.cells #[.int .i64 (n : Int), .int .i64 (s : Int), .int .i64 (m : Int), .int .u32 d] 24 (0, 0))) := (hb.block _ (lt_of_blk hX.out)).trans hX.out
      have hgg : gL < g := Nat.lt_of_lt_of_le (lt_of_blk hT.out) hg0
      have P3 : Hid (PcsC 5 o s gL (G ++ [g]) w3) := (hP.out.keep hb).push (by rw [← HK.out]; exact hgh) hgg
      have B3 : Hid (Below w.heap.size w w3) := bl hB.out hb hB.out.size
      have e0 : w3.cell? ⟨gL, k, none⟩ = some (.slice none 0 0) := by rw [cell_of_row _ _ _ _ _ _ T3.out]; exact tabC_at HK.out.symm (by omega)
      have e1 : w3.frozen? ⟨gL, k, none⟩ = false := frozen_of_row _ _ k _ _ T3.out
      have T4 : Hid ((w3.setCell ⟨gL, k, none⟩ (.slice (some ⟨g, 0, none⟩) s s)).heap[gL]? = some (.cells (tabC m s (G ++ [g])) 28 (0, 0))) := by
        have := hss (i := k) (v := .slice (some ⟨g, 0, none⟩) s s) T3.out
        rw [tabC_set HK.out.symm (by omega)] at this; exact this
      have X4 : Hid ((w3.setCell ⟨gL, k, none⟩ (.slice (some ⟨g, 0, none⟩) s s)).heap[b0]? = some (.cells #[.int .i64 (n : Int), .int .i64 (s : Int), .int .i64 (m : Int), .int .u32 d] 24 (0, 0))) := hsc X3.out (by show b0 ≠ gL; omega)
      have P4 : Hid (PcsC 5 o s gL (G ++ [g]) (w3.setCell ⟨gL, k, none⟩ (.slice (some ⟨g, 0, none⟩) s s))) := P3.out.set
      have B4 : Hid (Below w.heap.size w (w3.setCell ⟨gL, k, none⟩ (.slice (some ⟨g, 0, none⟩) s s))) := B3.out.setCell hwl _
      clear hT hP hX hB hgh hb c0 c1 c2 c3 HP2
      go_wp2
      go_roundw
      case rel => exact ⟨G ++ [g], by rw [List.length_append, ← HK.out]; go_num, by rw [List.length_append, ← HK.out]; simp; omega, T4.out, P4.out, X4.out, B4.out⟩
      case measure => simp [intOf]; omega
    · obtain rfl : k = m := by omega
      have HS : Hid (Sl2 wr (some ⟨gL, 0, none⟩) k k ((List.range k).map (pieceS o s))) := by
        have := PcsC.sl2 hP.out (U := 28) (fr := (0, 0)) (by rw [← hk]; exact hT.out) (by rw [← hk]; exact HM1.out) (by unfold maxLen; omega)
        rw [← hk] at this; exact this
      clear hlt
      go_wp2
      go_ret2
      exact ⟨gL, rfl, hwl, HS.out, hB.out⟩
set_option maxRecDepth 100000 in
set_option maxHeartbeats 2000000 in
theorem Spread_int (l s m d A : Int) (w : World) (hl2 : l ≤ 9223372036854775807) (hs1 : 1 ≤ s) (hk : checkS l s m = 0) (h0 : 0 ≤ A) (ha : A < l) :
    Calls Try.prog 15 #[.agg #[.int .i64 l, .int .i64 s, .int .i64 m, .int .u32 d], .int .i64 A] w fun e w' => e = .returned (.tuple #[.int .i64 (A / s), .int .i64 (A % s), .int .i64 0]) ∧ Below w.heap.size w w' := by
  have HC := Lib.hid (fun w => Check_any l s m d w hl2)
  rw [hk] at HC
  have HX : Hid (∀ o, (w.alloc o).heap[w.heap.size]? = some o) := fun o => hnew rfl
  have hs0 : (s == 0) = false := by simp; omega
  clear hk
  go_enter Try.func15, Try.ntmps15
  go_wp2_with fail
  refine Calls.mono (HC.out _) ?_
  rintro e w1 ⟨rfl, hb⟩
  have h1 := (hb.block _ (lt_of_blk (HX.out _))).trans (HX.out _)
  obtain ⟨c0, c1, c2, c3⟩ := cells4 h1
  have HB : Hid (Below w.heap.size w w1) := bl (al (Below.refl _ _) (Nat.le_refl _)) hb (by simp)
  clear hb h1
  go_wp2
  go_quiet (fail)
  go_wp2
  go_ret3
  exact ⟨rfl, bdn HB.out⟩
theorem Spread_any (d : Int) (n s m a : Nat) (w : World) (hn : n ≤ 9223372036854775807) (hk : checkS n s m = 0) (ha : a < n) :
    Calls Try.prog 15 #[.agg #[.int .i64 (n : Int), .int .i64 (s : Int), .int .i64 (m : Int), .int .u32 d], .int .i64 (a : Int)] w fun e w' => e = .returned (.tuple #[.int .i64 ((a / s : Nat) : Int), .int .i64 ((a % s : Nat) : Int), .int .i64 0]) ∧ Below w.heap.size w w' :=
  Spread_int n s m d a w (by omega) (checkS_okC hk).2.1 hk (by omega) (by omega)
end Go.Proofs.Ytnlfohbmdmeodaa
