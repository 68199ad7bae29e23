/- Bytes made, and copied into a block known whole. -/
import Derived.Test.YtnlfohbmdmeodaaR2
import Derived.WalkLawsBesides
namespace Go.By
open Go.RowKit
theorem heap_of_ownsC {w : World} {base E g n : Nat} {L : List Value} (h : w.ownsRow base E 1 (.slice (some ⟨g, 0, none⟩) n n) n L) : w.heap[g]? = some (.cells L.toArray E (0, 0)) := by
  rcases h.2 with ⟨h1, _⟩ | ⟨g', cap, cur, hv, _, hh, _, _, hs, ht⟩
  · cases h1
  · cases hv
    rw [hh]
    have : cur = L.toArray := by
      rw [← ht, List.take_of_length_le (by simp [hs])]
    rw [this]
/-- a block known whole is owned -/
theorem grownBy_setRowC (w : World) (g : Nat) (cs : Array Value) : w.grownBy (w.setRow g cs) (some g) :=
  ⟨rfl, rfl, rfl, by simp [World.setRow], fun b _ hne => by
    simp only [World.setRow, Array.getElem?_modify]
    rw [if_neg (fun e => hne (by rw [e]))]⟩
theorem eval_tmpC {a : Act} {t : Nat} {v : Value} (h : sl a t = v) : a.eval (.tmp t) = v := h
theorem wp_make_bytesC {P : Program} (w : World) {o : Oper} {a : Act} {K : Act → World → Prop} {Q : Exit → Act → World → Prop} (hg : o.guard = none) (l c : Operand) (t : TypeId) (hop : o.op = Op.makeSlice t l c)
    (e : TypeId) (i : TypeInfo) (h1 : P.underlying t = some (.slice e)) (h2 : P.info? e = some i) (h3 : i.zero = some (.int .u8 0)) (h4 : i.size = 1) (h5 : i.bytes = 1) (n : Nat) (hl : a.eval l = .int .i64 n) (hc : a.eval c = .int .i64 n) (hn : n ≤ 65536)
    (hK : ∀ w' g, g = w.heap.size → w'.heap[g]? = some (.cells ((List.replicate n (0 : UInt8)).map B8).toArray e (0, 0)) → Below w.heap.size w w' → K (a.put o.dst (.slice (some ⟨g, 0, none⟩) n n)) w') : o.wp P a w K Q := by
  have _ := hg
  obtain ⟨w', hrun, r1, r2⟩ := run_make_full (P := P) w w.heap.size t e i (.int .u8 0) 1 h1 h2 h3 h4 .i64 .i64 n (by rw [h5]; omega) (by unfold maxLen; omega) (Nat.le_refl _)
  unfold Oper.wp
  simp [execOp, hop, hl, hc, hrun, Result.andThen]
  refine hK w' _ rfl ?_ ((Below.refl _ _).grown r2 (Nat.le_refl _) (by simp))
  have e1 : (madeCells #[Value.int .u8 0] n).toList = List.replicate n (B8 0) := toList_madeCells_one _ _
  have r3 : w'.ownsRow w.heap.size e 1 (.slice (some ⟨w.heap.size, 0, none⟩) n n) n (List.replicate n (B8 0)) := by rw [← e1]; have r4 := r1; simp only [Nat.mul_one] at r4; exact r4
  rw [List.map_replicate]
  exact heap_of_ownsC r3
/-- a copy of bytes into a block known whole -/
def fillC (bs src : List UInt8) : List UInt8 := src.take bs.length ++ bs.drop src.length
theorem fillS_lenC (bs src : List UInt8) : (fillC bs src).length = bs.length := by unfold fillC; rw [List.length_append, List.length_take, List.length_drop]; omega
theorem wpList_copy_bytesC {P : Program} (w : World) {ops : Array Oper} {rest : List Oper} {o : Oper} {a : Act} {Q : Exit → Act → World → Prop} (hgd : o.guard = none) (d s : Operand) (dT sT : TypeId)
    (ho : o.op = .call { callee := .builtin .copy, args := #[d, s], argTypes := #[dT, sT] }) (elem : TypeId) (hu : P.underlying dT = some (.slice elem)) (hsz : (P.info? elem).map (·.size) = some 1)
    (g n : Nat) (sp : Option Addr) (m c : Nat) (hd : a.eval d = .slice (some ⟨g, 0, none⟩) n n) (hs : a.eval s = .slice sp m c) (bs src : List UInt8) (T : TypeId) (hg : w.heap[g]? = some (.cells (bs.map B8).toArray T (0, 0))) (hl : bs.length = n) (hS : Sl B8 w sp m c src)
    (h : ∀ w' z, w'.heap[g]? = some (.cells ((fillC bs src).map B8).toArray T (0, 0)) → w.grownBy w' (some g) → wpList P ops Q rest (a.put o.dst (goInt z)) w') : wpList P ops Q (o :: rest) a w := by
  have hm := hS.len
  by_cases h0 : Nat.min m n = 0
  · refine wpList_copy_nothing hgd d s dT sT ho elem hu hsz _ sp n n m c hd hs h0 ?_
    refine h w 0 ?_ (World.grownBy.refl _ _)
    have e : fillC bs src = bs := by
      unfold fillC
      rcases Nat.eq_zero_or_pos m with h1 | h1
      · have : src = [] := List.length_eq_zero_iff.1 (by omega)
        subst this; simp
      · have h2 : n = 0 := by have h3 : min m n = 0 := h0; omega
        have : bs = [] := List.length_eq_zero_iff.1 (by omega)
        subst this; simp
    rw [e]; exact hg
  · have h1 : 0 < m ∧ 0 < n := by have h3 : ¬ min m n = 0 := h0; omega
    obtain ⟨b, o', rfl, -⟩ := hS.rs 0 (by omega)
    refine wpList_copy_own hgd d s dT sT ho elem hu hsz g 0 n n ⟨b, o', none⟩ m c hd hs _ T hg ((src.take n).map B8) ?_ ?_ ?_ ?_ ?_
    · rw [List.length_map, List.length_take, hm, Nat.min_comm]
    · intro j v hj
      rw [List.getElem?_map, List.getElem?_take] at hj
      have hjl : j < n ∧ j < src.length := by
        split at hj
        · rename_i hjn
          refine ⟨hjn, ?_⟩
          rcases Nat.lt_or_ge j src.length with g | g
          · exact g
          · rw [List.getElem?_eq_none g] at hj; cases hj
        · cases hj
      obtain ⟨b2, o2, e, hc⟩ := hS.rs j hjl.2
      cases e
      rw [if_pos hjl.1, List.getElem?_eq_getElem hjl.2] at hj
      rw [Addr.add_lit, hc]; exact hj
    · rw [List.length_map, List.length_take]; simp; omega
    · intro v hv
      obtain ⟨y, _, rfl⟩ := List.mem_map.1 hv
      rfl
    · refine h _ _ ?_ (grownBy_setRowC w g _)
      rw [hrs hg]
      congr 3
      unfold fillC
      rw [hl, List.map_append, List.map_drop]
      simp only [List.take_zero, List.nil_append, Nat.zero_add, List.toList_toArray, List.length_map, List.length_take]
      congr 1
      rcases Nat.lt_or_ge n src.length with g | g
      · rw [Nat.min_eq_left (by omega), List.drop_eq_nil_of_le (by simp [hl]), List.drop_eq_nil_of_le (by simp [hl]; omega)]
      · rw [Nat.min_eq_right g]
end Go.By
