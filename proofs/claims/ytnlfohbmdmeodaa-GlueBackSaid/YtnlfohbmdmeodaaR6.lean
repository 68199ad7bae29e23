/- A region that draws its order, whose last operation waits for all others (a store): shapes for the others, then the last one. -/
import Derived.Test.YtnlfohbmdmeodaaR5
namespace Go.By
open Go.RowKit
theorem wpAny_done {P : Program} {ops : Array Oper} {Q : Exit → Act → World → Prop} {listed : Array Bool} {a : Act} {w : World} (fuel : Nat) (hall : ∀ j, j < ops.size → listed.getD j true = true) (h : Q .normal a w) : wpAny P .any ops Q fuel listed a w := by
  have hr : Region.ready .any ops listed = [] := by
    rw [List.eq_nil_iff_forall_not_mem]
    intro i hi
    obtain ⟨h1, h2, _⟩ := mem_ready.1 hi
    rw [hall i h1] at h2; cases h2
  cases fuel with
  | zero => exact ⟨hr, h⟩
  | succ n => exact ⟨fun _ => h, fun i hi => by rw [hr] at hi; simp at hi⟩
/-- the last operation waits for all others -/
def lastB (ops : Array Oper) (m : Nat) : Bool := decide (ops.size = m + 1) && (match ops[m]? with
  | some o => o.guard.isNone
  | none => false) && (List.range m).all fun i => (List.range (m + 1)).any fun j => decide (i < j) && match ops[j]? with
  | some o => (preds o).contains i
  | none => false
theorem wp_region_last {P : Program} {ops : Array Oper} {Q : Exit → Act → World → Prop} {id : Nat} {a0 : Act} {w0 : World} (sh : Nat → Shp) (n m : Nat) (hn : a0.tmps.size = n) (hm : P.follows .mixedOrders = true) (hback : backB ops = true) (hdist : distB ops = true)
    (hlast : lastB ops m = true) (hdsts : dstsB (ops.extract 0 m) n = true)
    (each : EachS P ops Q a0 w0.drew sh (ops.toList.take m) 0)
    (fin : ∀ a w o, ops[m]? = some o → Below w0.heap.size w0 w → a.tmps.size = a0.tmps.size → a.defers = a0.defers → (∀ j, j < m → InvS ops sh j (sl a) w) → (∀ t, (ops.toList.all fun o => o.dst != some t) = true → sl a t = sl a0 t) → o.wp P a w (fun a' w' => Q .normal a' w') Q) :
    (Code.region id ops true).wp P Q a0 w0 := by
  unfold lastB at hlast
  rw [Bool.and_eq_true, Bool.and_eq_true] at hlast
  have hsz : ops.size = m + 1 := of_decide_eq_true hlast.1.1
  have hm' : m < ops.size := by omega
  obtain ⟨ol, hol⟩ : ∃ ol, ops[m]? = some ol := ⟨_, Array.getElem?_eq_getElem hm'⟩
  have hl2 := hlast.1.2
  rw [hol] at hl2
  have hguard : ol.guard = none := by cases hg : ol.guard <;> simp [hg] at hl2 ⊢
  have hpl : ∀ i, i < m → ∃ j o, i < j ∧ j ≤ m ∧ ops[j]? = some o ∧ i ∈ preds o := fun i hi => by
    obtain ⟨j, hj, h⟩ := List.any_eq_true.1 (List.all_eq_true.1 hlast.2 i (List.mem_range.2 hi))
    have hjm := List.mem_range.1 hj
    rw [Bool.and_eq_true] at h
    obtain ⟨oj, hoj⟩ : ∃ oj, ops[j]? = some oj := ⟨_, Array.getElem?_eq_getElem (by omega)⟩
    have h2 := h.2
    rw [hoj] at h2
    exact ⟨j, oj, of_decide_eq_true h.1, by omega, hoj, by simpa using h2⟩
  have hE := each_of (Q := Q) (P := P) (a0 := a0) (W0 := w0.drew) (sh := sh) hn (ops.toList.take m) 0 (fun j o hj => by
      rw [List.getElem?_take] at hj; split at hj
      · simpa using hj
      · cases hj) (by
      unfold dstsB at hdsts
      have e : (ops.extract 0 m).toList = ops.toList.take m := by simp
      rw [e] at hdsts; exact hdsts) each
  have stepAt : ∀ i o, i < m → ops[i]? = some o → StepOf P ops Q a0 w0.drew (fun W w => Below W.heap.size W w) (fun _ w w' => Below w.heap.size w w') (InvS ops sh) i o := fun i o hi ho => by
    have := Each.get _ 0 hE i o (by rw [List.getElem?_take, if_pos hi]; simpa using ho)
    rwa [Nat.zero_add] at this
  have stable : ∀ i j oi oj (σ σ' : Nat → Value) w w', i ≠ j → ops[i]? = some oi → ops[j]? = some oj → InvS ops sh j σ w → Below w.heap.size w w' → (∀ t, oi.dst ≠ some t → σ' t = σ t) → InvS ops sh j σ' w' := by
    intro i j oi oj σ σ' w w' hij hoi hoj hI hR hσ
    unfold InvS at hI ⊢
    cases hdj : dstOf ops j with
    | none => trivial
    | some d =>
      rw [hdj] at hI
      show (sh j).ok (σ' d) w'
      have hne : oi.dst ≠ some d := by
        intro e
        have hi' : i < ops.size := (Array.getElem?_eq_some_iff.1 hoi).1
        have hj' : j < ops.size := (Array.getElem?_eq_some_iff.1 hoj).1
        have := List.all_eq_true.1 (List.all_eq_true.1 hdist i (List.mem_range.2 hi')) j (List.mem_range.2 hj')
        rw [hoi, hoj] at this
        have hdj' : oj.dst = some d := by simpa [dstOf, hoj] using hdj
        simp [e, hdj', hij] at this
      rw [hσ d hne]
      exact (sh j).keep _ _ _ hI hR
  refine wp_region_any hm ?_
  show wpAny P .any ops Q ops.size (Array.replicate ops.size false) a0 w0.drew
  have main : ∀ (fuel : Nat) (listed : Array Bool) (a : Act) (w : World), unl ops.size listed ≤ fuel → listed.getD m true = false → Below w0.heap.size w0 w → a.tmps.size = a0.tmps.size → a.defers = a0.defers →
      (∀ j o, listed.getD j false = true → ops[j]? = some o → ∀ k, k ∈ preds o → listed.getD k false = true) →
      (∀ j, j < ops.size → listed.getD j true = true → listed.getD j false = true) →
      (∀ j, j < m → listed.getD j false = true → InvS ops sh j (sl a) w) →
      (∀ t, (∀ j o, j < m → listed.getD j false = true → ops[j]? = some o → o.dst ≠ some t) → sl a t = sl a0 t) → wpAny P .any ops Q fuel listed a w := by
    intro fuel
    induction fuel with
    | zero =>
      intro listed a w hu hlm
      exfalso
      have h0 : unl ops.size listed = 0 := by omega
      unfold unl at h0
      have := List.countP_eq_zero.1 h0 m (List.mem_range.2 hm')
      simp [hlm] at this
    | succ fuel ih =>
      intro listed a w hu hlm hEw hs hd hcl hlt hI ht
      refine ⟨fun hr => ?_, fun i hi => ?_⟩
      · exfalso
        have hall : ∀ k j, j < k → j < ops.size → listed.getD j false = true := by
          intro k
          induction k with
          | zero => intro j hj; omega
          | succ k ihk =>
            intro j hj hjs
            refine hlt j hjs ?_
            cases hb : listed.getD j true with
            | true => rfl
            | false =>
              exfalso
              have ho : ops[j]? = some ops[j] := Array.getElem?_eq_getElem hjs
              have : j ∈ Region.ready .any ops listed := mem_ready.2 ⟨hjs, hb, _, ho, fun q hq => by
                have hbk := List.all_eq_true.1 hback j (List.mem_range.2 hjs)
                rw [ho] at hbk
                have hkj := of_decide_eq_true (List.all_eq_true.1 hbk q hq)
                exact ihk q (by omega) (by omega)⟩
              rw [hr] at this; cases this
        have hx := hall (m + 1) m (by omega) hm'
        rcases Nat.lt_or_ge m listed.size with h | h
        · simp [Array.getD_eq_getD_getElem?, h] at hlm hx; rw [hlm] at hx; cases hx
        · simp [Array.getD_eq_getD_getElem?, Array.getElem?_eq_none h] at hx
      · obtain ⟨h1, h2, o, ho, h3⟩ := mem_ready.1 hi
        have hnl : listed.getD i false ≠ true := by
          intro hx
          rcases Nat.lt_or_ge i listed.size with h | h
          · simp [Array.getD_eq_getD_getElem?, h] at h2 hx; rw [h2] at hx; cases hx
          · simp [Array.getD_eq_getD_getElem?, Array.getElem?_eq_none h] at hx
        have his : i < listed.size := by
          rcases Nat.lt_or_ge i listed.size with h | h
          · exact h
          · simp [Array.getD_eq_getD_getElem?, Array.getElem?_eq_none h] at h2
        have gset : ∀ j (d : Bool), (listed.setIfInBounds i true).getD j d = if i = j then true else listed.getD j d := by
          intro j d
          simp only [Array.getD_eq_getD_getElem?, Array.getElem?_setIfInBounds]
          by_cases e : i = j
          · subst e; simp [his]
          · simp [e]
        by_cases him : i = m
        · subst him
          rw [hol] at ho; cases ho
          have hdown : ∀ d j, i - j ≤ d → j < i → listed.getD j false = true := by
            intro d
            induction d with
            | zero => intro j h4 h5; omega
            | succ d ihd =>
              intro j h4 h5
              obtain ⟨j2, o2, g1, g2, g3, g4⟩ := hpl j h5
              by_cases e : j2 = i
              · subst e; rw [hol] at g3; cases g3; exact h3 j g4
              · exact hcl j2 o2 (ihd j2 (by omega) (by omega)) g3 j g4
          have hdn : ∀ j, j < i → listed.getD j false = true := fun j hj => hdown i j (by omega) hj
          have hf := fin a w ol hol hEw hs hd (fun j hj => hI j hj (hdn j hj)) (fun t htt => ht t (fun j oj hj _ hoj => by
            have := List.all_eq_true.1 htt oj (by rw [Array.mem_toList_iff]; exact Array.mem_of_getElem? hoj)
            simpa using this))
          unfold wpOp
          rw [hol]
          show if Region.wanted ol (yielded ops a.tmps) = true then _ else _
          rw [if_pos (by simp [Region.wanted, hguard])]
          refine .inl (Oper.wp_mono (fun a' w' hq => wpAny_done _ (fun j hj => ?_) hq) hf)
          rw [gset]
          by_cases e : i = j
          · rw [if_pos e]
          · rw [if_neg e]
            have hjl := hdn j (by omega)
            rcases Nat.lt_or_ge j listed.size with h | h
            · simp [Array.getD_eq_getD_getElem?, h] at hjl ⊢; exact hjl
            · simp [Array.getD_eq_getD_getElem?, Array.getElem?_eq_none h]
        · have him' : i < m := by omega
          have hst := stepAt i o him' ho
          have hst' := hst a w ⟨hEw.os, hEw.tape, hEw.output, hEw.size, hEw.block⟩ hs (fun k hk => hI k (by
              have hbk := List.all_eq_true.1 hback i (List.mem_range.2 h1)
              rw [ho] at hbk
              have := of_decide_eq_true (List.all_eq_true.1 hbk k hk); omega) (h3 k hk)) (fun t hti => by
            refine ht t (fun j oj hj hlj hoj hdj => ?_)
            have := List.all_eq_true.1 hti j (List.mem_range.2 (by omega))
            rw [hoj] at this
            by_cases e : j = i
            · subst e; exact hnl hlj
            · simp [e, hdj] at this
              exact hnl (hcl j oj hlj hoj i this))
          have next : ∀ (v : Value) (w' : World), Below w.heap.size w w' → InvS ops sh i (sl (a.put o.dst v)) w' → wpAny P .any ops Q fuel (listed.setIfInBounds i true) (a.put o.dst v) w' := by
            intro v w' hR hIi
            refine ih _ _ _ (by have := unl_set (n := ops.size) h1 h2; omega) (by rw [gset, if_neg him]; exact hlm) (hEw.trans (hR.mono hEw.size)) ((put_size _ _ _).trans hs) ((put_defers _ _ _).trans hd) ?_ ?_ ?_ ?_
            · intro j oj hj hoj k hk
              rw [gset] at hj ⊢
              by_cases e : i = k
              · rw [if_pos e]
              · rw [if_neg e]
                by_cases e' : i = j
                · subst e'; rw [ho] at hoj; cases hoj; exact h3 k hk
                · rw [if_neg e'] at hj; exact hcl j oj hj hoj k hk
            · intro j hj hl
              rw [gset] at hl ⊢
              by_cases e : i = j
              · rw [if_pos e]
              · rw [if_neg e] at hl ⊢; exact hlt j hj hl
            · intro j hj hl
              rw [gset] at hl
              by_cases e : i = j
              · subst e; exact hIi
              · rw [if_neg e] at hl
                have hoj : ops[j]? = some ops[j] := Array.getElem?_eq_getElem (by omega)
                exact stable i j o _ (sl a) _ w w' e ho hoj (hI j hj hl) hR (fun t h => put_sl _ _ _ _ h)
            · intro t htt
              have hdt : o.dst ≠ some t := htt i o him' (by rw [gset, if_pos rfl]) ho
              rw [put_sl _ _ _ _ hdt]
              exact ht t (fun j oj hj hl hoj => htt j oj hj (by rw [gset]; split <;> simp [hl]) hoj)
          unfold wpOp
          rw [ho]
          show if Region.wanted o (yielded ops a.tmps) = true then _ else _
          split
          · rename_i hw
            rw [if_pos hw] at hst'
            exact .inl (Oper.wp_mono (fun a' w' ⟨v, e, hR, hIi⟩ => by rw [e] at hIi ⊢; exact next v w' hR hIi) hst')
          · rename_i hw
            rw [if_neg hw] at hst'
            exact next undef w hst'.1 hst'.2
  refine main ops.size _ a0 w0.drew ?_ ?_ ⟨rfl, rfl, rfl, Nat.le_refl _, fun _ _ => rfl⟩ rfl rfl ?_ ?_ ?_ ?_
  · unfold unl; exact Nat.le_trans List.countP_le_length (by simp)
  · simp [Array.getD_eq_getD_getElem?, Array.getElem?_replicate, hm']
  · intro j o hj; simp [Array.getD_eq_getD_getElem?, Array.getElem?_replicate] at hj
    split at hj <;> simp at hj
  · intro j hj hl; simp [Array.getD_eq_getD_getElem?, Array.getElem?_replicate, hj] at hl
  · intro j hj hl; simp [Array.getD_eq_getD_getElem?, Array.getElem?_replicate, show j < ops.size by omega] at hl
  · intro t _; rfl
theorem wp_skip_none {P : Program} {o : Oper} {a : Act} {w w' : World} {K : Act → World → Prop} {Q : Exit → Act → World → Prop} (hd : o.dst = none) (hrun : (execOp a.eval o).run P w = .ok .skip w') (h : K a w') : o.wp P a w K Q :=
  wp_skipX hrun (by rw [hd]; exact h)
def RowT (r : List UInt8 × List UInt8) (code : Int) (v : Value) (w : World) : Prop := ∃ u, v = .tuple #[u, .int .i64 code] ∧ RowIs r u w
def Shp.rowT (r : List UInt8 × List UInt8) (code : Int) : Shp := ⟨RowT r code, fun _ _ _ ⟨u, e, h⟩ hb => ⟨u, e, (Shp.row r).keep _ _ _ h hb⟩⟩
end Go.By
