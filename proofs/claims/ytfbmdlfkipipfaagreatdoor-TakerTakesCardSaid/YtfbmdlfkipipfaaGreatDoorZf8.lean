/- Chapter 19: a taker in memory; taker.New,Rows,Gate. A region that draws its order,op by op: what holds of the world is told by which operations have run. A region that draws its order,with one call that writes: all else is told values. Chapter 19: taker.Take. Chapter 19: taker.Take of a packet. Chapter 19: taker.Take of a packet that is put. The contracts of the whole of the symbols,Join and Clean. The contracts of Join and Clean. The contracts of the reference's Needs and Check. The contracts of the reference's All and of the law's few; the chapter's example. The contract of the law's few; the chapter's example. Chapter 11: fits,piece,Cut,Spread. Chapter 17: a sender in memory; sender.New,Send,Explicit. Chapter 17: sender.Send. An append stays in its own block,or goes to a new one. Chapter 21: a relay in memory; New,Next,Say of what says nothing. -/
import Derived.Test.YtfbmdlfkipipfaaGreatDoorZf7
import Derived.Laws.OwnMore
import Derived.OwnWalk
import Derived.WalkKit
import Derived.Laws.AppendOwn
namespace Go.Proofs.YtfbmdlfkipipfaaGreatDoor
open Go.RowKit Go.By Go.Maps
theorem ones_gate {a b c d : Int} {M : Value} (hM : M.oneCell' = true) : (#[Value.int .i64 a,.int .i64 b,.int .i64 c,.int .u32 d,M].all (·.oneCell')) = true := by
 simp only [List.all_toArray,List.all_cons,List.all_nil,hM]; rfl
structure Tkr (w : World) (base gt be L t k D N : Nat) (M v : Value) (C : DataW Unit) (K : List Rw) (st : Nat) : Prop where
 ok : POK L t k D
 box : w.heap[gt]? = some (.cells #[.int .i64 (L : Nat),.int .i64 (t : Nat),.int .i64 (k : Nat),.int .u32 (D : Nat),M,.pointer (some ⟨be,0,none⟩),.int .i64 (st : Nat)] 126 (0,0))
 cnt : CntM w M N C
 elm : Elm w base be k t v K.length K
 red : Red k t K
 old : base ≤ gt
theorem Tkr.keep {w w' : World} {base gt be L t k D N : Nat} {M v : Value} {C : DataW Unit} {K : List Rw} {st : Nat} (h : Tkr w base gt be L t k D N M v C K st) (hb : Below w.heap.size w w') : Tkr w' base gt be L t k D N M v C K st :=
 ⟨h.ok,(hb.block _ (lt_of_block h.box)).trans h.box,h.cnt.keep hb,h.elm.keep hb,h.red,h.old⟩
set_option maxRecDepth 100000 in
set_option maxHeartbeats 2000000 in
theorem TNew_ok (L t k D : Nat) (w : World) (hP : POK L t k D) :
  Calls Tryz.prog 14 #[PVal L t k D] w fun e w' => ∃ gt be v,e = .returned (.tuple #[.pointer (some ⟨gt,0,none⟩),.int .i64 0]) ∧ Tkr w' w.heap.size gt be L t k D 0 (.map none) v (.map []) [] 0 ∧ Below w.heap.size w w' := by
 have HP := Lib.hid hP
 have HG : Hid (∀ w,Calls Tryz.prog 57 #[PVal L t k D] w fun e w' => e = .returned (.tuple #[GVal L t k D (.map none),.int .i64 0]) ∧ Below w.heap.size w w') := fun w => GNew_ok L t k D w hP
 have HE : Hid (∀ w,Calls Tryz.prog 58 #[.int .i64 (k : Nat),.int .i64 (t : Nat)] w _) := fun w => New_good k t w hP.k1 hP.k2 hP.t2
 clear hP
 go_enter Tryz.func14,Tryz.ntmps14
 go_wp2_with fail
 refine Calls.mono (HG.out _) ?_
 rintro e w1 ⟨rfl,hb⟩
 obtain ⟨hb1,h1,hs⟩ := one_of hb
 have HB := Lib.hid hb1
 obtain ⟨c0,c1,c2,c3⟩ := cells_four h1
 have a1 : ∀ o',(w1.alloc o').cell? ⟨w.heap.size,1,none⟩ = _ := fun _ => calloc c1
 have a2 : ∀ o',(w1.alloc o').cell? ⟨w.heap.size,2,none⟩ = _ := fun _ => calloc c2
 clear hb hb1 c0 c1 c2 c3
 go_wp2_with fail
 refine Calls.mono (HE.out _) ?_
 rintro e w2 ⟨be,rfl,hE,hb⟩
 obtain ⟨hb2,h2,hs2⟩ := one_of hb
 have HB2 := Lib.hid (bl HB.out hb2 HB.out.size)
 have HEl := Lib.hid (⟨hE.box,hE.rows.mono (by have := HB.out.size; simp; omega),Nat.le_trans (by have := HB.out.size; simp; omega) hE.old⟩ : Elm w2 w.heap.size be k t (.slice none 0 0) 0 [])
 obtain ⟨d0,d1,d2,d3,d4⟩ := cells_five h2
 clear hb hb2 hE a1 a2
 go_wp2
 go_ret2
 exact ⟨w2.heap.size,be,.slice none 0 0,rfl,⟨HP.out,hnew rfl,CntM.none _ _,HEl.out.keep (al (Below.refl _ _) (Nat.le_refl _)),Red.nil _ _,HB2.out.size⟩,al HB2.out HB2.out.size⟩
set_option maxRecDepth 100000 in
set_option maxHeartbeats 1000000 in
theorem TRows_any (base gt be L t k D N : Nat) (M v : Value) (C : DataW Unit) (K : List Rw) (st : Nat) (w : World) (h : Tkr w base gt be L t k D N M v C K st) :
  Calls Tryz.prog 20 #[.pointer (some ⟨gt,0,none⟩)] w fun e w' => ∃ v',e = .returned v' ∧ RwL 139 5 w' w.heap.size v' K.length K ∧ Below w.heap.size w w' := by
 have hl := Red.le h.red
 have hk2 := h.ok.k2
 have ht2 := h.ok.t2
 have hR := h.red
 have HE := Lib.hid (ERows_any base be k t K.length v K w h.elm (fun r hr => ⟨by have := (hR.kept.rows r hr).1.1; show _ ≤ _; omega,by have := (hR.kept.rows r hr).1.2; show _ ≤ _; omega⟩) (by omega))
 obtain ⟨c0,c1,c2,c3,c4,c5,c6⟩ := cells_seven h.box
 clear h hl hk2 ht2 hR
 go_enter Tryz.func20,Tryz.ntmps20
 go_wp2_with fail
 refine Calls.mono HE.out ?_
 rintro e w1 ⟨v',rfl,hr,hb⟩
 have HR := Lib.hid hr
 have HB := Lib.hid hb
 clear hr hb
 go_wp2
 go_ret
 exact ⟨v',rfl,HR.out,HB.out⟩
set_option maxRecDepth 100000 in
set_option maxHeartbeats 1000000 in
theorem TGate_any (base gt be L t k D N : Nat) (M v : Value) (C : DataW Unit) (K : List Rw) (st : Nat) (w : World) (h : Tkr w base gt be L t k D N M v C K st) :
  Calls Tryz.prog 48 #[.pointer (some ⟨gt,0,none⟩)] w fun e w' => e = .returned (GVal L t k D M) ∧ Below w.heap.size w w' := by
 have hM : M.oneCell' = true := by rcases h.cnt.at_ with ⟨rfl,_⟩ | ⟨b,rfl,_⟩ <;> rfl
 obtain ⟨c0,c1,c2,c3,c4,c5,c6⟩ := cells_seven h.box
 have a0 : ∀ o',(w.alloc o').cell? ⟨gt,0,none⟩ = _ := fun _ => calloc c0
 have a1 : ∀ o',(w.alloc o').cell? ⟨gt,1,none⟩ = _ := fun _ => calloc c1
 have a2 : ∀ o',(w.alloc o').cell? ⟨gt,2,none⟩ = _ := fun _ => calloc c2
 have a3 : ∀ o',(w.alloc o').cell? ⟨gt,3,none⟩ = _ := fun _ => calloc c3
 have a4 : ∀ o',(w.alloc o').cell? ⟨gt,4,none⟩ = _ := fun _ => calloc c4
 clear h c0 c1 c2 c3 c4 c5 c6
 go_enter Tryz.func48,Tryz.ntmps48
 go_wp2_with (refine wpList_store_row (o := ⟨none,.store 105 (.tmp 2) (.tmp 9),_,_,_,_⟩) rfl 105 (.tmp 2) (.tmp 9) rfl w.heap.size #[.int .i64 (L : Nat),.int .i64 (t : Nat),.int .i64 (k : Nat),.int .u32 (D : Nat),M] rfl rfl _ _ (hnew rfl) info_gate rfl (ones_gate hM) ?_)
 refine bodyPost_ret (results_cell_row rfl _ _ _ 105 #[.int .i64 (L : Nat),.int .i64 (t : Nat),.int .i64 (k : Nat),.int .u32 (D : Nat),M] (0,0) _ rfl (hrs (hnew rfl)) Tryz.underlying105 rfl info_gate) rfl ?_
 exact ⟨rfl,below_row (al (Below.refl _ _) (Nat.le_refl _)) (Nat.le_refl _)⟩
end Go.Proofs.YtfbmdlfkipipfaaGreatDoor
namespace Go.By
open Go.RowKit
section
variable {P : Program} {ops : Array Oper} {Q : Exit → Act → World → Prop}
def StepDn (P : Program) (ops : Array Oper) (Q : Exit → Act → World → Prop) (a0 : Act) (E : (Nat → Bool) → World → Prop) (R : Nat → World → World → Prop) (Inv : Nat → (Nat → Value) → World → Prop) (i : Nat) (o : Oper) : Prop :=
 ∀ (a : Act) (w : World) (dn : Nat → Bool),dn i = false → E dn w → a.tmps.size = a0.tmps.size → (∀ k,k ∈ preds o → Inv k (sl a) w) → (∀ t,initAt ops i t = true → sl a t = sl a0 t) →
  if Region.wanted o (yielded ops a.tmps) = true then o.wp P a w (fun a' w' => ∃ v,a' = a.put o.dst v ∧ R i w w' ∧ Inv i (sl a') w') Q
  else R i w w ∧ Inv i (sl (a.put o.dst undef)) w
def EachDn (P : Program) (ops : Array Oper) (Q : Exit → Act → World → Prop) (a0 : Act) (E : (Nat → Bool) → World → Prop) (R : Nat → World → World → Prop) (Inv : Nat → (Nat → Value) → World → Prop) : List Oper → Nat → Prop
 | [],_ => True
 | o :: rest,i => StepDn P ops Q a0 E R Inv i o ∧ EachDn P ops Q a0 E R Inv rest (i + 1)
theorem EachDn.get {a0 : Act} {E : (Nat → Bool) → World → Prop} {R : Nat → World → World → Prop} {Inv : Nat → (Nat → Value) → World → Prop} : ∀ (l : List Oper) (k : Nat),EachDn P ops Q a0 E R Inv l k → ∀ j o,l[j]? = some o → StepDn P ops Q a0 E R Inv (k + j) o := by
 intro l
 induction l with
 | nil => intro k _ j o h; simp at h
 | cons x l ih =>
  intro k h j o hj
  cases j with
  | zero => simp at hj; subst hj; exact h.1
  | succ j =>
   have := ih (k + 1) h.2 j o (by simpa using hj)
   rwa [show k + 1 + j = k + (j + 1) by omega] at this
theorem wp_region_done {id : Nat} {a0 : Act} {w0 : World} (hm : P.follows .mixedOrders = true) (hback : backB ops = true)
  (E : (Nat → Bool) → World → Prop) (R : Nat → World → World → Prop) (Inv : Nat → (Nat → Value) → World → Prop)
  (E0 : E (fun _ => false) w0.drew) (ER : ∀ dn i w w',dn i = false → E dn w → R i w w' → E (fun j => if i = j then true else dn j) w')
  (stable : ∀ i j oi oj (σ σ' : Nat → Value) w w',i ≠ j → ops[i]? = some oi → ops[j]? = some oj → i ∉ preds oj ∨ True → Inv j σ w → R i w w' → (∀ t,oi.dst ≠ some t → σ' t = σ t) → (j ∉ preds oi → True) → (∀ d,oi.dst = some d → i ∈ preds oj → False) → Inv j σ' w')
  (each : EachDn P ops Q a0 E R Inv ops.toList 0)
  (fin : ∀ a w dn,E dn w → a.tmps.size = a0.tmps.size → a.defers = a0.defers → (∀ j,j < ops.size → Inv j (sl a) w) → (∀ t,(ops.toList.all fun o => o.dst != some t) = true → sl a t = sl a0 t) → Q .normal a w) :
  (Code.region id ops true).wp P Q a0 w0 := by
 refine wp_region_any hm ?_
 show wpAny P .any ops Q ops.size (Array.replicate ops.size false) a0 w0.drew
 have main : ∀ (fuel : Nat) (listed : Array Bool) (a : Act) (w : World),unl ops.size listed ≤ fuel → E (fun j => listed.getD j false) w → a.tmps.size = a0.tmps.size → a.defers = a0.defers →
   (∀ j o,listed.getD j false = true → ops[j]? = some o → ∀ k,k ∈ preds o → listed.getD k false = true) →
   (∀ j,j < ops.size → listed.getD j true = true → listed.getD j false = true) →
   (∀ j,j < ops.size → listed.getD j false = true → Inv j (sl a) w) →
   (∀ t,(∀ j o,j < ops.size → listed.getD j false = true → ops[j]? = some o → o.dst ≠ some t) → sl a t = sl a0 t) → wpAny P .any ops Q fuel listed a w := by
  intro fuel
  induction fuel with
  | zero =>
   intro listed a w hu hE hs hd hcl hlt hI ht
   have hall : ∀ j,j < ops.size → listed.getD j false = true := by
    intro j hj
    refine hlt j hj ?_
    have h0 : unl ops.size listed = 0 := by omega
    unfold unl at h0
    have := List.countP_eq_zero.1 h0 j (List.mem_range.2 hj)
    simpa using this
   refine ⟨?_,fin a w _ hE hs hd (fun j hj => hI j hj (hall j hj)) (fun t htt => ht t (fun j o _ _ ho => ?_))⟩
   ·rw [List.eq_nil_iff_forall_not_mem]
    intro i hi
    obtain ⟨h1,h2,_⟩ := mem_ready.1 hi
    have hx := hall i h1
    rcases Nat.lt_or_ge i listed.size with h | h
    ·simp [Array.getD_eq_getD_getElem?,h] at h2 hx; rw [h2] at hx; cases hx
    ·simp [Array.getD_eq_getD_getElem?,Array.getElem?_eq_none h] at hx
   ·have := List.all_eq_true.1 htt o (by rw [Array.mem_toList_iff]; exact Array.mem_of_getElem? ho)
    simpa using this
  | succ fuel ih =>
   intro listed a w hu hE hs hd hcl hlt hI ht
   refine ⟨fun hr => ?_,fun i hi => ?_⟩
   ·have hall : ∀ n j,j < n → j < ops.size → listed.getD j false = true := by
     intro n
     induction n with
     | zero => intro j hj; omega
     | succ n ihn =>
      intro j hj hjs
      refine hlt j hjs ?_
      cases hb : listed.getD j true with
      | true => rfl
      | false =>
       exfalso
       have ho : ops[j]? = some ops[j] := Array.getElem?_eq_getElem hjs
       have : j ∈ Region.ready .any ops listed := mem_ready.2 ⟨hjs,hb,_,ho,fun k hk => by
        have hbk := List.all_eq_true.1 hback j (List.mem_range.2 hjs)
        rw [ho] at hbk
        have hkj := of_decide_eq_true (List.all_eq_true.1 hbk k hk)
        exact ihn k (by omega) (by omega)⟩
       rw [hr] at this; cases this
    exact fin a w _ hE hs hd (fun j hj => hI j hj (hall (j + 1) j (by omega) hj)) (fun t htt => ht t (fun j o _ _ ho => by
     have := List.all_eq_true.1 htt o (by rw [Array.mem_toList_iff]; exact Array.mem_of_getElem? ho)
     simpa using this))
   ·obtain ⟨h1,h2,o,ho,h3⟩ := mem_ready.1 hi
    have hst := EachDn.get ops.toList 0 each i o (by simpa using ho)
    rw [Nat.zero_add] at hst
    have hnl : listed.getD i false ≠ true := by
     intro hx
     rcases Nat.lt_or_ge i listed.size with h | h
     ·simp [Array.getD_eq_getD_getElem?,h] at h2 hx; rw [h2] at hx; cases hx
     ·simp [Array.getD_eq_getD_getElem?,Array.getElem?_eq_none h] at hx
    have his : i < listed.size := by
     rcases Nat.lt_or_ge i listed.size with h | h
     ·exact h
     ·simp [Array.getD_eq_getD_getElem?,Array.getElem?_eq_none h] at h2
    have gset : ∀ j (d : Bool),(listed.setIfInBounds i true).getD j d = if i = j then true else listed.getD j d := by
     intro j d
     simp only [Array.getD_eq_getD_getElem?,Array.getElem?_setIfInBounds]
     by_cases e : i = j
     ·subst e; simp [his]
     ·simp [e]
    have hst' := hst a w _ (by simpa using hnl) hE hs (fun k hk => hI k (by
      have hbk := List.all_eq_true.1 hback i (List.mem_range.2 h1)
      rw [ho] at hbk
      have := of_decide_eq_true (List.all_eq_true.1 hbk k hk); omega) (h3 k hk)) (fun t hti => by
     refine ht t (fun j oj hj hlj hoj hdj => ?_)
     have := List.all_eq_true.1 hti j (List.mem_range.2 hj)
     rw [hoj] at this
     by_cases e : j = i
     ·subst e; exact hnl hlj
     ·simp [e,hdj] at this
      exact hnl (hcl j oj hlj hoj i this))
    have next : ∀ (v : Value) (w' : World),R i w w' → Inv i (sl (a.put o.dst v)) w' → wpAny P .any ops Q fuel (listed.setIfInBounds i true) (a.put o.dst v) w' := by
     intro v w' hR hIi
     refine ih _ _ _ (by have := unl_set (n := ops.size) h1 h2; omega) (by have h := ER _ i w w' (by simpa using hnl) hE hR; have e : (fun j => if i = j then true else listed.getD j false) = fun j => (listed.setIfInBounds i true).getD j false := funext fun j => (gset j false).symm; rw [e] at h; exact h) ((put_size _ _ _).trans hs) ((put_defers _ _ _).trans hd) ?_ ?_ ?_ ?_
     ·intro j oj hj hoj k hk
      rw [gset] at hj ⊢
      by_cases e : i = k
      ·rw [if_pos e]
      ·rw [if_neg e]
       by_cases e' : i = j
       ·subst e'; rw [ho] at hoj; cases hoj; exact h3 k hk
       ·rw [if_neg e'] at hj; exact hcl j oj hj hoj k hk
     ·intro j hj hl
      rw [gset] at hl ⊢
      by_cases e : i = j
      ·rw [if_pos e]
      ·rw [if_neg e] at hl ⊢; exact hlt j hj hl
     ·intro j hj hl
      rw [gset] at hl
      by_cases e : i = j
      ·subst e; exact hIi
      ·rw [if_neg e] at hl
       have hoj : ops[j]? = some ops[j] := Array.getElem?_eq_getElem hj
       exact stable i j o _ (sl a) _ w w' e ho hoj (.inr trivial) (hI j hj hl) hR (fun t h => put_sl _ _ _ _ h) (fun _ => trivial) (fun d hdd hp => hnl (hcl j _ hl hoj i hp))
     ·intro t htt
      have hdt : o.dst ≠ some t := htt i o h1 (by rw [gset,if_pos rfl]) ho
      rw [put_sl _ _ _ _ hdt]
      exact ht t (fun j oj hj hl hoj => htt j oj hj (by rw [gset]; split <;> simp [hl]) hoj)
    unfold wpOp
    rw [ho]
    show if Region.wanted o (yielded ops a.tmps) = true then _ else _
    split
    ·rename_i hw
     rw [if_pos hw] at hst'
     exact .inl (Oper.wp_mono (fun a' w' ⟨v,e,hR,hIi⟩ => by rw [e] at hIi ⊢; exact next v w' hR hIi) hst')
    ·rename_i hw
     rw [if_neg hw] at hst'
     exact next undef w hst'.1 hst'.2
 refine main ops.size _ a0 w0.drew ?_ (by have e : (fun j => (Array.replicate ops.size false).getD j false) = fun _ => false := funext fun j => (by simp [Array.getD_eq_getD_getElem?,Array.getElem?_replicate]; split <;> rfl); rw [e]; exact E0) rfl rfl ?_ ?_ ?_ ?_
 ·unfold unl; exact Nat.le_trans List.countP_le_length (by simp)
 ·intro j o hj; simp [Array.getD_eq_getD_getElem?,Array.getElem?_replicate] at hj
  split at hj <;> simp at hj
 ·intro j hj hl; simp [Array.getD_eq_getD_getElem?,Array.getElem?_replicate,hj] at hl
 ·intro j hj hl; simp [Array.getD_eq_getD_getElem?,Array.getElem?_replicate,hj] at hl
 ·intro t _; rfl
def InvD (ops : Array Oper) (sh : Nat → Value → World → Prop) (i : Nat) (σ : Nat → Value) (w : World) : Prop := match dstOf ops i with
 | some d => sh i (σ d) w
 | none => True
def StepE (P : Program) (ops : Array Oper) (Q : Exit → Act → World → Prop) (a0 : Act) (E : (Nat → Bool) → World → Prop) (R : Nat → World → World → Prop) (sh : Nat → Value → World → Prop) (i : Nat) (o : Oper) : Prop :=
 ∀ (a : Act) (w : World) (dn : Nat → Bool),dn i = false → E dn w → a.tmps.size = a0.tmps.size → (∀ k,k ∈ preds o → InvD ops sh k (sl a) w) → (∀ t,initAt ops i t = true → sl a t = sl a0 t) →
  if Region.wanted o (yielded ops a.tmps) = true then o.wp P a w (fun a' w' => ∃ v,a' = a.put o.dst v ∧ R i w w' ∧ sh i v w') Q
  else R i w w ∧ sh i undef w
def EachE (P : Program) (ops : Array Oper) (Q : Exit → Act → World → Prop) (a0 : Act) (E : (Nat → Bool) → World → Prop) (R : Nat → World → World → Prop) (sh : Nat → Value → World → Prop) : List Oper → Nat → Prop
 | [],_ => True
 | o :: rest,i => StepE P ops Q a0 E R sh i o ∧ EachE P ops Q a0 E R sh rest (i + 1)
theorem eachE_of {a0 : Act} {E : (Nat → Bool) → World → Prop} {R : Nat → World → World → Prop} {sh : Nat → Value → World → Prop} {n : Nat} (hn : a0.tmps.size = n) : ∀ (l : List Oper) (k : Nat),(∀ j o,l[j]? = some o → ops[k + j]? = some o) → (l.all fun o => match o.dst with
  | some d => decide (d < n)
  | none => false) = true →
  EachE P ops Q a0 E R sh l k → EachDn P ops Q a0 E R (InvD ops sh) l k := by
 intro l
 induction l with
 | nil => intro k _ _ _; trivial
 | cons o l ih =>
  intro k hk hd h
  simp only [List.all_cons,Bool.and_eq_true] at hd
  refine ⟨?_,ih (k + 1) (fun j o' hj => by have := hk (j + 1) o' (by simpa using hj); rwa [show k + (j + 1) = k + 1 + j by omega] at this) hd.2 h.2⟩
  intro a w dn hdn hE hs hp hi
  have ho : ops[k]? = some o := by have := hk 0 o (by simp); simpa using this
  have hs1 := h.1 a w dn hdn hE hs hp hi
  cases hdo : o.dst with
  | none => rw [hdo] at hd; simp at hd
  | some d =>
   rw [hdo] at hd
   have hd1 : d < n := of_decide_eq_true hd.1
   have hdn : d < a.tmps.size := by rw [hs,hn]; exact hd1
   have hdst : dstOf ops k = some d := by simp [dstOf,ho,hdo]
   split
   ·rename_i hw
    rw [if_pos hw] at hs1
    refine Oper.wp_mono ?_ hs1
    rintro a' w' ⟨v,e,hb,hok⟩
    refine ⟨v,e.trans (by rw [hdo]),hb,?_⟩
    unfold InvD
    rw [hdst]
    show sh k (sl a' d) w'
    rw [e,hdo,put_same _ _ _ hdn]; exact hok
   ·rename_i hw
    rw [if_neg hw] at hs1
    refine ⟨hs1.1,?_⟩
    unfold InvD
    rw [hdst]
    show sh k (sl (a.put (some d) undef) d) w
    rw [put_same _ _ _ hdn]; exact hs1.2
def predB (ops : Array Oper) (i j : Nat) : Bool := match ops[j]? with
 | some o => (preds o).contains i
 | none => false
theorem wp_region_dones {id : Nat} {a0 : Act} {w0 : World} (E : (Nat → Bool) → World → Prop) (R : Nat → World → World → Prop) (sh : Nat → Value → World → Prop) (n : Nat) (hn : a0.tmps.size = n) (hm : P.follows .mixedOrders = true) (hback : backB ops = true) (hdist : distB ops = true) (hdsts : dstsB ops n = true)
  (E0 : E (fun _ => false) w0.drew) (ER : ∀ dn i w w',dn i = false → E dn w → R i w w' → E (fun j => if i = j then true else dn j) w') (keep : ∀ i j v w w',i ≠ j → predB ops i j = false → sh j v w → R i w w' → sh j v w')
  (each : EachE P ops Q a0 E R sh ops.toList 0)
  (fin : ∀ a w dn,E dn w → a.tmps.size = a0.tmps.size → a.defers = a0.defers → (∀ j,j < ops.size → InvD ops sh j (sl a) w) → (∀ t,(ops.toList.all fun o => o.dst != some t) = true → sl a t = sl a0 t) → Q .normal a w) :
  (Code.region id ops true).wp P Q a0 w0 := by
 refine wp_region_done hm hback E R (InvD ops sh) E0 ER ?_ (eachE_of hn _ 0 (fun j o hj => by simpa using hj) hdsts each) fin
 intro i j oi oj σ σ' w w' hij hoi hoj _ hI hR hσ _ hnp
 unfold InvD at hI ⊢
 cases hdj : dstOf ops j with
 | none => trivial
 | some d =>
  rw [hdj] at hI
  show sh j (σ' d) w'
  have hne : oi.dst ≠ some d := by
   intro e
   have hi' : i < ops.size := (Array.getElem?_eq_some_iff.1 hoi).1
   have hj' : j < ops.size := (Array.getElem?_eq_some_iff.1 hoj).1
   have := List.all_eq_true.1 (List.all_eq_true.1 hdist i (List.mem_range.2 hi')) j (List.mem_range.2 hj')
   rw [hoi,hoj] at this
   have hdj' : oj.dst = some d := by simpa [dstOf,hoj] using hdj
   simp [e,hdj',hij] at this
  rw [hσ d hne]
  refine keep i j _ _ _ hij ?_ hI hR
  unfold predB
  rw [hoj]
  show (preds oj).contains i = false
  cases hc : (preds oj).contains i with
  | false => rfl
  | true =>
   have hdo := List.all_eq_true.1 hdsts oi (by rw [Array.mem_toList_iff]; exact Array.mem_of_getElem? hoi)
   cases hd : oi.dst with
   | none => rw [hd] at hdo; simp at hdo
   | some d => exact (hnp d hd (by simpa using hc)).elim
end
end Go.By
namespace Go.By
open Go.RowKit
theorem eachE_all {P : Program} {ops : Array Oper} {Q : Exit → Act → World → Prop} {a0 : Act} {E : (Nat → Bool) → World → Prop} {R : Nat → World → World → Prop} {sh : Nat → Value → World → Prop} (key : ∀ i o,ops[i]? = some o → StepE P ops Q a0 E R sh i o) :
  ∀ (l : List Oper) (k : Nat),(∀ j o,l[j]? = some o → ops[k + j]? = some o) → EachE P ops Q a0 E R sh l k := by
 intro l
 induction l with
 | nil => intro k _; trivial
 | cons x l ih =>
  intro k h
  exact ⟨key k x (by have := h 0 x rfl; simpa using this),ih (k + 1) fun j o hj => by have := h (j + 1) o (by simpa using hj); rwa [show k + 1 + j = k + (j + 1) by omega]⟩
def freeB (ops : Array Oper) : Bool := ops.toList.all fun o => o.guard.isNone
theorem wp_region_call {P : Program} {ops : Array Oper} {Q : Exit → Act → World → Prop} {id : Nat} {a0 : Act} {w0 : World} (sv : Nat → Value) (n s : Nat) (P1 : World → Prop) (hn : a0.tmps.size = n) (hm : P.follows .mixedOrders = true) (hback : backB ops = true) (hdist : distB ops = true) (hdsts : dstsB ops n = true) (hfree : freeB ops = true) (hs : s < ops.size)
  (each : ∀ i o,i ≠ s → ops[i]? = some o → ∀ a w,(w = w0.drew ∨ P1 w) → a.tmps.size = a0.tmps.size → (∀ k d,k ∈ preds o → dstOf ops k = some d → sl a d = sv k) → (∀ t,initAt ops i t = true → sl a t = sl a0 t) → (execOp a.eval o).run P w = .ok (.value (sv i)) w)
  (call : ∀ o,ops[s]? = some o → ∀ a,a.tmps.size = a0.tmps.size → (∀ k d,k ∈ preds o → dstOf ops k = some d → sl a d = sv k) → (∀ t,initAt ops s t = true → sl a t = sl a0 t) → o.wp P a w0.drew (fun a' w' => a' = a.put o.dst (sv s) ∧ P1 w') Q)
  (fin : ∀ a w,P1 w → a.tmps.size = a0.tmps.size → a.defers = a0.defers → (∀ j d,j < ops.size → dstOf ops j = some d → sl a d = sv j) → (∀ t,(ops.toList.all fun o => o.dst != some t) = true → sl a t = sl a0 t) → Q .normal a w) :
  (Code.region id ops true).wp P Q a0 w0 := by
 have hg : ∀ (i : Nat) (o : Oper),ops[i]? = some o → o.guard = none := fun i o ho => by
  have := List.all_eq_true.1 hfree o (by rw [Array.mem_toList_iff]; exact Array.mem_of_getElem? ho)
  cases hx : o.guard <;> simp [hx] at this ⊢
 refine wp_region_dones (fun dn w => (dn s = true → P1 w) ∧ (dn s = false → w = w0.drew)) (fun i w w' => if i = s then w = w0.drew ∧ P1 w' else w' = w) (fun j v w => v = sv j ∧ (j = s → P1 w)) n hn hm hback hdist hdsts ?_ ?_ ?_ ?_ ?_
 ·exact ⟨fun h => absurd h (by simp),fun _ => rfl⟩
 ·intro dn i w w' hdn hE hR
  by_cases hi : i = s
  ·have hR' : w = w0.drew ∧ P1 w' := by simpa [hi] using hR
   exact ⟨fun _ => hR'.2,fun h => by simp [hi] at h⟩
  ·have hR' : w' = w := by simpa [hi] using hR
   subst hR'
   exact ⟨fun h => hE.1 (by simpa [hi] using h),fun h => hE.2 (by simpa [hi] using h)⟩
 ·intro i j v w w' hij _ hv hR
  refine ⟨hv.1,fun hj => ?_⟩
  by_cases hi : i = s
  ·exact absurd (hi.trans hj.symm) hij
  ·rw [if_neg hi] at hR
   rw [hR]; exact hv.2 hj
 ·refine eachE_all ?_ ops.toList 0 (fun j o hj => by simpa using hj)
  intro i o ho a w dn hdn hE hsz hp hi
  have hp' : ∀ k d,k ∈ preds o → dstOf ops k = some d → sl a d = sv k := fun k d hk hd => by
   have := hp k hk
   unfold InvD at this
   rw [hd] at this
   exact this.1
  rw [if_pos (by simp [Region.wanted,hg i o ho])]
  by_cases his : i = s
  ·subst his
   have hw := hE.2 hdn
   subst hw
   refine Oper.wp_mono (fun a' w' hq => ?_) (call o ho a hsz hp' hi)
   obtain ⟨rfl,h1⟩ := hq
   refine ⟨sv i,rfl,?_,rfl,fun _ => h1⟩
   dsimp only
   rw [if_pos rfl]
   exact ⟨rfl,h1⟩
  ·have hw : w = w0.drew ∨ P1 w := by
    cases hx : dn s with
    | true => exact .inr (hE.1 hx)
    | false => exact .inl (hE.2 hx)
   refine wp_val (sv i) (each i o his ho a w hw hsz hp' hi) ⟨sv i,rfl,?_,rfl,fun h => absurd h his⟩
   dsimp only
   rw [if_neg his]
 ·intro a w dn hE hsz hd hI ht
  have hos : ops[s]? = some ops[s] := Array.getElem?_eq_getElem hs
  have hds : ∃ d,dstOf ops s = some d := by
   have := List.all_eq_true.1 hdsts ops[s] (Array.getElem_mem_toList hs)
   cases hx : ops[s].dst with
   | none => rw [hx] at this; cases this
   | some d => exact ⟨d,by simp [dstOf,hos,hx]⟩
  obtain ⟨d,hds⟩ := hds
  have h1 := hI s hs
  unfold InvD at h1
  rw [hds] at h1
  refine fin a w (h1.2 rfl) hsz hd (fun j d' hj hdj => ?_) ht
  have := hI j hj
  unfold InvD at this
  rw [hdj] at this
  exact this.1
end Go.By
namespace Go.By
open Go.RowKit Go.Maps Go.Proofs.YtfbmdlfkipipfaaGreatDoor
structure OneE (w : World) (g : Nat) (w' : World) : Prop where
 os : w'.os = w.os
 tape : w'.tape = w.tape
 output : w'.output = w.output
 size : w'.heap.size = w.heap.size
 block : ∀ b,b ≠ g → w'.heap[b]? = w.heap[b]?
theorem OneE.refl (w : World) (g : Nat) : OneE w g w := ⟨rfl,rfl,rfl,rfl,fun _ _ => rfl⟩
theorem OneE.set {w w' : World} {g i : Nat} (h : OneE w g w') (v : Value) : OneE w g (w'.setCell ⟨g,i,none⟩ v) :=
 ⟨h.os,h.tape,h.output,by simp [World.setCell]; exact h.size,fun b hb => (Below.heap_setCell _ _ _ _ hb).trans (h.block b hb)⟩
theorem OneE.below {w w' : World} {g B : Nat} (h : OneE w g w') (hB : B ≤ g) : Below B w w' := ⟨h.os,h.tape,h.output,by rw [h.size]; exact Nat.le_refl _,fun i hi => h.block i (by omega)⟩
theorem OneE.fresh {T T' B g n c : Nat} {w w' : World} {q : Option Addr} {xs : List UInt8} {old : Array Value} {fr : Nat × Nat} (hE : OneE w g w') (h : Fresh T B w q n c xs) (hg : w.heap[g]? = some (.cells old T' fr)) (hne : T' ≠ T) : Fresh T B w' q n c xs := by
 have hd : ∀ a,q = some a → a.block ≠ g := fun a ha e1 => by
  obtain ⟨cs,fr,e⟩ := h.ty a ha
  rw [e1,hg] at e; injection e with e; injection e with _ e _; exact hne e
 refine ⟨⟨h.sl.len,h.sl.le,h.sl.max,h.sl.nil,fun i hi => ?_⟩,h.new,fun a ha => ?_⟩
 ·obtain ⟨b,o,e,hc⟩ := h.sl.rs i hi
  exact ⟨b,o,e,(World.cell?_of_block (a := ⟨b,o + i,none⟩) (hE.block b (hd _ e))).trans hc⟩
 ·obtain ⟨cs,fr,e⟩ := h.ty a ha
  exact ⟨cs,fr,(hE.block _ (hd a ha)).trans e⟩
theorem OneE.bw {T g b : Nat} {w w' : World} {u : Value} {xs : List UInt8} {old : Array Value} {T' : Nat} {fr : Nat × Nat} (hE : OneE w g w') (h : Bw T w b u xs) (hg : w.heap[g]? = some (.cells old T' fr)) (hne : T' ≠ T) : Bw T w' b u xs := by
 obtain ⟨q,m,c,e,l,o⟩ := h
 refine ⟨q,m,c,e,l,owns_same o (by rw [hE.size]; exact Nat.le_refl _) fun g2 hg2 => hE.block _ fun e2 => ?_⟩
 rcases o.2 with ⟨e1,_⟩ | ⟨g',cap,cur,e1,_,hh,_⟩
 ·rw [e1] at hg2; cases hg2
 ·rw [e1] at hg2; cases hg2
  have e3 : g' = g := e2
  rw [e3,hg] at hh; injection hh with hh; injection hh with _ hh _; exact hne hh
theorem OneE.elm {g base be k t n : Nat} {w w' : World} {v : Value} {K : List Rw} {old : Array Value} {T' : Nat} {fr : Nat × Nat} (hE : OneE w g w') (h : Elm w base be k t v n K) (hg : w.heap[g]? = some (.cells old T' fr)) (h1 : T' ≠ 201) (h2 : 139 ≠ T') (h3 : T' ≠ 5) : Elm w' base be k t v n K := by
 refine ⟨(hE.block be fun e => ?_).trans h.box,?_,h.old⟩
 ·have := h.box
  rw [e,hg] at this; injection this with this; injection this with _ this _; exact h1 this
 ·have hv := h.rows.ne_box hg h2
  obtain ⟨vs,a,b,o,r⟩ := h.rows
  exact ⟨vs,a,b,owns_same o (by rw [hE.size]; exact Nat.le_refl _) fun g2 hg2 => hE.block _ fun e2 => hv (by rw [hg2,e2]),fun j u hj => by obtain ⟨x,hk,g1,g2⟩ := r j u hj; exact ⟨x,hk,hE.bw g1 hg h3,hE.bw g2 hg h3⟩⟩
structure TChg (w w' : World) (gt be : Nat) (v : Value) : Prop where
 os : w'.os = w.os
 tape : w'.tape = w.tape
 output : w'.output = w.output
 size : w.heap.size ≤ w'.heap.size
 block : ∀ b,b < w.heap.size → b ≠ gt → b ≠ be → v.ownBlock ≠ some b → w'.heap[b]? = w.heap[b]?
theorem TChg.of {w w' : World} (gt be : Nat) (v : Value) (h : Below w.heap.size w w') : TChg w w' gt be v := ⟨h.os,h.tape,h.output,h.size,fun b hb _ _ _ => h.block b hb⟩
theorem TChg.one {w a b : World} {gt be : Nat} {v : Value} (h : TChg w a gt be v) (g : OneE a gt b) : TChg w b gt be v :=
 ⟨g.os.trans h.os,g.tape.trans h.tape,g.output.trans h.output,by rw [g.size]; exact h.size,fun i hi h1 h2 h3 => (g.block i h1).trans (h.block i hi h1 h2 h3)⟩
theorem TChg.then {w a b : World} {gt be : Nat} {v : Value} (h : TChg w a gt be v) (g : Below a.heap.size a b) : TChg w b gt be v :=
 ⟨g.os.trans h.os,g.tape.trans h.tape,g.output.trans h.output,Nat.le_trans h.size g.size,fun i hi h1 h2 h3 => (g.block i (Nat.lt_of_lt_of_le hi h.size)).trans (h.block i hi h1 h2 h3)⟩
theorem TChg.chg {w a b : World} {gt be : Nat} {v : Value} (h : TChg w a gt be v) (g : Chg a b be v) : TChg w b gt be v :=
 ⟨g.os.trans h.os,g.tape.trans h.tape,g.output.trans h.output,Nat.le_trans h.size g.size,fun i hi h1 h2 h3 => (g.block i (Nat.lt_of_lt_of_le hi h.size) h2 h3).trans (h.block i hi h1 h2 h3)⟩
end Go.By
namespace Go.Proofs.YtfbmdlfkipipfaaGreatDoor
open Go.RowKit Go.By Go.Maps
theorem CntM.row {w : World} {M : Value} {N : Nat} {C : DataW Unit} (h : CntM w M N C) {g T : Nat} {old cs : Array Value} {fr : Nat × Nat} (hg : w.heap[g]? = some (.cells old T fr)) : CntM (w.setRow g cs) M N C := by
 refine ⟨?_,h.small⟩
 rcases h.at_ with h1 | ⟨b,e,ho⟩
 ·exact .inl h1
 ·refine .inr ⟨b,e,?_⟩
  obtain ⟨es,clock,h1,F,hs,hD⟩ := ho
  exact ⟨es,clock,hro h1 (fun e => by rw [e,hg] at h1; cases h1),F,hs,hD⟩
theorem CntM.one {w w' : World} {M : Value} {N g : Nat} {C : DataW Unit} (h : CntM w M N C) (hE : OneE w g w') {T : Nat} {old : Array Value} {fr : Nat × Nat} (hg : w.heap[g]? = some (.cells old T fr)) : CntM w' M N C := by
 refine ⟨?_,h.small⟩
 rcases h.at_ with h1 | ⟨b,e,ho⟩
 ·exact .inl h1
 ·refine .inr ⟨b,e,?_⟩
  obtain ⟨es,clock,h1,F,hs,hD⟩ := ho
  exact ⟨es,clock,(hE.block b (fun e => by rw [e,hg] at h1; cases h1)).trans h1,F,hs,hD⟩
theorem PkC.one {w w' : World} {B k t D : Nat} {xs : List UInt8} {v0 v1 v2 v3 v4 v5 v6 : Value} (h : PkC w B k t D xs v0 v1 v2 v3 v4 v5 v6) {T g : Nat} {o1 : Array Value} {f1 : Nat × Nat} (hE : OneE w g w') (h1 : w.heap[g]? = some (.cells o1 T f1)) (n1 : T ≠ 5) : PkC w' B k t D xs v0 v1 v2 v3 v4 v5 v6 :=
 ⟨h.1,fun hc => by obtain ⟨q,n,c,q2,n2',c2,e0,e1,e2,e3,e4,e5,e6,f1,f2⟩ := h.2 hc; exact ⟨q,n,c,q2,n2',c2,e0,e1,e2,e3,e4,e5,e6,hE.fresh f1 h1 n1,hE.fresh f2 h1 n1⟩⟩
theorem tk_ne : 126 ≠ 5 ∧ 126 ≠ 201 ∧ 139 ≠ 126 := by decide
def TkRet (w : World) (base gt be L t k D N : Nat) (v : Value) (C : DataW Unit) (K : List Rw) (st : Nat) (code : Int) (e : Ending) (w' : World) : Prop :=
 e = .returned (.int .i64 code) ∧ ∃ M' v',Tkr w' base gt be L t k D N M' v' C K st ∧ TChg w w' gt be v ∧ (v'.ownBlock = v.ownBlock ∨ ∀ b,v'.ownBlock = some b → w.heap.size ≤ b)
set_option maxRecDepth 100000 in
set_option maxHeartbeats 4000000 in
theorem TTake_bad (base gt be L t k D N : Nat) (M v : Value) (C : DataW Unit) (K : List Rw) (st : Nat) (p : Option Addr) (n c : Nat) (xs : List UInt8) (w : World) (h : Tkr w base gt be L t k D N M v C K st) (hT : HalfT w) (hN : N < 1000000) (hs : Sl B8 w p n c xs) (hr : Room n) (hc : readC k t D xs ≠ 0) :
  Calls Tryz.prog 19 #[.pointer (some ⟨gt,0,none⟩),.slice p n c] w (TkRet w base gt be L t k D (N + 1) v (bump C (readC k t D xs)) K st (readC k t D xs)) := by
 have HG : Hid (∀ w,HalfT w → CntM w M N C → Sl B8 w p n c xs → Calls Tryz.prog 62 #[GVal L t k D M,.slice p n c] w fun e w' => ∃ b2 v0 v1 v2 v3 v4 v5 v6,e = .returned (.tuple #[GVal L t k D (.map (some b2)),.agg #[v0,v1,v2,v3,v4,v5,v6],.int .i64 (readC k t D xs)]) ∧
   CntM w' (.map (some b2)) (N + 1) (bump C (readC k t D xs)) ∧ PkC w' w.heap.size k t D xs v0 v1 v2 v3 v4 v5 v6 ∧ Below w.heap.size w w') := fun w hT hC hs => GLook_any L t k D N M C p n c xs w h.ok hT hC hN hs hr
 have H := Lib.hid h
 have HT := Lib.hid hT
 have HS := Lib.hid hs
 obtain ⟨c0,c1,c2,c3,c4,c5,c6⟩ := cells_seven h.box
 have e0 : (readC k t D xs != 0) = true := bne_iff_ne.2 hc
 generalize readC k t D xs = E at *
 clear h hT hs hr hN hc
 go_enter Tryz.func19,Tryz.ntmps19
 go_wp2_with fail
 refine Calls.mono (HG.out _ HT.out H.out.cnt HS.out) ?_
 rintro e w1 ⟨b2,v0,v1,v2,v3,v4,v5,v6,rfl,hcn,hpk,hb⟩
 have HB := Lib.hid hb
 have HCn := Lib.hid hcn
 have HPk := Lib.hid hpk
 obtain ⟨o0,o1,o2,o3,o4,o5,o6⟩ := hpk.1
 clear c0 c1 c2 c3 c4 c5 c6 hb hcn hpk
 go_wp2_with (first | (refine wpList_store_row (o := ⟨none,.store 105 (.tmp 5) (.tmp 19),_,_,_,_⟩) rfl 105 (.tmp 5) (.tmp 19) rfl w1.heap.size #[.int .i64 (L : Nat),.int .i64 (t : Nat),.int .i64 (k : Nat),.int .u32 (D : Nat),.map (some b2)] rfl rfl _ _ (hal (hnew rfl)) info_gate rfl (ones_gate rfl) ?_) | (refine wpList_store_rowS (o := ⟨none,.store 135 (.tmp 6) (.tmp 20),_,_,_,_⟩) rfl 135 (.tmp 6) (.tmp 20) rfl (w1.heap.size + 1) #[v0,v1,v2,v3,v4,v5,v6] rfl rfl _ _ (hro (hnew (by simp)) (by omega)) info_packet rfl (by simp [o0,o1,o2,o3,o4,o5,o6]) ?_))
 intro w2 hr2
 have HB2 : Hid (Below w.heap.size w w2) := by rw [hr2.eq]; exact below_row (below_row (al (al HB.out HB.out.size) (by have := HB.out.size; simp; omega)) HB.out.size) (by have := HB.out.size; omega)
 have k5 : w2.heap[w1.heap.size]? = some (.cells #[.int .i64 (L : Nat),.int .i64 (t : Nat),.int .i64 (k : Nat),.int .u32 (D : Nat),.map (some b2)] 105 (0,0)) := by rw [hr2.eq]; exact hro (hrs (hal (hnew rfl))) (by omega)
 have k6 : w2.heap[w1.heap.size + 1]? = some (.cells #[v0,v1,v2,v3,v4,v5,v6] 135 (0,0)) := by rw [hr2.eq]; exact hrs (hro (hnew (by simp)) (by omega))
 have kt := (HB2.out.block _ (lt_of_block H.out.box)).trans H.out.box
 have HPk2 : Hid (PkC w2 w.heap.size k t D xs v0 v1 v2 v3 v4 v5 v6) := by rw [hr2.eq]; exact ((HPk.out.keep (al (al (Below.refl _ _) (Nat.le_refl _)) (by simp))).row (hal (hnew rfl)) gate_ne).row (hro (hnew (by simp)) (by omega)) pkt_ne
 have HCn2 : Hid (CntM w2 (.map (some b2)) (N + 1) (bump C E)) := by rw [hr2.eq]; exact ((HCn.out.keep (al (al (Below.refl _ _) (Nat.le_refl _)) (by simp))).row (hal (hnew rfl))).row (hro (hnew (by simp)) (by omega))
 have hgt := lt_of_block H.out.box
 have hG5 := HB.out.size
 clear hr2 HCn HPk HB
 obtain ⟨g5,hg5⟩ : ∃ g5,g5 = w1.heap.size := ⟨_,rfl⟩
 rw [← hg5] at k5 k6 hG5 ⊢
 clear hg5
 obtain ⟨c0,c1,c2,c3,c4,c5,c6⟩ := cells_seven kt
 obtain ⟨d0,d1,d2,d3,d4⟩ := cells_five k5
 have z0 := frozen_of_row _ _ 0 _ _ kt
 have z1 := frozen_of_row _ _ 1 _ _ kt
 have z2 := frozen_of_row _ _ 2 _ _ kt
 have z3 := frozen_of_row _ _ 3 _ _ kt
 have z4 := frozen_of_row _ _ 4 _ _ kt
 go_wp2
 go_ret
 have hO : OneE w2 gt (((((w2.setCell ⟨gt,0,none⟩ (.int .i64 (L : Nat))).setCell ⟨gt,1,none⟩ (.int .i64 (t : Nat))).setCell ⟨gt,2,none⟩ (.int .i64 (k : Nat))).setCell ⟨gt,3,none⟩ (.int .u32 (D : Nat))).setCell ⟨gt,4,none⟩ (.map (some b2))) := (((((OneE.refl w2 gt).set _).set _).set _).set _).set _
 exact ⟨rfl,.map (some b2),v,⟨H.out.ok,hss (hss (hss (hss (hss kt)))),HCn2.out.one hO kt,hO.elm (H.out.elm.keep HB2.out) kt tk_ne.2.1 tk_ne.2.2 tk_ne.1,H.out.red,H.out.old⟩,(TChg.of gt be v HB2.out).one hO,.inl rfl⟩
end Go.Proofs.YtfbmdlfkipipfaaGreatDoor
namespace Go.By
open Go.RowKit Go.Maps Go.Proofs.YtfbmdlfkipipfaaGreatDoor
theorem wpList_store_five {P : Program} {ops : Array Oper} {rest : List Oper} {o : Oper} {a : Act} {w : World} {Q : Exit → Act → World → Prop} (hgd : o.guard = none) (ty : TypeId) (x y : Operand) (ho : o.op = .store ty x y)
  (g : Nat) (a0 a1 a2 a3 : Int) (m : Nat) (b0 b1 b2 b3 b4 b5 b6 : Value) (T : TypeId) (hx : a.eval x = .pointer (some ⟨g,0,none⟩)) (hy : a.eval y = .agg #[.int .i64 a0,.int .i64 a1,.int .i64 a2,.int .u32 a3,.map (some m)])
  (kt : w.heap[g]? = some (.cells #[b0,b1,b2,b3,b4,b5,b6] T (0,0))) (hi : (P.info? ty).map (·.size) = some 5) {d : TypeDesc} (hu : P.underlying ty = some d)
  (h : ∀ w',OneE w g w' → w'.heap[g]? = some (.cells #[.int .i64 a0,.int .i64 a1,.int .i64 a2,.int .u32 a3,.map (some m),b5,b6] T (0,0)) → wpList P ops Q rest (a.put o.dst undef) w') : wpList P ops Q (o :: rest) a w := by
 refine wpList_plain hgd fun K hK => ?_
 have hK' := hK _ _ (h (((((w.setCell ⟨g,0,none⟩ (.int .i64 a0)).setCell ⟨g,1,none⟩ (.int .i64 a1)).setCell ⟨g,2,none⟩ (.int .i64 a2)).setCell ⟨g,3,none⟩ (.int .u32 a3)).setCell ⟨g,4,none⟩ (.map (some m))) ((((((OneE.refl w g).set _).set _).set _).set _).set _) (hss (hss (hss (hss (hss kt))))))
 obtain ⟨c0,c1,c2,c3,c4,c5,c6⟩ := cells_seven kt
 have z0 := frozen_of_row _ _ 0 _ _ kt
 have z1 := frozen_of_row _ _ 1 _ _ kt
 have z2 := frozen_of_row _ _ 2 _ _ kt
 have z3 := frozen_of_row _ _ 3 _ _ kt
 have z4 := frozen_of_row _ _ 4 _ _ kt
 have hsz : (sizeOf ty).run P w = .ok 5 w := by
  cases hI : P.info? ty with
  | none => rw [hI] at hi; cases hi
  | some i =>
   rw [hI] at hi
   simp at hi
   simp [sizeOf,typeInfo,hI,hi]
 have _ := hu
 unfold Oper.wp
 simp only [execOp,ho,hx,hy]
 simp [go_sem,hsz,c0,c1,c2,c3,c4,z0,z1,z2,z3,z4]
 exact hK'
end Go.By
namespace Go.Proofs.YtfbmdlfkipipfaaGreatDoor
open Go.RowKit Go.By Go.Maps
def eqX (k t : Nat) (xs : List UInt8) : Rw := (vecS (pktM xs) (pktX k xs) (pktS k xs) k,pktY k t xs)
def nextS (K : List Rw) (x : Rw) (k : Nat) : Nat := if codeF K x = 2 then 2 else if (putK K x).length = k then 1 else 0
set_option maxRecDepth 100000 in
set_option maxHeartbeats 4000000 in
theorem TTake_done (base gt be L t k D N : Nat) (M v : Value) (C : DataW Unit) (K : List Rw) (st : Nat) (p : Option Addr) (n c : Nat) (xs : List UInt8) (w : World) (h : Tkr w base gt be L t k D N M v C K st) (hT : HalfT w) (hN : N < 1000000) (hs : Sl B8 w p n c xs) (hr : Room n) (hc : readC k t D xs = 0) (hst : st ≠ 0) :
  Calls Tryz.prog 19 #[.pointer (some ⟨gt,0,none⟩),.slice p n c] w (TkRet w base gt be L t k D (N + 1) v (bump C (readC k t D xs)) K st (readC k t D xs)) := by
 have HG : Hid (∀ w,HalfT w → CntM w M N C → Sl B8 w p n c xs → Calls Tryz.prog 62 #[GVal L t k D M,.slice p n c] w fun e w' => ∃ b2 v0 v1 v2 v3 v4 v5 v6,e = .returned (.tuple #[GVal L t k D (.map (some b2)),.agg #[v0,v1,v2,v3,v4,v5,v6],.int .i64 (readC k t D xs)]) ∧
   CntM w' (.map (some b2)) (N + 1) (bump C (readC k t D xs)) ∧ PkC w' w.heap.size k t D xs v0 v1 v2 v3 v4 v5 v6 ∧ Below w.heap.size w w') := fun w hT hC hs => GLook_any L t k D N M C p n c xs w h.ok hT hC hN hs hr
 have H := Lib.hid h
 have HT := Lib.hid hT
 have HS := Lib.hid hs
 obtain ⟨c0,c1,c2,c3,c4,c5,c6⟩ := cells_seven h.box
 rw [hc] at HG ⊢
 have HC := Lib.hid hc
 have e1 : ((st : Int) != 0) = true := bne_iff_ne.2 (by omega)
 clear h hT hs hr hN hc hst
 go_enter Tryz.func19,Tryz.ntmps19
 go_wp2_with fail
 refine Calls.mono (HG.out _ HT.out H.out.cnt HS.out) ?_
 rintro e w1 ⟨b2,v0,v1,v2,v3,v4,v5,v6,rfl,hcn,hpk,hb⟩
 have HB := Lib.hid hb
 have HCn := Lib.hid hcn
 have HPk := Lib.hid hpk
 obtain ⟨o0,o1,o2,o3,o4,o5,o6⟩ := hpk.1
 clear c0 c1 c2 c3 c4 c5 c6 hb hcn hpk
 go_wp2_with (first | (refine wpList_store_row (o := ⟨none,.store 105 (.tmp 5) (.tmp 19),_,_,_,_⟩) rfl 105 (.tmp 5) (.tmp 19) rfl w1.heap.size #[.int .i64 (L : Nat),.int .i64 (t : Nat),.int .i64 (k : Nat),.int .u32 (D : Nat),.map (some b2)] rfl rfl _ _ (hal (hnew rfl)) info_gate rfl (ones_gate rfl) ?_) | (refine wpList_store_rowS (o := ⟨none,.store 135 (.tmp 6) (.tmp 20),_,_,_,_⟩) rfl 135 (.tmp 6) (.tmp 20) rfl (w1.heap.size + 1) #[v0,v1,v2,v3,v4,v5,v6] rfl rfl _ _ (hro (hnew (by simp)) (by omega)) info_packet rfl (by simp [o0,o1,o2,o3,o4,o5,o6]) ?_))
 intro w2 hr2
 have HB2 : Hid (Below w.heap.size w w2) := by rw [hr2.eq]; exact below_row (below_row (al (al HB.out HB.out.size) (by have := HB.out.size; simp; omega)) HB.out.size) (by have := HB.out.size; omega)
 have k5 : w2.heap[w1.heap.size]? = some (.cells #[.int .i64 (L : Nat),.int .i64 (t : Nat),.int .i64 (k : Nat),.int .u32 (D : Nat),.map (some b2)] 105 (0,0)) := by rw [hr2.eq]; exact hro (hrs (hal (hnew rfl))) (by omega)
 have k6 : w2.heap[w1.heap.size + 1]? = some (.cells #[v0,v1,v2,v3,v4,v5,v6] 135 (0,0)) := by rw [hr2.eq]; exact hrs (hro (hnew (by simp)) (by omega))
 have kt := (HB2.out.block _ (lt_of_block H.out.box)).trans H.out.box
 have HPk2 : Hid (PkC w2 w.heap.size k t D xs v0 v1 v2 v3 v4 v5 v6) := by rw [hr2.eq]; exact ((HPk.out.keep (al (al (Below.refl _ _) (Nat.le_refl _)) (by simp))).row (hal (hnew rfl)) gate_ne).row (hro (hnew (by simp)) (by omega)) pkt_ne
 have HCn2 : Hid (CntM w2 (.map (some b2)) (N + 1) (bump C 0)) := by rw [hr2.eq]; exact ((HCn.out.keep (al (al (Below.refl _ _) (Nat.le_refl _)) (by simp))).row (hal (hnew rfl))).row (hro (hnew (by simp)) (by omega))
 have hgt := lt_of_block H.out.box
 have hG5 := HB.out.size
 clear hr2 HCn HPk HB
 obtain ⟨g5,hg5⟩ : ∃ g5,g5 = w1.heap.size := ⟨_,rfl⟩
 rw [← hg5] at k5 k6 hG5 ⊢
 clear hg5
 obtain ⟨c0,c1,c2,c3,c4,c5,c6⟩ := cells_seven kt
 obtain ⟨d0,d1,d2,d3,d4⟩ := cells_five k5
 go_wp2_with (refine wpList_store_five (o := ⟨none,.store 105 (.tmp 25) (.tmp 23),_,_,_,_⟩) rfl 105 (.tmp 25) (.tmp 23) rfl gt (L : Nat) (t : Nat) (k : Nat) (D : Nat) b2 _ _ _ _ _ _ _ _ rfl rfl kt info_gate Tryz.underlying105 ?_)
 intro w3 hO kt3
 have HO := Lib.hid hO
 have m5 := (hO.block g5 (by omega)).trans k5
 have m6 := (hO.block (g5 + 1) (by omega)).trans k6
 have HCn3 := Lib.hid (HCn2.out.one hO kt)
 have HPk3 := Lib.hid (HPk2.out.one hO kt tk_ne.1)
 have HEl := Lib.hid (hO.elm (H.out.elm.keep HB2.out) kt tk_ne.2.1 tk_ne.2.2 tk_ne.1)
 have HTC := Lib.hid ((TChg.of gt be v HB2.out).one hO)
 have HT3 := Lib.hid (HT.out.keep HB2.out)
 have hs3 : w3.heap.size = w2.heap.size := hO.size
 have hl6 := lt_of_block k6
 clear k5 k6 kt hO c0 c1 c2 c3 c4 c5 c6 d0 d1 d2 d3 d4 HCn2 HPk2
 obtain ⟨c0,c1,c2,c3,c4,c5,c6⟩ := cells_seven kt3
 go_wp2
 go_ret
 exact ⟨rfl,.map (some b2),v,⟨H.out.ok,kt3,HCn3.out,HEl.out,H.out.red,H.out.old⟩,HTC.out,.inl rfl⟩
end Go.Proofs.YtfbmdlfkipipfaaGreatDoor
namespace Go.Proofs.YtfbmdlfkipipfaaGreatDoor
open Go.RowKit Go.By Go.Maps
def PutP (base be k t : Nat) (v : Value) (K : List Rw) (x : Rw) (w5 W : World) : Prop := ∃ v' n',Elm W base be k t v' n' (putK K x) ∧ Chg w5 W be v ∧ (v'.ownBlock = v.ownBlock ∨ ∀ b,v'.ownBlock = some b → w5.heap.size ≤ b)
set_option maxRecDepth 100000 in
set_option maxHeartbeats 4000000 in
theorem TTake_put (base gt be L t k D N : Nat) (M v : Value) (C : DataW Unit) (K : List Rw) (st : Nat) (p : Option Addr) (n c : Nat) (xs : List UInt8) (w : World) (h : Tkr w base gt be L t k D N M v C K st) (hT : HalfT w) (hN : N < 1000000) (hs : Sl B8 w p n c xs) (hr : Room n) (hc : readC k t D xs = 0) (hst : st = 0) :
  Calls Tryz.prog 19 #[.pointer (some ⟨gt,0,none⟩),.slice p n c] w (TkRet w base gt be L t k D (N + 1) v (bump C (readC k t D xs)) (putK K (eqX k t xs)) (nextS K (eqX k t xs) k) (readC k t D xs)) := by
 have HG : Hid (∀ w,HalfT w → CntM w M N C → Sl B8 w p n c xs → Calls Tryz.prog 62 #[GVal L t k D M,.slice p n c] w fun e w' => ∃ b2 v0 v1 v2 v3 v4 v5 v6,e = .returned (.tuple #[GVal L t k D (.map (some b2)),.agg #[v0,v1,v2,v3,v4,v5,v6],.int .i64 (readC k t D xs)]) ∧
   CntM w' (.map (some b2)) (N + 1) (bump C (readC k t D xs)) ∧ PkC w' w.heap.size k t D xs v0 v1 v2 v3 v4 v5 v6 ∧ Below w.heap.size w w') := fun w hT hC hs => GLook_any L t k D N M C p n c xs w h.ok hT hC hN hs hr
 have H := Lib.hid h
 have HT := Lib.hid hT
 have HS := Lib.hid hs
 obtain ⟨c0,c1,c2,c3,c4,c5,c6⟩ := cells_seven h.box
 rw [hc] at HG ⊢
 have HC := Lib.hid hc
 subst hst
 obtain ⟨hmo,hX0,hYl⟩ := read_fits hc
 have hXl : (pktX k xs).length ≤ 4096 := by
  have := h.ok.k2
  by_cases h0 : pktM xs = 0
  ·rw [hX0 h0]; exact this
  ·have e : pktX k xs = [] := if_neg h0
   rw [e]; simp
 have hVl : (vecS (pktM xs) (pktX k xs) (pktS k xs) k).length = k := by
  unfold vecS
  by_cases h0 : pktM xs = 0
  ·rw [if_pos h0]; exact hX0 h0
  ·rw [if_neg h0,mixRow_len]
 have HQ : Hid (∀ w p j c s q d,j = (pktX k xs).length → s = pktS k xs → Sl B8 w p j c (pktX k xs) → Sl B8 w q t d (pktY k t xs) → Calls Tryz.prog 63 #[PkVal (pktM xs) D (pktN xs) (pktM xs) p j c s q t d,PVal L t k D] w (EqRet w (eqX k t xs).1 (eqX k t xs).2)) := fun w p j c s q d hj hs s1 s2 => by
  subst hs
  exact PEquation_ok L t k D (pktN xs) (pktM xs) p j c (pktS k xs) q d (pktX k xs) (pktY k t xs) w h.ok hmo (fun h0 => by rw [hj]; exact hX0 h0) (by rw [hj]; show _ ≤ _; omega) s1 s2
 obtain ⟨x,hx⟩ : ∃ x,eqX k t xs = x := ⟨_,rfl⟩
 have hx1 : x.1.length = k := by rw [← hx]; exact hVl
 have hx2 : x.2.length = t := by rw [← hx]; exact hYl
 rw [hx] at HQ ⊢
 have HX1 := Lib.hid hx1
 have HX2 := Lib.hid hx2
 have HYl := Lib.hid hYl
 clear h hT hs hr hN hc hmo hX0 hYl hXl hVl hx hx1 hx2
 go_enter Tryz.func19,Tryz.ntmps19
 go_wp2_with fail
 refine Calls.mono (HG.out _ HT.out H.out.cnt HS.out) ?_
 rintro e w1 ⟨b2,v0,v1,v2,v3,v4,v5,v6,rfl,hcn,hpk,hb⟩
 have HB := Lib.hid hb
 have HCn := Lib.hid hcn
 have HPk := Lib.hid hpk
 obtain ⟨o0,o1,o2,o3,o4,o5,o6⟩ := hpk.1
 clear c0 c1 c2 c3 c4 c5 c6 hb hcn hpk
 go_wp2_with (first | (refine wpList_store_row (o := ⟨none,.store 105 (.tmp 5) (.tmp 19),_,_,_,_⟩) rfl 105 (.tmp 5) (.tmp 19) rfl w1.heap.size #[.int .i64 (L : Nat),.int .i64 (t : Nat),.int .i64 (k : Nat),.int .u32 (D : Nat),.map (some b2)] rfl rfl _ _ (hal (hnew rfl)) info_gate rfl (ones_gate rfl) ?_) | (refine wpList_store_rowS (o := ⟨none,.store 135 (.tmp 6) (.tmp 20),_,_,_,_⟩) rfl 135 (.tmp 6) (.tmp 20) rfl (w1.heap.size + 1) #[v0,v1,v2,v3,v4,v5,v6] rfl rfl _ _ (hro (hnew (by simp)) (by omega)) info_packet rfl (by simp [o0,o1,o2,o3,o4,o5,o6]) ?_))
 intro w2 hr2
 have HB2 : Hid (Below w.heap.size w w2) := by rw [hr2.eq]; exact below_row (below_row (al (al HB.out HB.out.size) (by have := HB.out.size; simp; omega)) HB.out.size) (by have := HB.out.size; omega)
 have k5 : w2.heap[w1.heap.size]? = some (.cells #[.int .i64 (L : Nat),.int .i64 (t : Nat),.int .i64 (k : Nat),.int .u32 (D : Nat),.map (some b2)] 105 (0,0)) := by rw [hr2.eq]; exact hro (hrs (hal (hnew rfl))) (by omega)
 have k6 : w2.heap[w1.heap.size + 1]? = some (.cells #[v0,v1,v2,v3,v4,v5,v6] 135 (0,0)) := by rw [hr2.eq]; exact hrs (hro (hnew (by simp)) (by omega))
 have kt := (HB2.out.block _ (lt_of_block H.out.box)).trans H.out.box
 have HPk2 : Hid (PkC w2 w.heap.size k t D xs v0 v1 v2 v3 v4 v5 v6) := by rw [hr2.eq]; exact ((HPk.out.keep (al (al (Below.refl _ _) (Nat.le_refl _)) (by simp))).row (hal (hnew rfl)) gate_ne).row (hro (hnew (by simp)) (by omega)) pkt_ne
 have HCn2 : Hid (CntM w2 (.map (some b2)) (N + 1) (bump C 0)) := by rw [hr2.eq]; exact ((HCn.out.keep (al (al (Below.refl _ _) (Nat.le_refl _)) (by simp))).row (hal (hnew rfl))).row (hro (hnew (by simp)) (by omega))
 have hgt := lt_of_block H.out.box
 have hG5 := HB.out.size
 clear hr2 HCn HPk HB
 obtain ⟨g5,hg5⟩ : ∃ g5,g5 = w1.heap.size := ⟨_,rfl⟩
 rw [← hg5] at k5 k6 hG5 ⊢
 clear hg5
 obtain ⟨c0,c1,c2,c3,c4,c5,c6⟩ := cells_seven kt
 obtain ⟨d0,d1,d2,d3,d4⟩ := cells_five k5
 go_wp2_with (refine wpList_store_five (o := ⟨none,.store 105 (.tmp 25) (.tmp 23),_,_,_,_⟩) rfl 105 (.tmp 25) (.tmp 23) rfl gt (L : Nat) (t : Nat) (k : Nat) (D : Nat) b2 _ _ _ _ _ _ _ _ rfl rfl kt info_gate Tryz.underlying105 ?_)
 intro w3 hO kt3
 have HO := Lib.hid hO
 have m5 := (hO.block g5 (by omega)).trans k5
 have m6 := (hO.block (g5 + 1) (by omega)).trans k6
 have HCn3 := Lib.hid (HCn2.out.one hO kt)
 have HPk3 := Lib.hid (HPk2.out.one hO kt tk_ne.1)
 have HEl := Lib.hid (hO.elm (H.out.elm.keep HB2.out) kt tk_ne.2.1 tk_ne.2.2 tk_ne.1)
 have HTC := Lib.hid ((TChg.of gt be v HB2.out).one hO)
 have HT3 := Lib.hid (HT.out.keep HB2.out)
 have hs3 : w3.heap.size = w2.heap.size := hO.size
 have hl6 := lt_of_block k6
 clear k5 k6 kt hO c0 c1 c2 c3 c4 c5 c6 d0 d1 d2 d3 d4 HCn2 HPk2
 obtain ⟨c0,c1,c2,c3,c4,c5,c6⟩ := cells_seven kt3
 obtain ⟨q,j,cq,q2,j2,cq2,r0,r1,r2,r3,r4,r5,r6,f1,f2⟩ := HPk3.out.2 HC.out
 subst r0 r1 r2 r3 r4 r5 r6
 have hj2 : t = j2 := by rw [← f2.sl.len]; exact HYl.out.symm
 subst hj2
 have hj := f1.sl.len
 have F1 := Lib.hid f1.sl
 have F2 := Lib.hid f2.sl
 have HJ := Lib.hid hj.symm
 clear f1 f2 hj
 obtain ⟨d0,d1,d2,d3,d4⟩ := cells_five m5
 obtain ⟨f0,f1,f2,f3,f4,f5,f6⟩ := cells_seven m6
 go_wp2_with fail
 refine Calls.mono (HQ.out _ _ _ _ _ _ _ HJ.out rfl F1.out F2.out) ?_
 rintro e w4 ⟨qa,na,ca,qb,nb,cb,rfl,Fa,Fb,hb⟩
 have hna : k = na := by rw [← Fa.sl.len]; exact HX1.out.symm
 have hnb : t = nb := by rw [← Fb.sl.len]; exact HX2.out.symm
 subst hna hnb
 have kt4 := (hb.block _ (lt_of_block kt3)).trans kt3
 have n5 := (hb.block _ (lt_of_block m5)).trans m5
 have HCn4 := Lib.hid (HCn3.out.keep hb)
 have HEl4 := Lib.hid (HEl.out.keep hb)
 have HTC4 := Lib.hid (HTC.out.then hb)
 have SA := Lib.hid Fa.sl
 have SB := Lib.hid Fb.sl
 have hown : v.ownBlock ≠ some w4.heap.size := fun e => by have := (HEl4.out.rows.lt _ e).2; omega
 have HW := Lib.hid (lt_of_block m5)
 have hs4 := hb.size
 clear hb kt3 m5 m6 HCn3 HPk3 HEl HTC Fa Fb c0 c1 c2 c3 c4 c5 c6 d0 d1 d2 d3 d4 f0 f1 f2 f3 f4 f5 f6
 go_wp2_with fail
 have kt5 : (w4.alloc (.cells #[.slice qa k ca,.slice qb t cb] 139 (0,0))).heap[gt]? = some (.cells #[.int .i64 (L : Nat),.int .i64 (t : Nat),.int .i64 (k : Nat),.int .u32 (D : Nat),.map (some b2),.pointer (some ⟨be,0,none⟩),.int .i64 (0 : Nat)] 126 (0,0)) := hal kt4
 have kg5 : (w4.alloc (.cells #[.slice qa k ca,.slice qb t cb] 139 (0,0))).heap[g5]? = some (.cells #[.int .i64 (L : Nat),.int .i64 (t : Nat),.int .i64 (k : Nat),.int .u32 (D : Nat),.map (some b2)] 105 (0,0)) := hal n5
 have kr5 : (w4.alloc (.cells #[.slice qa k ca,.slice qb t cb] 139 (0,0))).heap[w4.heap.size]? = some (.cells #[.slice qa k ca,.slice qb t cb] 139 (0,0)) := hnew rfl
 have HCn5 := Lib.hid (HCn4.out.keep (al (o := .cells #[.slice qa k ca,.slice qb t cb] 139 (0,0)) (Below.refl _ _) (Nat.le_refl _)))
 have HEl5 := Lib.hid (HEl4.out.keep (al (o := .cells #[.slice qa k ca,.slice qb t cb] 139 (0,0)) (Below.refl _ _) (Nat.le_refl _)))
 have HTC5 := Lib.hid (HTC4.out.then (al (o := .cells #[.slice qa k ca,.slice qb t cb] 139 (0,0)) (Below.refl _ _) (Nat.le_refl _)))
 have SA5 := Lib.hid (SA.out.keep (al (o := .cells #[.slice qa k ca,.slice qb t cb] 139 (0,0)) (Below.refl _ _) (Nat.le_refl _)))
 have SB5 := Lib.hid (SB.out.keep (al (o := .cells #[.slice qa k ca,.slice qb t cb] 139 (0,0)) (Below.refl _ _) (Nat.le_refl _)))
 clear kt4 n5 HCn4 HEl4 HTC4 SA SB
 obtain ⟨g8,hg8⟩ : ∃ g8,g8 = w4.heap.size := ⟨_,rfl⟩
 rw [← hg8] at kr5 hown hs4 ⊢
 clear hg8
 generalize w4.alloc (.cells #[.slice qa k ca,.slice qb t cb] 139 (0,0)) = w5 at *
 have hmem : Hid (∀ W,(W = w5.drew ∨ PutP base be k t v K x w5 W) → W.heap[gt]? = some (.cells #[.int .i64 (L : Nat),.int .i64 (t : Nat),.int .i64 (k : Nat),.int .u32 (D : Nat),.map (some b2),.pointer (some ⟨be,0,none⟩),.int .i64 (0 : Nat)] 126 (0,0)) ∧ W.heap[g8]? = some (.cells #[.slice qa k ca,.slice qb t cb] 139 (0,0))) := by
  intro W hW
  rcases hW with rfl | ⟨v',n',-,hc,-⟩
  ·exact ⟨kt5,kr5⟩
  ·exact ⟨hc.blk2 HEl5.out kt5 tk_ne.2.1 tk_ne.2.2,hc.blk HEl5.out kr5 (by decide) hown⟩
 refine wp_region_call (fun ix => ([.pointer (some ⟨gt,0,none⟩),.pointer (some ⟨gt,0,none⟩),.pointer (some ⟨gt,5,none⟩),.pointer (some ⟨be,0,none⟩),.agg #[.slice qa k ca,.slice qb t cb],.tuple #[.int .i64 (codeF K x),.int .i64 0],.tuple #[.int .i64 (codeF K x),.int .i64 0],.int .i64 (codeF K x),.int .i64 0,.int .i64 (codeF K x),.int .i64 0][ix]?).getD undef) 75 5 (PutP base be k t v K x w5) rfl (by kernel_rfl) (by decide) (by decide) (by decide) (by decide) (by decide) ?_ ?_ ?_
 ·intro i o h1 ho a W hW hs hp hi
  obtain ⟨m1,m2⟩ := hmem.out W hW
  match i,h1,ho with
  | 0,_,ho =>
   simp at ho; subst ho
   have tt : sl a 0 = .pointer (some ⟨gt,0,none⟩) := hi 0 (by decide)
   simp only [execOp,eval_tmp,tt]; rfl
  | 1,_,ho =>
   simp at ho; subst ho
   have tt : sl a 47 = .pointer (some ⟨gt,0,none⟩) := hp 0 47 (by decide) rfl
   simp only [execOp,eval_tmp,tt]; simp [go_sem]
  | 2,_,ho =>
   simp at ho; subst ho
   have tt : sl a 48 = .pointer (some ⟨gt,0,none⟩) := hp 1 48 (by decide) rfl
   simp only [execOp,eval_tmp,tt]; simp [go_sem]
  | 3,_,ho =>
   simp at ho; subst ho
   have tt : sl a 49 = .pointer (some ⟨gt,5,none⟩) := hp 2 49 (by decide) rfl
   obtain ⟨x0,x1,x2,x3,x4,x5,x6⟩ := cells_seven m1
   simp only [execOp,eval_tmp,tt]; simp [go_sem,x5]
  | 4,_,ho =>
   simp at ho; subst ho
   have tt : sl a 8 = .pointer (some ⟨g8,0,none⟩) := hi 8 (by decide)
   obtain ⟨x0,x1⟩ := cells2 m2
   simp only [execOp,eval_tmp,tt]; simp [go_sem,x0,x1]
  | 6,_,ho =>
   simp at ho; subst ho
   have tt : sl a 52 = .tuple #[.int .i64 (codeF K x),.int .i64 0] := hp 5 52 (by decide) rfl
   simp only [execOp,eval_tmp,tt]; rfl
  | 7,_,ho =>
   simp at ho; subst ho
   have tt : sl a 46 = .tuple #[.int .i64 (codeF K x),.int .i64 0] := hp 6 46 (by decide) rfl
   simp only [execOp,eval_tmp,tt]; rfl
  | 8,_,ho =>
   simp at ho; subst ho
   have tt : sl a 46 = .tuple #[.int .i64 (codeF K x),.int .i64 0] := hp 6 46 (by decide) rfl
   simp only [execOp,eval_tmp,tt]; rfl
  | 9,_,ho =>
   simp at ho; subst ho
   have tt : sl a 53 = .int .i64 (codeF K x) := hp 7 53 (by decide) rfl
   simp only [execOp,eval_tmp,tt]; rfl
  | 10,_,ho =>
   simp at ho; subst ho
   have tt : sl a 54 = .int .i64 0 := hp 8 54 (by decide) rfl
   simp only [execOp,eval_tmp,tt]; rfl
  | 5,h,_ => exact absurd rfl h
  | j + 11,_,ho => simp at ho
 ·intro o ho a hs hp hi
  simp at ho; subst ho
  have t50 : sl a 50 = .pointer (some ⟨be,0,none⟩) := hp 3 50 (by decide) rfl
  have t51 : sl a 51 = .agg #[.slice qa k ca,.slice qb t cb] := hp 4 51 (by decide) rfl
  have hbd : Below w5.heap.size w5 w5.drew := ⟨rfl,rfl,rfl,Nat.le_refl _,fun _ _ => rfl⟩
  refine wp_enter 64 #[.pointer (some ⟨be,0,none⟩),.agg #[.slice qa k ca,.slice qb t cb]] ?_ (EPut_fit base be k t K.length v K qa qb ca cb x w5.drew (HEl5.out.keep hbd) (SA5.out.keep hbd) (SB5.out.keep hbd) H.out.red H.out.ok.k2 H.out.ok.t2 (Nat.le_trans (Red.le H.out.red) H.out.ok.k2)) ?_
  ·simp only [execOp,resolve,List.map_toArray,List.map,eval_tmp,eval_func,eval_const,t50,t51]; simp [go_sem]
  ·rintro e W' ⟨rfl,v',n',g1,g2,g3⟩
   exact ⟨_,rfl,rfl,v',n',g1,⟨g2.os,g2.tape,g2.output,g2.size,g2.block⟩,g3⟩
 ·intro a W hP1 hs hd hI ht
  have ha := act_is [47,48,49,50,51,52,46,53,54,9,7] hs hd ht (by decide)
  have t9 : sl a 9 = .int .i64 (codeF K x) := hI 9 9 (by decide) rfl
  have t7 : sl a 7 = .int .i64 0 := hI 10 7 (by decide) rfl
  simp only [List.foldl,t9,t7] at ha
  generalize sl a 47 = u47 at ha
  generalize sl a 48 = u48 at ha
  generalize sl a 49 = u49 at ha
  generalize sl a 50 = u50 at ha
  generalize sl a 51 = u51 at ha
  generalize sl a 52 = u52 at ha
  generalize sl a 46 = u46 at ha
  generalize sl a 53 = u53 at ha
  generalize sl a 54 = u54 at ha
  simp only [Act.put,List.setIfInBounds_toArray,List.set_cons_zero,List.set_cons_succ] at ha
  rw [ha]
  obtain ⟨kt6,-⟩ := hmem.out W (.inr hP1)
  have kg6 : W.heap[g5]? = some (.cells #[.int .i64 (L : Nat),.int .i64 (t : Nat),.int .i64 (k : Nat),.int .u32 (D : Nat),.map (some b2)] 105 (0,0)) := by
   obtain ⟨v',n',-,hc,-⟩ := hP1
   exact hc.blk2 HEl5.out kg5 (by decide) (by decide)
  have HCn6 : Hid (CntM W (.map (some b2)) (N + 1) (bump C 0)) := by
   obtain ⟨v',n',-,hc,-⟩ := hP1
   refine ⟨?_,HCn5.out.small⟩
   rcases HCn5.out.at_ with h1 | ⟨bb,e,ho⟩
   ·exact .inl h1
   ·refine .inr ⟨bb,e,?_⟩
    have hlt := ho.lt
    obtain ⟨es,clock,j1,F,j2,j3⟩ := ho
    refine ⟨es,clock,(hc.block bb hlt (fun e => ?_) (fun e => ?_)).trans j1,F,j2,j3⟩
    ·have := HEl5.out.box; rw [← e,j1] at this; cases this
    ·obtain ⟨vs,_,_,o,_⟩ := HEl5.out.rows
     rcases o.2 with ⟨e1,_⟩ | ⟨g',cap,cur,e1,_,hh,_⟩
     ·rw [e1] at e; cases e
     ·rw [e1] at e; cases e
      rw [j1] at hh; cases hh
  obtain ⟨v',n',hE6,hc6,ho6⟩ := hP1
  have hn' : n' = (putK K x).length := hE6.rows.len.symm
  subst hn'
  have HE6 := Lib.hid hE6
  have HTC6 := Lib.hid (HTC5.out.chg hc6)
  have HO6 : Hid (v'.ownBlock = v.ownBlock ∨ ∀ b,v'.ownBlock = some b → w.heap.size ≤ b) := by
   rcases ho6 with h | h
   ·exact .inl h
   ·exact .inr fun b hb => Nat.le_trans HTC5.out.size (h b hb)
  have HRd : Hid (Red k t (putK K x)) := by
   unfold putK
   by_cases hn : leadS (restF K x).1 < 0
   ·rw [if_pos hn]; exact H.out.red
   ·rw [if_neg hn]; exact (putF_red H.out.red ⟨HX1.out,HX2.out⟩ hn).1
  clear ha hI ht hs hd t9 t7 hE6 hc6 ho6 kt5 kg5 kr5 hmem hown
  obtain ⟨x0,x1,x2,x3,x4,x5,x6⟩ := cells_seven kt6
  have z6 := frozen_of_row _ _ 6 _ _ kt6
  have y2 := (cells_five kg6).2.2.1
  by_cases hcl : codeF K x = 2
  ·have HNX : Hid (nextS K x k = 2) := by unfold nextS; rw [if_pos hcl]; rfl
   go_wp2
   go_ret
   have hO : OneE W gt (W.setCell ⟨gt,6,none⟩ (.int .i64 2)) := (OneE.refl W gt).set _
   exact ⟨rfl,.map (some b2),v',⟨H.out.ok,by rw [HNX.out]; exact hss kt6,HCn6.out.one hO kt6,hO.elm HE6.out kt6 tk_ne.2.1 tk_ne.2.2 tk_ne.1,HRd.out,H.out.old⟩,HTC6.out.one hO,HO6.out⟩
  ·have e9 : (codeF K x == 2) = false := beq_eq_false_iff_ne.2 hcl
   by_cases hfull : (putK K x).length = k
   ·have HNX : Hid (nextS K x k = 1) := by unfold nextS; rw [if_neg hcl,if_pos hfull]; rfl
    have e15 : (((putK K x).length : Int) == (k : Int)) = true := by simp [hfull]
    clear hcl hfull
    go_wp2_with fail
    refine wp_region_shapes (fun ix => ([.val (.pointer (some ⟨gt,0,none⟩)),.val (.pointer (some ⟨gt,0,none⟩)),.val (.pointer (some ⟨gt,5,none⟩)),.val (.pointer (some ⟨be,0,none⟩)),.val (.int .i64 ((putK K x).length : Nat)),.val (.pointer (some ⟨g5,0,none⟩)),.val (.pointer (some ⟨g5,2,none⟩)),.val (.int .i64 (k : Nat)),.val (.bool true)][ix]?).getD (.any)) 75 rfl (by kernel_rfl) (by decide) (by decide) (by decide) ?_ ?_
    ·refine ⟨?_,?_,?_,?_,?_,?_,?_,?_,?_,trivial⟩
     ·intro a W hb0 hs hp hi; have hb := undrew hb0; clear hb0
      have t0 : sl a 0 = .pointer (some ⟨gt,0,none⟩) := hi 0 (by decide)
      exact ite_y rfl (wp_val (sl a 0) rfl ⟨_,rfl,Below.refl _ _,t0⟩)
     ·intro a W hb0 hs hp hi; have hb := undrew hb0; clear hb0
      have tt : sl a 63 = .pointer (some ⟨gt,0,none⟩) := hp 0 (by decide)
      refine ite_y rfl (wp_val (.pointer (some ⟨gt,0,none⟩)) ?_ ?_)
      ·simp only [execOp,eval_tmp,tt]; simp [go_sem]
      ·exact ⟨_,rfl,Below.refl _ _,rfl⟩
     ·intro a W hb0 hs hp hi; have hb := undrew hb0; clear hb0
      have t64 : sl a 64 = .pointer (some ⟨gt,0,none⟩) := hp 1 (by decide)
      refine ite_y rfl (wp_val (.pointer (some ⟨gt,5,none⟩)) ?_ ?_)
      ·simp only [execOp,eval_tmp,eval_const,t64]; simp [go_sem]
      ·exact ⟨_,rfl,Below.refl _ _,rfl⟩
     ·intro a W hb0 hs hp hi; have hb := undrew hb0; clear hb0
      have tt : sl a 65 = .pointer (some ⟨gt,5,none⟩) := hp 2 (by decide)
      have dd := (hb.cell (p := ⟨gt,5,none⟩) (lt_of_cell x5)).trans x5
      refine ite_y rfl (wp_val (.pointer (some ⟨be,0,none⟩)) ?_ ?_)
      ·simp only [execOp,eval_tmp,tt]; simp [go_sem,dd]
      ·exact ⟨_,rfl,Below.refl _ _,rfl⟩
     ·intro a W hb0 hs hp hi; have hb := undrew hb0; clear hb0
      have t66 : sl a 66 = .pointer (some ⟨be,0,none⟩) := hp 3 (by decide)
      refine ite_y rfl (wp_enter 61 #[.pointer (some ⟨be,0,none⟩)] ?_ (Rank_any' base be k t _ v' _ _ (HE6.out.keep hb)) ?_)
      ·simp only [execOp,resolve,List.map_toArray,List.map,eval_tmp,eval_func,eval_const,t66]; simp [go_sem]
      ·rintro e W' ⟨rfl,rfl⟩; exact ⟨_,rfl,_,rfl,Below.refl _ _,rfl⟩
     ·intro a W hb0 hs hp hi; have hb := undrew hb0; clear hb0
      have tt : sl a 5 = .pointer (some ⟨g5,0,none⟩) := hi 5 (by decide)
      refine ite_y rfl (wp_val (.pointer (some ⟨g5,0,none⟩)) ?_ ?_)
      ·simp only [execOp,eval_tmp,tt]; simp [go_sem]
      ·exact ⟨_,rfl,Below.refl _ _,rfl⟩
     ·intro a W hb0 hs hp hi; have hb := undrew hb0; clear hb0
      have tt : sl a 68 = .pointer (some ⟨g5,0,none⟩) := hp 5 (by decide)
      refine ite_y rfl (wp_val (.pointer (some ⟨g5,2,none⟩)) ?_ ?_)
      ·simp only [execOp,eval_tmp,tt]; simp [go_sem]
      ·exact ⟨_,rfl,Below.refl _ _,rfl⟩
     ·intro a W hb0 hs hp hi; have hb := undrew hb0; clear hb0
      have tt : sl a 69 = .pointer (some ⟨g5,2,none⟩) := hp 6 (by decide)
      have dd := (hb.cell (p := ⟨g5,2,none⟩) (lt_of_cell y2)).trans y2
      refine ite_y rfl (wp_val (.int .i64 (k : Nat)) ?_ ?_)
      ·simp only [execOp,eval_tmp,tt]; simp [go_sem,dd]
      ·exact ⟨_,rfl,Below.refl _ _,rfl⟩
     ·intro a W hb0 hs hp hi; have hb := undrew hb0; clear hb0
      have t67 : sl a 67 = .int .i64 ((putK K x).length : Nat) := hp 4 (by decide)
      have t70 : sl a 70 = .int .i64 (k : Nat) := hp 7 (by decide)
      refine ite_y rfl (wp_val (.bool true) ?_ ?_)
      ·simp only [execOp,eval_tmp,eval_const,t67,t70]; simp [go_sem,e15]
      ·exact ⟨_,rfl,Below.refl _ _,rfl⟩
    intro a w9 hb hs hd hI ht
    have ha := act_is [63,64,65,66,67,68,69,70,71] hs hd ht (by decide)
    have t71 : sl a 71 = .bool true := hI 8 (by decide)
    simp only [List.foldl,t71] at ha
    generalize sl a 63 = u63 at ha
    generalize sl a 64 = u64 at ha
    generalize sl a 65 = u65 at ha
    generalize sl a 66 = u66 at ha
    generalize sl a 67 = u67 at ha
    generalize sl a 68 = u68 at ha
    generalize sl a 69 = u69 at ha
    generalize sl a 70 = u70 at ha
    simp only [Act.put,List.setIfInBounds_toArray,List.set_cons_zero,List.set_cons_succ] at ha
    rw [ha]
    clear ha hI ht
    have kt7 := (hb.block _ (lt_of_block kt6)).trans kt6
    have HB7 := Lib.hid hb
    obtain ⟨x0,x1,x2,x3,x4,x5,x6⟩ := cells_seven kt7
    have z6 := frozen_of_row _ _ 6 _ _ kt7
    clear hb
    go_wp2
    go_ret
    have hO : OneE w9 gt (w9.setCell ⟨gt,6,none⟩ (.int .i64 1)) := (OneE.refl w9 gt).set _
    exact ⟨rfl,.map (some b2),v',⟨H.out.ok,by rw [HNX.out]; exact hss kt7,(HCn6.out.keep HB7.out).one hO kt7,hO.elm (HE6.out.keep HB7.out) kt7 tk_ne.2.1 tk_ne.2.2 tk_ne.1,HRd.out,H.out.old⟩,(HTC6.out.then HB7.out).one hO,HO6.out⟩
   ·have HNX : Hid (nextS K x k = 0) := by unfold nextS; rw [if_neg hcl,if_neg hfull]; rfl
    have e15 : (((putK K x).length : Int) == (k : Int)) = false := beq_eq_false_iff_ne.2 (by omega)
    clear hcl hfull
    go_wp2_with fail
    refine wp_region_shapes (fun ix => ([.val (.pointer (some ⟨gt,0,none⟩)),.val (.pointer (some ⟨gt,0,none⟩)),.val (.pointer (some ⟨gt,5,none⟩)),.val (.pointer (some ⟨be,0,none⟩)),.val (.int .i64 ((putK K x).length : Nat)),.val (.pointer (some ⟨g5,0,none⟩)),.val (.pointer (some ⟨g5,2,none⟩)),.val (.int .i64 (k : Nat)),.val (.bool false)][ix]?).getD (.any)) 75 rfl (by kernel_rfl) (by decide) (by decide) (by decide) ?_ ?_
    ·refine ⟨?_,?_,?_,?_,?_,?_,?_,?_,?_,trivial⟩
     ·intro a W hb0 hs hp hi; have hb := undrew hb0; clear hb0
      have t0 : sl a 0 = .pointer (some ⟨gt,0,none⟩) := hi 0 (by decide)
      exact ite_y rfl (wp_val (sl a 0) rfl ⟨_,rfl,Below.refl _ _,t0⟩)
     ·intro a W hb0 hs hp hi; have hb := undrew hb0; clear hb0
      have tt : sl a 63 = .pointer (some ⟨gt,0,none⟩) := hp 0 (by decide)
      refine ite_y rfl (wp_val (.pointer (some ⟨gt,0,none⟩)) ?_ ?_)
      ·simp only [execOp,eval_tmp,tt]; simp [go_sem]
      ·exact ⟨_,rfl,Below.refl _ _,rfl⟩
     ·intro a W hb0 hs hp hi; have hb := undrew hb0; clear hb0
      have t64 : sl a 64 = .pointer (some ⟨gt,0,none⟩) := hp 1 (by decide)
      refine ite_y rfl (wp_val (.pointer (some ⟨gt,5,none⟩)) ?_ ?_)
      ·simp only [execOp,eval_tmp,eval_const,t64]; simp [go_sem]
      ·exact ⟨_,rfl,Below.refl _ _,rfl⟩
     ·intro a W hb0 hs hp hi; have hb := undrew hb0; clear hb0
      have tt : sl a 65 = .pointer (some ⟨gt,5,none⟩) := hp 2 (by decide)
      have dd := (hb.cell (p := ⟨gt,5,none⟩) (lt_of_cell x5)).trans x5
      refine ite_y rfl (wp_val (.pointer (some ⟨be,0,none⟩)) ?_ ?_)
      ·simp only [execOp,eval_tmp,tt]; simp [go_sem,dd]
      ·exact ⟨_,rfl,Below.refl _ _,rfl⟩
     ·intro a W hb0 hs hp hi; have hb := undrew hb0; clear hb0
      have t66 : sl a 66 = .pointer (some ⟨be,0,none⟩) := hp 3 (by decide)
      refine ite_y rfl (wp_enter 61 #[.pointer (some ⟨be,0,none⟩)] ?_ (Rank_any' base be k t _ v' _ _ (HE6.out.keep hb)) ?_)
      ·simp only [execOp,resolve,List.map_toArray,List.map,eval_tmp,eval_func,eval_const,t66]; simp [go_sem]
      ·rintro e W' ⟨rfl,rfl⟩; exact ⟨_,rfl,_,rfl,Below.refl _ _,rfl⟩
     ·intro a W hb0 hs hp hi; have hb := undrew hb0; clear hb0
      have tt : sl a 5 = .pointer (some ⟨g5,0,none⟩) := hi 5 (by decide)
      refine ite_y rfl (wp_val (.pointer (some ⟨g5,0,none⟩)) ?_ ?_)
      ·simp only [execOp,eval_tmp,tt]; simp [go_sem]
      ·exact ⟨_,rfl,Below.refl _ _,rfl⟩
     ·intro a W hb0 hs hp hi; have hb := undrew hb0; clear hb0
      have tt : sl a 68 = .pointer (some ⟨g5,0,none⟩) := hp 5 (by decide)
      refine ite_y rfl (wp_val (.pointer (some ⟨g5,2,none⟩)) ?_ ?_)
      ·simp only [execOp,eval_tmp,tt]; simp [go_sem]
      ·exact ⟨_,rfl,Below.refl _ _,rfl⟩
     ·intro a W hb0 hs hp hi; have hb := undrew hb0; clear hb0
      have tt : sl a 69 = .pointer (some ⟨g5,2,none⟩) := hp 6 (by decide)
      have dd := (hb.cell (p := ⟨g5,2,none⟩) (lt_of_cell y2)).trans y2
      refine ite_y rfl (wp_val (.int .i64 (k : Nat)) ?_ ?_)
      ·simp only [execOp,eval_tmp,tt]; simp [go_sem,dd]
      ·exact ⟨_,rfl,Below.refl _ _,rfl⟩
     ·intro a W hb0 hs hp hi; have hb := undrew hb0; clear hb0
      have t67 : sl a 67 = .int .i64 ((putK K x).length : Nat) := hp 4 (by decide)
      have t70 : sl a 70 = .int .i64 (k : Nat) := hp 7 (by decide)
      refine ite_y rfl (wp_val (.bool false) ?_ ?_)
      ·simp only [execOp,eval_tmp,eval_const,t67,t70]; simp [go_sem,e15]
      ·exact ⟨_,rfl,Below.refl _ _,rfl⟩
    intro a w9 hb hs hd hI ht
    have ha := act_is [63,64,65,66,67,68,69,70,71] hs hd ht (by decide)
    have t71 : sl a 71 = .bool false := hI 8 (by decide)
    simp only [List.foldl,t71] at ha
    generalize sl a 63 = u63 at ha
    generalize sl a 64 = u64 at ha
    generalize sl a 65 = u65 at ha
    generalize sl a 66 = u66 at ha
    generalize sl a 67 = u67 at ha
    generalize sl a 68 = u68 at ha
    generalize sl a 69 = u69 at ha
    generalize sl a 70 = u70 at ha
    simp only [Act.put,List.setIfInBounds_toArray,List.set_cons_zero,List.set_cons_succ] at ha
    rw [ha]
    clear ha hI ht
    have kt7 := (hb.block _ (lt_of_block kt6)).trans kt6
    have HB7 := Lib.hid hb
    clear hb
    go_wp2
    go_ret
    exact ⟨rfl,.map (some b2),v',⟨H.out.ok,by rw [HNX.out]; exact kt7,HCn6.out.keep HB7.out,HE6.out.keep HB7.out,HRd.out,H.out.old⟩,HTC6.out.then HB7.out,HO6.out⟩
def takeK (k t D : Nat) (K : List Rw) (st : Nat) (xs : List UInt8) : List Rw := if readC k t D xs = 0 ∧ st = 0 then putK K (eqX k t xs) else K
def takeS (k t D : Nat) (K : List Rw) (st : Nat) (xs : List UInt8) : Nat := if readC k t D xs = 0 ∧ st = 0 then nextS K (eqX k t xs) k else st
theorem TTake_any (base gt be L t k D N : Nat) (M v : Value) (C : DataW Unit) (K : List Rw) (st : Nat) (p : Option Addr) (n c : Nat) (xs : List UInt8) (w : World) (h : Tkr w base gt be L t k D N M v C K st) (hT : HalfT w) (hN : N < 1000000) (hs : Sl B8 w p n c xs) (hr : Room n) :
  Calls Tryz.prog 19 #[.pointer (some ⟨gt,0,none⟩),.slice p n c] w (TkRet w base gt be L t k D (N + 1) v (bump C (readC k t D xs)) (takeK k t D K st xs) (takeS k t D K st xs) (readC k t D xs)) := by
 unfold takeK takeS
 by_cases hc : readC k t D xs = 0
 ·by_cases hst : st = 0
  ·rw [if_pos ⟨hc,hst⟩,if_pos ⟨hc,hst⟩]
   exact TTake_put base gt be L t k D N M v C K st p n c xs w h hT hN hs hr hc hst
  ·rw [if_neg (fun e => hst e.2),if_neg (fun e => hst e.2)]
   exact TTake_done base gt be L t k D N M v C K st p n c xs w h hT hN hs hr hc hst
 ·rw [if_neg (fun e => hc e.1),if_neg (fun e => hc e.1)]
  exact TTake_bad base gt be L t k D N M v C K st p n c xs w h hT hN hs hr hc
end Go.Proofs.YtfbmdlfkipipfaaGreatDoor
namespace Go.Proofs.YtfbmdlfkipipfaaGreatDoor
open Go.RowKit Go.By
def wholeS (l s n : Int) (xss : List (List UInt8)) : List UInt8 × Int :=
 if checkS l s n = 0 then (if (xss.length : Int) = n then (if xss.all (fun y => decide (y.length = s.toNat)) then (xss.flatten,0) else ([],4)) else ([],5)) else ([],checkS l s n)
theorem checkS_ok {l s n : Int} (h : checkS l s n = 0) : 0 ≤ l ∧ 1 ≤ s ∧ s ≤ 65535 ∧ n = needS l s ∧ n ≤ 4096 := by
 unfold checkS at h
 rcases fitS_cases l s with ⟨h0,h1⟩ | ⟨h0,h1,h2,h3,h4⟩
 ·rw [if_neg h0] at h; exact absurd h h0
 ·rw [if_pos h0] at h
  split at h
  ·omega
  ·omega
theorem flatP_len {xss : List (List UInt8)} {s : Nat} (h : ∀ x,x ∈ xss → x.length = s) : xss.flatten.length = xss.length * s := by
 induction xss with
 | nil => simp
 | cons x l ih =>
  rw [List.flatten_cons,List.length_append,ih (fun y hy => h y (List.mem_cons_of_mem _ hy)),h x List.mem_cons_self,List.length_cons,Nat.add_mul]
  omega
theorem wholeS_cases (l s n : Int) (xss : List (List UInt8)) : ((wholeS l s n xss).2 ≠ 0 ∧ (wholeS l s n xss).1 = []) ∨ ((wholeS l s n xss).2 = 0 ∧ checkS l s n = 0 ∧ (wholeS l s n xss).1 = xss.flatten ∧ 0 ≤ l ∧ l ≤ xss.flatten.length) := by
 by_cases h0 : checkS l s n = 0
 ·unfold wholeS; rw [if_pos h0]
  by_cases h1 : (xss.length : Int) = n
  ·rw [if_pos h1]
   by_cases h2 : xss.all (fun y => decide (y.length = s.toNat)) = true
   ·rw [if_pos h2]
    right
    obtain ⟨g1,g2,g3,g4,g5⟩ := checkS_ok h0
    refine ⟨rfl,h0,rfl,g1,?_⟩
    have hl := flatP_len (s := s.toNat) (fun x hx => by simpa using List.all_eq_true.1 h2 x hx)
    by_cases hz : l = 0
    ·omega
    ·obtain ⟨q1,q2⟩ := needS_spec (l := l) (s := s) (by omega) g2
     rw [hl,Int.natCast_mul,h1,g4,Int.toNat_of_nonneg (by omega)]
     exact q2
   ·rw [if_neg h2]; left; exact ⟨by simp,rfl⟩
  ·rw [if_neg h1]; left; exact ⟨by simp,rfl⟩
 ·left; unfold wholeS; rw [if_neg h0]; exact ⟨h0,rfl⟩
theorem enters_whole : Enters Tryz.prog 186 := enters_of Tryz.func186 (by kernel_rfl) rfl
set_option maxHeartbeats 400000 in
theorem whole1_any (q : Option Addr) (m c B s : Nat) (w : World) (hB : w.cell? ⟨B,1,none⟩ = some (.int .i64 s)) :
  Calls Tryz.prog 186 #[.slice q m c,.pointer (some ⟨B,0,none⟩)] w fun e w' => e = .returned (.bool ((m : Int) != s)) ∧ w = w' := by
 go_enter Tryz.func186,Tryz.ntmps186
 go_wp2
 go_ret
 exact ⟨rfl,rfl⟩
set_option maxRecDepth 100000 in
set_option maxHeartbeats 1000000 in
theorem whole_any (l s n d : Int) (p : Option Addr) (m c : Nat) (xss : List (List UInt8)) (w : World) (h : Sl2 w p m c xss) (hl2 : l ≤ 9223372036854775807) :
  Calls Tryz.prog 142 #[.agg #[.int .i64 l,.int .i64 s,.int .i64 n,.int .u32 d],.slice p m c] w (RetB 5 w (wholeS l s n xss).1 (wholeS l s n xss).2) := by
 have HC := Lib.hid (fun w => Check_any l s n d w hl2)
 have hB := fun o => al (o := o) (Below.refl w.heap.size w) (Nat.le_refl _)
 by_cases h0 : checkS l s n = 0
 ·rw [h0] at HC
  obtain ⟨g1,g2,g3,g4,g5⟩ := checkS_ok h0
  obtain ⟨s0,rfl⟩ := Int.eq_ofNat_of_zero_le (show 0 ≤ s by omega)
  have HW : Hid (wholeS l s0 n xss = if (m : Int) = n then (if xss.all (fun y => decide (y.length = s0)) then (xss.flatten,0) else ([],4)) else ([],5)) := by
   unfold wholeS; rw [Hid,if_pos h0,h.len,Int.toNat_natCast]
  have hmb := h.bound
  by_cases h1 : (m : Int) = n
  ·have hb : ((m : Int) != n) = false := by simpa using h1
   rw [if_pos h1] at HW
   obtain ⟨vs,hvs,hvv⟩ := h.vals
   have hax := any_vals (n := s0) (hvs.len.trans h.len.symm) hvv
   have H := Lib.hid h; have HV := Lib.hid hvs; have HVV := Lib.hid hvv; have HA := Lib.hid hax
   have HR : Hid (xss.all (fun y => decide (y.length = s0)) = true → Room xss.flatten.length) := fun ha => by
    have hl := flatP_len (s := s0) (fun x hx => by simpa using List.all_eq_true.1 ha x hx)
    have h5 : xss.length * s0 ≤ 4096 * 65535 := Nat.mul_le_mul (by have := h.len; omega) (by omega)
    unfold Room; omega
   clear h hvs hvv hax h0 g4 h1
   go_enter Tryz.func142,Tryz.ntmps142
   go_wp2_with fail
   refine (HC.out _).mono ?_; rintro e w1 ⟨rfl,hb1⟩
   have k1 : Below w.heap.size w w1 := bl (hB _) hb1 (by simp)
   have e1 : w1.heap[w.heap.size]? = some (.cells #[.int .i64 l,.int .i64 s0,.int .i64 n,.int .u32 d] 27 (0,0)) := by
    rw [hb1.block _ (by simp)]; exact hnew rfl
   have c2 : w1.cell? ⟨w.heap.size,2,none⟩ = some (.int .i64 n) := cell_of_row _ _ 2 _ _ _ e1
   have c1 : w1.cell? ⟨w.heap.size,1,none⟩ = some (.int .i64 s0) := cell_of_row _ _ 1 _ _ _ e1
   clear e1
   go_wp2_with fail
   refine (ContainsFuncBB_any id (lenNe s0) 186 _ enters_whole p m c vs w1 (HV.out.keep k1) ?_).mono ?_
   ·intro v hv
    obtain ⟨i,hi,e⟩ := List.getElem_of_mem hv
    obtain ⟨xs,q,c',hx,rfl,hs⟩ := HVV.out i v (by rw [List.getElem?_eq_getElem hi,e])
    exact whole1_any q _ c' _ s0 w1 c1
   rintro e w' ⟨rfl,rfl⟩
   rw [HA.out]
   by_cases h2 : xss.all (fun y => decide (y.length = s0)) = true
   ·have HR := Lib.hid (HR.out h2)
    rw [h2] at HW ⊢
    have HW' := Lib.hid HW.out
    clear HA h2
    go_wp2_with fail
    refine (Concat_any p m c xss w1 (H.out.keep k1) HR.out).mono ?_; rintro e w2 ⟨q,m',c',hm,rfl,ho,hb2⟩
    have HO := Lib.hid ho; clear ho
    go_wp2
    go_ret2
    rw [HW.out]
    exact ⟨q,m',c',hm,rfl,owns_mono HO.out k1.size,bl k1 hb2 k1.size⟩
   ·have h2' := eq_false_of_ne_true h2
    rw [h2'] at HW ⊢
    clear HA h2 h2'
    go_wp2
    go_ret2
    rw [HW.out]
    exact RetB.nil _ _ _ _ k1
  ·have hb : ((m : Int) != n) = true := by simpa using h1
   rw [if_neg h1] at HW
   clear h h0 g4 h1
   go_enter Tryz.func142,Tryz.ntmps142
   go_wp2_with fail
   refine (HC.out _).mono ?_; rintro e w1 ⟨rfl,hb1⟩
   have k1 : Below w.heap.size w w1 := bl (hB _) hb1 (by simp)
   have e1 : w1.heap[w.heap.size]? = some (.cells #[.int .i64 l,.int .i64 s0,.int .i64 n,.int .u32 d] 27 (0,0)) := by
    rw [hb1.block _ (by simp)]; exact hnew rfl
   have c2 : w1.cell? ⟨w.heap.size,2,none⟩ = some (.int .i64 n) := cell_of_row _ _ 2 _ _ _ e1
   clear e1
   go_wp2
   go_ret2
   rw [HW.out]
   exact RetB.nil _ _ _ _ k1
 ·have HW : Hid (wholeS l s n xss = ([],checkS l s n)) := by unfold wholeS; rw [Hid,if_neg h0]
  have hb : (checkS l s n != 0) = true := by simpa using h0
  generalize checkS l s n = k at *
  clear h h0
  go_enter Tryz.func142,Tryz.ntmps142
  go_wp2_with fail
  refine (HC.out _).mono ?_; rintro e w1 ⟨rfl,hb1⟩
  have k1 : Below w.heap.size w w1 := bl (hB _) hb1 (by simp)
  go_wp2
  go_ret2
  rw [HW.out]
  exact RetB.nil _ _ _ _ k1
end Go.Proofs.YtfbmdlfkipipfaaGreatDoor
namespace Go.Proofs.YtfbmdlfkipipfaaGreatDoor
open Go.RowKit Go.By
theorem Sl.take {α : Type} {enc : α → Value} {w : World} {p : Option Addr} {n c k c2 : Nat} {xs : List α} (h : Sl enc w p n c xs) (hk : k ≤ n) (h1 : k ≤ c2) (h2 : c2 ≤ c) : Sl enc w p k c2 (xs.take k) := by
 refine ⟨by rw [List.length_take,h.len]; omega,h1,Nat.le_trans h2 h.max,fun e => ?_,?_⟩
 ·have := h.nil e; omega
 ·intro i hi
  have hi' : i < xs.length := by rw [List.length_take] at hi; omega
  obtain ⟨b,o,hp,hc⟩ := h.rs i hi'
  exact ⟨b,o,hp,by rw [hc]; simp⟩
theorem Sl.drop_at {α : Type} {enc : α → Value} {w : World} {ad : Addr} {n c k : Nat} {xs : List α} (h : Sl enc w (some ad) n c xs) (hk : k ≤ n) : Sl enc w (some (ad.add k)) (n - k) (c - k) (xs.drop k) := by
 refine ⟨by rw [List.length_drop,h.len],by have := h.le; omega,by have := h.max; omega,fun e => (by cases e),?_⟩
 intro i hi
 have hi' : k + i < xs.length := by rw [List.length_drop] at hi; omega
 obtain ⟨b,o,hp,hc⟩ := h.rs (k + i) hi'
 cases hp
 exact ⟨b,o + k,by rw [Addr.add_lit],by rw [show o + k + i = o + (k + i) by omega,hc]; simp⟩
def RetL (w : World) (ys : List UInt8) (code : Int) (e : Ending) (w' : World) : Prop :=
 ∃ q m c',e = .returned (.tuple #[.slice q m c',.int .i64 code]) ∧ Sl B8 w' q m c' ys ∧ Below w.heap.size w w'
def NewT (T B : Nat) (w : World) (q : Option Addr) : Prop := ∀ a,q = some a → B ≤ a.block ∧ ∃ cs fr,w.heap[a.block]? = some (.cells cs T fr)
def RetLT (T : TypeId) (w : World) (ys : List UInt8) (code : Int) (e : Ending) (w' : World) : Prop :=
 ∃ q m c',e = .returned (.tuple #[.slice q m c',.int .i64 code]) ∧ Sl B8 w' q m c' ys ∧ NewT T w.heap.size w' q ∧ Below w.heap.size w w'
def joinS (l s n : Int) (xss : List (List UInt8)) : List UInt8 × Int := ((wholeS l s n xss).1.take l.toNat,(wholeS l s n xss).2)
set_option maxRecDepth 100000 in
set_option maxHeartbeats 1000000 in
theorem Join_anyT (l s n d : Int) (p : Option Addr) (m c : Nat) (xss : List (List UInt8)) (w : World) (h : Sl2 w p m c xss) (hl2 : l ≤ 9223372036854775807) :
  Calls Tryz.prog 91 #[.agg #[.int .i64 l,.int .i64 s,.int .i64 n,.int .u32 d],.slice p m c] w (RetLT 5 w (joinS l s n xss).1 (joinS l s n xss).2) := by
 have HC := Lib.hid (fun w h => whole_any l s n d p m c xss w h hl2)
 have hB := fun o => al (o := o) (Below.refl w.heap.size w) (Nat.le_refl _)
 have H := Lib.hid h
 clear h
 have HJ : Hid (joinS l s n xss = ((wholeS l s n xss).1.take l.toNat,(wholeS l s n xss).2)) := rfl
 rcases wholeS_cases l s n xss with ⟨g1,g2⟩ | ⟨g1,g2,g3,g4,g5⟩
 ·have hb : ((wholeS l s n xss).2 != 0) = true := by simpa using g1
  generalize wholeS l s n xss = X at *
  obtain ⟨X1,k⟩ := X
  simp only at g2 hb g1 HC HJ
  subst g2
  have HG := Lib.hid g1; clear g1
  go_enter Tryz.func91,Tryz.ntmps91
  go_wp2_with fail
  refine (HC.out _ (H.out.keep (hB _))).mono ?_; rintro e w1 ⟨q,m',c',hm,rfl,ho,hb1⟩
  have HO := Lib.hid ho; clear ho
  have k1 : Below w.heap.size w w1 := bl (hB _) hb1 (by simp)
  go_wp2
  go_ret2
  rw [HJ.out]
  exact ⟨none,0,0,rfl,by simpa using Sl.nil0 B8 w1,fun a h => (by cases h),k1⟩
 ·obtain ⟨l0,rfl⟩ := Int.eq_ofNat_of_zero_le g4
  have g5' : l0 ≤ xss.flatten.length := by omega
  generalize wholeS l0 s n xss = X at *
  obtain ⟨X1,k⟩ := X
  simp only at g3 g1 HC HJ
  subst g1
  subst g3
  clear g2 g4 g5
  have HJ2 := Lib.hid g5'; clear g5'
  generalize xss.flatten = Y at *
  go_enter Tryz.func91,Tryz.ntmps91
  go_wp2_with fail
  refine (HC.out _ (H.out.keep (hB _))).mono ?_; rintro e w1 ⟨q,m',c',hm,rfl,ho,hb1⟩
  have hcc := owns_cap ho
  have hs := Sl.of_owns ho
  have k1 : Below w.heap.size w w1 := bl (hB _) hb1 (by simp)
  have e1 : w1.heap[w.heap.size]? = some (.cells #[.int .i64 l0,.int .i64 s,.int .i64 n,.int .u32 d] 27 (0,0)) := by
   rw [hb1.block _ (by simp)]; exact hnew rfl
  have c0 : w1.cell? ⟨w.heap.size,0,none⟩ = some (.int .i64 l0) := cell_of_row _ _ 0 _ _ _ e1
  have b1 : l0 ≤ m' := by have := HJ2.out; have := hm.out; omega
  have b2 : m' ≤ c' := hcc.1
  have b3 : c' ≤ 9223372036854775807 := by have := hcc.2; unfold maxLen at this; omega
  have HS := Lib.hid (Sl.take hs b1 (Nat.le_refl _) (by omega))
  have HN : Hid (NewT 5 w.heap.size w1 q) := fun a ha => by
   rcases ho.2 with ⟨h2,_⟩ | ⟨g,cap,cur,hv,hb,hh,_⟩
   ·subst ha; cases h2
   ·subst ha; cases hv; exact ⟨Nat.le_trans (by simp) hb,_,_,hh⟩
  clear e1 ho hs hcc
  cases hq : q with
  | none =>
   subst hq
   obtain ⟨z1,z2⟩ := HS.out.nil rfl
   subst z1
   go_wp2
   go_ret2
   rw [HJ.out]
   exact ⟨_,_,_,rfl,by simpa using HS.out,HN.out,k1⟩
  | some ad =>
   subst hq
   go_wp2
   go_ret2
   rw [HJ.out]
   exact ⟨_,_,_,rfl,by simpa using HS.out,HN.out,k1⟩
end Go.Proofs.YtfbmdlfkipipfaaGreatDoor
namespace Go.Proofs.YtfbmdlfkipipfaaGreatDoor
open Go.RowKit Go.By
def rneedsS (l s : Int) : Int := if needS l s ≤ 4096 then needS l s else 4097
theorem rneeds_done {l s : Int} {k : Nat} {m : Int} (hl : 0 ≤ l) (hs : 1 ≤ s) (hm : m + k * s = l) (h0 : (k = 0 ∧ m = 0) ∨ 0 < m) (h1 : m ≤ s) : needS l s = (k : Int) + 1 := by
 rcases h0 with ⟨rfl,rfl⟩ | h0
 ·have : l = 0 := by simpa using hm.symm
  subst this; rfl
 ·have hk : 0 ≤ (k : Int) * s := Int.mul_nonneg (by omega) (by omega)
  refine needS_of (by omega) hs ?_ ?_
  ·rw [show (k : Int) + 1 - 1 = k by omega]; omega
  ·rw [Int.add_mul]; omega
theorem rneeds_more {l s : Int} {k : Nat} {m : Int} (hs : 1 ≤ s) (hm : m + k * s = l) (h0 : 0 < m) : (k : Int) < needS l s := by
 have hk : 0 ≤ (k : Int) * s := Int.mul_nonneg (by omega) (by omega)
 obtain ⟨g1,g2⟩ := needS_spec (l := l) (s := s) (by omega) hs
 generalize needS l s = n at *
 have : ¬ n ≤ (k : Int) := fun h => by
  have : n * s ≤ (k : Int) * s := Int.mul_le_mul_of_nonneg_right h (by omega)
  omega
 omega
set_option maxRecDepth 100000 in
set_option maxHeartbeats 1000000 in
theorem RNeeds_any (l s : Int) (w : World) (hl : 0 ≤ l) (hl2 : l ≤ 9223372036854775807) (hs : 1 ≤ s) :
  Calls Tryz.prog 98 #[.int .i64 l,.int .i64 s] w fun e w' => e = .returned (.int .i64 (rneedsS l s)) ∧ w = w' := by
 have HS := Lib.hid hs; have HL := Lib.hid hl
 go_enter Tryz.func98,Tryz.ntmps98
 go_wp2
 go_loop [0,5] (fun a b => ∃ (m : Int) (k : Nat),a = .int .i64 m ∧ b = .int .i64 k ∧ k ≤ 4097 ∧ 0 ≤ m ∧ m ≤ l ∧ (k = 0 ∨ 0 < m) ∧ Hid (m + k * s = l)) (fun _ b => 4097 - (intOf b).toNat)
 case atStart => exact ⟨l,0,rfl,rfl,by omega,hl,by omega,.inl rfl,by simp [Hid]⟩
 case round =>
  obtain ⟨m,k,rfl,rfl,hk,hm0,hml,hkm,hm⟩ := hrel
  have HK := Lib.hid hkm; clear hkm
  by_cases hlt : k ≤ 4096
  ·have g1 : (k : Int) ≤ 4096 := by omega
   by_cases hms : m ≤ s
   ·have hR : Hid (rneedsS l s = (k : Int) + 1) := by
     have hd : needS l s = (k : Int) + 1 := rneeds_done HL.out HS.out hm.out (by have := HK.out; omega) hms
     rw [Hid,rneedsS,hd]; split <;> omega
    by_cases hz : k = 0
    ·subst hz
     go_wp2
     go_ret
     exact ⟨by rw [hR.out]; rfl,rfl⟩
    ·have hkz : ((k : Int) == 0) = false := by simp; omega
     have hmp : 0 < m := by have := HK.out; omega
     clear hz
     go_wp2
     go_ret
     exact ⟨by rw [hR.out]; rfl,rfl⟩
   ·have hlt' : s < m := by omega
    have hlow : 0 < m - s := by omega
    have hw : wrap64 (m - s) = m - s := by unfold wrap64; omega
    clear hms
    by_cases hz : k = 0
    ·subst hz
     go_wp2
     go_round
     case rel => exact ⟨m - s,1,by simp [hw],rfl,by omega,by omega,by omega,.inr hlow,by have := hm.out; simp [Hid] at *; omega⟩
     case measure => simp [intOf]
    ·have hkz : ((k : Int) == 0) = false := by simp; omega
     have hmp : 0 < m := by have := HK.out; omega
     clear hz
     go_wp2
     go_round
     case rel => exact ⟨m - s,k + 1,by simp [hw],by go_num,by omega,by omega,by omega,.inr hlow,by have := hm.out; simp only [Hid,Int.natCast_add,Int.add_mul]; simp; omega⟩
     case measure => simp [intOf]; omega
  ·have hk' : k = 4097 := by omega
   subst hk'
   have hR : Hid (rneedsS l s = 4097) := by
    have := rneeds_more HS.out hm.out (by have := HK.out; omega)
    rw [Hid,rneedsS,if_neg (by omega)]
   go_wp2
   go_ret
   exact ⟨by rw [hR.out]; rfl,rfl⟩
set_option maxRecDepth 100000 in
set_option maxHeartbeats 1000000 in
theorem RCheck_any (l s n d : Int) (w : World) (hl2 : l ≤ 9223372036854775807) :
  Calls Tryz.prog 45 #[.agg #[.int .i64 l,.int .i64 s,.int .i64 n,.int .u32 d]] w fun e w' => e = .returned (.int .i64 (checkS l s n)) ∧ Below w.heap.size w w' := by
 by_cases h0 : l < 0
 ·have HR : Hid (checkS l s n = 2) := by unfold checkS fitS; simp [Hid,h0]
  go_enter Tryz.func45,Tryz.ntmps45
  go_wp2
  go_ret
  exact ⟨by rw [HR.out]; rfl,al (Below.refl _ _) (Nat.le_refl _)⟩
 ·by_cases h1 : s < 1
  ·have HR : Hid (checkS l s n = 4) := by unfold checkS fitS; simp [Hid,h0,h1]
   go_enter Tryz.func45,Tryz.ntmps45
   go_wp2
   go_ret
   exact ⟨by rw [HR.out]; rfl,al (Below.refl _ _) (Nat.le_refl _)⟩
  ·by_cases h2 : 65535 < s
   ·have HR : Hid (checkS l s n = 4) := by unfold checkS fitS; simp [Hid,h0,h2]
    go_enter Tryz.func45,Tryz.ntmps45
    go_wp2
    go_ret
    exact ⟨by rw [HR.out]; rfl,al (Below.refl _ _) (Nat.le_refl _)⟩
   ·have HN := Lib.hid (fun w => RNeeds_any l s w (by omega) hl2 (by omega))
    by_cases h3 : needS l s ≤ 4096
    ·rw [rneedsS,if_pos h3] at HN
     have HF : fitS l s = 0 := by unfold fitS; rw [if_neg h0,if_neg (by omega),if_neg (by omega)]
     have HR : Hid (checkS l s n = if n = needS l s then 0 else 14) := by unfold checkS; rw [Hid,if_pos HF]
     clear HF
     generalize needS l s = k at *
     have h3' : ¬ (4096 < k) := by omega
     by_cases e : n = k
     ·subst e
      have hb : (n != n) = false := by simp
      rw [if_pos rfl] at HR
      have C0 := cell4 w (.int .i64 l) (.int .i64 s) (.int .i64 n) (.int .u32 d) 97 0
      have C1 := cell4 w (.int .i64 l) (.int .i64 s) (.int .i64 n) (.int .u32 d) 97 1
      have C2 := cell4 w (.int .i64 l) (.int .i64 s) (.int .i64 n) (.int .u32 d) 97 2
      go_enter Tryz.func45,Tryz.ntmps45
      go_wp2_with fail
      refine (HN.out _).mono ?_; rintro e w' ⟨rfl,rfl⟩
      go_wp2
      go_quiet ((go_at_call 98; exact Calls.quiet_of_same ((HN.out _).mono fun e w' hh => ⟨hh.1,hh.2.symm⟩)))
      go_wp2
      go_ret
      exact ⟨by rw [HR.out]; rfl,bdn (al (Below.refl _ _) (Nat.le_refl _))⟩
     ·have hb : (n != k) = true := by simpa using e
      rw [if_neg e] at HR
      clear e
      have C0 := cell4 w (.int .i64 l) (.int .i64 s) (.int .i64 n) (.int .u32 d) 97 0
      have C1 := cell4 w (.int .i64 l) (.int .i64 s) (.int .i64 n) (.int .u32 d) 97 1
      have C2 := cell4 w (.int .i64 l) (.int .i64 s) (.int .i64 n) (.int .u32 d) 97 2
      go_enter Tryz.func45,Tryz.ntmps45
      go_wp2_with fail
      refine (HN.out _).mono ?_; rintro e w' ⟨rfl,rfl⟩
      go_wp2
      go_quiet ((go_at_call 98; exact Calls.quiet_of_same ((HN.out _).mono fun e w' hh => ⟨hh.1,hh.2.symm⟩)))
      go_wp2
      go_ret
      exact ⟨by rw [HR.out]; rfl,bdn (al (Below.refl _ _) (Nat.le_refl _))⟩
    ·rw [rneedsS,if_neg h3] at HN
     have HR : Hid (checkS l s n = 5) := by
      have : fitS l s = 5 := by unfold fitS; rw [if_neg h0,if_neg (by omega),if_pos (by omega)]
      unfold checkS; rw [Hid,this]; rfl
     clear h3
     go_enter Tryz.func45,Tryz.ntmps45
     go_wp2_with fail
     refine (HN.out _).mono ?_; rintro e w' ⟨rfl,rfl⟩
     go_wp2
     go_ret
     exact ⟨by rw [HR.out]; rfl,al (Below.refl _ _) (Nat.le_refl _)⟩
end Go.Proofs.YtfbmdlfkipipfaaGreatDoor
namespace Go.Proofs.YtfbmdlfkipipfaaGreatDoor
open Go.RowKit Go.By
end Go.Proofs.YtfbmdlfkipipfaaGreatDoor
namespace Go.Proofs.YtfbmdlfkipipfaaGreatDoor
open Go.RowKit Go.By
theorem lt_of_blk {w : World} {b : Nat} {o : Obj} (h : w.heap[b]? = some o) : b < w.heap.size := by
 rcases Nat.lt_or_ge b w.heap.size with g | g
 ·exact g
 ·rw [Array.getElem?_eq_none g] at h; cases h
theorem cells4 {w : World} {b T : Nat} {u v x y : Value} (h : w.heap[b]? = some (.cells #[u,v,x,y] T (0,0))) : w.cell? ⟨b,0,none⟩ = some u ∧ w.cell? ⟨b,1,none⟩ = some v ∧ w.cell? ⟨b,2,none⟩ = some x ∧ w.cell? ⟨b,3,none⟩ = some y :=
 ⟨cell_of_row _ _ 0 _ _ _ h,cell_of_row _ _ 1 _ _ _ h,cell_of_row _ _ 2 _ _ _ h,cell_of_row _ _ 3 _ _ _ h⟩
end Go.Proofs.YtfbmdlfkipipfaaGreatDoor
namespace Go.By
open Go.RowKit
def pieceS (o : List UInt8) (s i : Nat) : List UInt8 := fillC (List.replicate s 0) (o.drop (i * s))
theorem pieceS_len (o : List UInt8) (s i : Nat) : (pieceS o s i).length = s := by unfold pieceS; rw [fillS_lenC,List.length_replicate]
def tabC (m s : Nat) (G : List Nat) : Array Value := (G.map (fun g => Value.slice (some ⟨g,0,none⟩) s s) ++ List.replicate (m - G.length) (Value.slice none 0 0)).toArray
theorem tabC_at {m s k : Nat} {G : List Nat} (h : G.length = k) (hk : k < m) : (tabC m s G)[k]? = some (.slice none 0 0) := by
 subst h
 unfold tabC
 rw [List.getElem?_toArray,List.getElem?_append_right (by simp),List.length_map,Nat.sub_self,List.getElem?_replicate,if_pos (by omega)]
theorem tabC_set {m s k g : Nat} {G : List Nat} (h : G.length = k) (hk : k < m) : (tabC m s G).setIfInBounds k (.slice (some ⟨g,0,none⟩) s s) = tabC m s (G ++ [g]) := by
 subst h
 unfold tabC
 rw [List.setIfInBounds_toArray]
 congr 1
 have e : m - G.length = (m - (G ++ [g]).length) + 1 := by simp; omega
 rw [e,List.replicate_succ,List.map_append,List.append_assoc]
 have hl : G.length = (G.map (fun g => Value.slice (some ⟨g,0,none⟩) s s)).length := by simp
 conv => lhs; rw [hl]
 rw [List.set_append_right _ _ (Nat.le_refl _),Nat.sub_self]; rfl
theorem blk_ltC {w : World} {b : Nat} {o : Obj} (h : w.heap[b]? = some o) : b < w.heap.size := by
 rcases Nat.lt_or_ge b w.heap.size with g | g
 ·exact g
 ·rw [Array.getElem?_eq_none g] at h; cases h
def PcsC (T : TypeId) (o : List UInt8) (s gL : Nat) (G : List Nat) (W : World) : Prop := ∀ (j g : Nat),G[j]? = some g → W.heap[g]? = some (.cells ((pieceS o s j).map B8).toArray T (0,0)) ∧ gL < g
theorem PcsC.keep {T : TypeId} {o : List UInt8} {s gL : Nat} {G : List Nat} {W W' : World} (h : PcsC T o s gL G W) (hb : Below W.heap.size W W') : PcsC T o s gL G W' := fun j g hj => ⟨(hb.block _ (blk_ltC (h j g hj).1)).trans (h j g hj).1,(h j g hj).2⟩
theorem PcsC.set {T : TypeId} {o : List UInt8} {s gL i : Nat} {G : List Nat} {W : World} {v : Value} (h : PcsC T o s gL G W) : PcsC T o s gL G (W.setCell ⟨gL,i,none⟩ v) := fun j g hj => ⟨hsc (h j g hj).1 (by have := (h j g hj).2; show g ≠ gL; omega),(h j g hj).2⟩
theorem PcsC.push {T : TypeId} {o : List UInt8} {s gL g : Nat} {G : List Nat} {W : World} (h : PcsC T o s gL G W) (hg : W.heap[g]? = some (.cells ((pieceS o s G.length).map B8).toArray T (0,0))) (hl : gL < g) : PcsC T o s gL (G ++ [g]) W := fun j g' hj => by
 rcases Nat.lt_or_ge j G.length with h1 | h1
 ·rw [List.getElem?_append_left h1] at hj; exact h j g' hj
 ·rw [List.getElem?_append_right h1] at hj
  have h2 : j - G.length = 0 := by
   rcases Nat.eq_zero_or_pos (j - G.length) with e | e
   ·exact e
   ·rw [List.getElem?_eq_none (by simp; omega)] at hj; cases hj
  rw [h2] at hj
  cases hj
  obtain rfl : j = G.length := by omega
  exact ⟨hg,hl⟩
theorem range_atC {n i k : Nat} (h : (List.range n)[i]? = some k) : i < n ∧ k = i := by
 obtain ⟨h1,h2⟩ := List.getElem?_eq_some_iff.1 h
 rw [List.getElem_range] at h2
 exact ⟨by simpa using h1,h2.symm⟩
theorem PcsC.sl2 {T U : TypeId} {o : List UInt8} {s gL : Nat} {G : List Nat} {W : World} {fr : Nat × Nat} (h : PcsC T o s gL G W) (hL : W.heap[gL]? = some (.cells (tabC G.length s G) U fr)) (hm : G.length ≤ maxLen) (hs : s ≤ maxLen) : Sl2 W (some ⟨gL,0,none⟩) G.length G.length ((List.range G.length).map (pieceS o s)) := by
 refine sl2_block ((List.range G.length).map (pieceS o s)) G.length hL (by simp [tabC]) (by simp) hm ?_
 intro i xs hi
 rw [List.getElem?_map] at hi
 obtain ⟨k,hk,rfl⟩ := Option.map_eq_some_iff.1 hi
 obtain ⟨hk1,e⟩ := range_atC hk
 rw [e]
 obtain ⟨g,hg⟩ : ∃ g,G[i]? = some g := ⟨G[i]'hk1,List.getElem?_eq_getElem _⟩
 refine ⟨some ⟨g,0,none⟩,s,s,?_,?_⟩
 ·unfold tabC
  rw [List.getElem?_toArray,List.getElem?_append_left (by simpa using hk1),List.getElem?_map,hg]; rfl
 ·exact sl_block (pieceS o s i) s (h i g hg).1 rfl (pieceS_len o s i) hs
end Go.By
namespace Go.Proofs.YtfbmdlfkipipfaaGreatDoor
open Go.RowKit Go.By
set_option maxRecDepth 100000 in
theorem slice_fromC {q : Option Addr} {n c k : Nat} {o : List UInt8} {w : World} (h : Sl B8 w q n c o) (hk : k ≤ n) : ∃ q' c',(∀ W,(Instr.sliceAt 22 (.slice q n c) (some (.int .i64 (k : Int))) none none).run Tryz.prog W = .ok (.slice q' (n - k) c') W) ∧ Sl B8 w q' (n - k) c' (o.drop k) := by
 have hel : Tryz.prog.underlying 22 = some (.slice (Tryz.prog.elem 22)) := by simp [Program.elem,Tryz.underlying22]
 refine ⟨if c = k then q else q.map (·.add k),c - k,fun W => ?_,?_⟩
 ·rw [run_sliceAt_slice (h := hel),run_slice_l (ht := hel) (h0 := by omega) (h1 := by omega)]
  clear hel
  go_simp
 ·have hle := h.le
  by_cases hc : c = k
  ·rw [if_pos hc]
   have hn : n = k := by omega
   have e : o.drop k = [] := List.drop_eq_nil_of_le (by rw [h.len]; omega)
   rw [e,hn,Nat.sub_self]
   refine ⟨rfl,by omega,by have := h.max; omega,fun hq => ⟨rfl,?_⟩,fun i hi => absurd hi (by simp)⟩
   have := h.nil hq; omega
  ·rw [if_neg hc]
   cases q with
   | none =>
    obtain ⟨e1,e2⟩ := h.nil rfl
    omega
   | some ad => exact Sl.drop_at h hk
theorem checkS_okC {l s n : Int} (h : checkS l s n = 0) : 0 ≤ l ∧ 1 ≤ s ∧ s ≤ 65535 ∧ n = needS l s ∧ n ≤ 4096 := by
 have hf : fitS l s = 0 := by
  unfold checkS at h
  by_cases e : fitS l s = 0
  ·exact e
  ·rw [if_neg e] at h; exact h
 have hn : n = needS l s := by
  unfold checkS at h
  rw [if_pos hf] at h
  by_cases e : n = needS l s
  ·exact e
  ·rw [if_neg e] at h; cases h
 rcases fitS_cases l s with ⟨a,_⟩ | ⟨_,h1,h2,h3,h4⟩
 ·exact absurd hf a
 ·exact ⟨h1,h2,h3,hn,by omega⟩
set_option maxRecDepth 100000 in
set_option maxHeartbeats 2000000 in
theorem cfits_any (l s m d : Int) (q : Option Addr) (n c : Nat) (w : World) (hl2 : l ≤ 9223372036854775807) (hk : checkS l s m = 0) (hn : (n : Int) = l) :
  Calls Tryz.prog 122 #[.agg #[.int .i64 l,.int .i64 s,.int .i64 m,.int .u32 d],.slice q n c] w fun e w' => e = .returned (.int .i64 0) ∧ Below w.heap.size w w' := by
 have HC := Lib.hid (fun w => Check_any l s m d w hl2)
 rw [hk] at HC
 have HX : Hid (∀ o,(w.alloc o).heap[w.heap.size]? = some o) := fun o => hnew rfl
 clear hk
 subst hn
 go_enter Tryz.func122,Tryz.ntmps122
 go_wp2_with fail
 refine Calls.mono (HC.out _) ?_
 rintro e w1 ⟨rfl,hb⟩
 have h1 := (hb.block _ (lt_of_blk (HX.out _))).trans (HX.out _)
 obtain ⟨c0,c1,c2,c3⟩ := cells4 h1
 have HB : Hid (Below w.heap.size w w1) := bl (al (Below.refl _ _) (Nat.le_refl _)) hb (by simp)
 clear hb h1
 go_wp2
 go_ret
 exact ⟨rfl,HB.out⟩
set_option maxRecDepth 100000 in
set_option maxHeartbeats 2000000 in
theorem piece_any (l m d : Int) (s i : Nat) (q : Option Addr) (n c : Nat) (o : List UInt8) (w : World) (h : Sl B8 w q n c o) (hs1 : 1 ≤ s) (hs : s ≤ 65535) (hi : i * s ≤ n) :
  Calls Tryz.prog 123 #[.agg #[.int .i64 l,.int .i64 (s : Int),.int .i64 m,.int .u32 d],.slice q n c,.int .i64 (i : Int)] w fun e w' => ∃ g,e = .returned (.slice (some ⟨g,0,none⟩) s s) ∧ w.heap.size ≤ g ∧ w'.heap[g]? = some (.cells ((pieceS o s i).map B8).toArray 5 (0,0)) ∧ Below w.heap.size w w' := by
 obtain ⟨i0,hi0,hz0,hz1,hz2⟩ := info_parts info_u8
 have hnb := h.bound
 have H := Lib.hid h
 have HM1 : Hid (s ≤ maxLen) := by show s ≤ maxLen; unfold maxLen; omega
 have HM2 : Hid (1 * s ≤ 281474976710656) := by show 1 * s ≤ _; omega
 obtain ⟨k,hk⟩ : ∃ k,k = i * s := ⟨_,rfl⟩
 have hki : (i : Int) * (s : Int) = (k : Int) := by rw [hk]; simp
 have hkn : k ≤ n := by omega
 have hkn' : (k : Int) ≤ (n : Int) := by omega
 have hw : IntKind.i64.wrap ((i : Int) * (s : Int)) = (k : Int) := by rw [hki,IntKind.wrap_i64]; omega
 have hw2 : wrap64 ((i : Int) * (s : Int)) = (k : Int) := by rw [hki]; unfold wrap64; omega
 have HE : Hid (pieceS o s i = fillC (List.replicate s 0) (o.drop k)) := by show _ = _; unfold pieceS; rw [hk]
 have HX : Hid (∀ o,(w.alloc o).heap[w.heap.size]? = some o) := fun o => hnew rfl
 clear h hk hi
 go_enter Tryz.func123,Tryz.ntmps123
 go_wp2_with (at_make; refine wpList_make_full _ rfl _ _ 22 rfl w.heap.size 5 i0 (.int .u8 0) 1 Tryz.underlying22 hi0 hz0 hz1 .i64 .i64 _ _ s rfl rfl rfl rfl (by rw [hz2]; exact HM2.out) HM1.out (by simp) ?_)
 intro w5 ho hg
 have HV : Hid (w5.heap[w.heap.size + 1]? = some (.cells ((List.replicate s (0 : UInt8)).map B8).toArray 5 (0,0))) := by
  have e : (madeCells #[Value.int .u8 0] s).toList = List.replicate s (B8 0) := toList_madeCells_one _ _
  rw [e] at ho
  show _ = _
  rw [List.map_replicate]
  have := heap_of_ownsC ho
  simpa using this
 have B5 : Hid (Below w.heap.size w w5) := (al (Below.refl _ _) (Nat.le_refl _)).grown hg (by simp) (by simp)
 have HS1 := Lib.hid (H.out.keep B5.out)
 have h1 : w5.heap[w.heap.size]? = some (.cells #[.int .i64 l,.int .i64 (s : Int),.int .i64 m,.int .u32 d] 27 (0,0)) := (hg.block _ (by simp) (by simp)).trans (HX.out _)
 obtain ⟨c0,c1,c2,c3⟩ := cells4 h1
 obtain ⟨q',c',hsl,hs2⟩ := slice_fromC HS1.out hkn
 have HS2 := Lib.hid hs2
 clear ho hg h1 hs2 H
 go_wp2_with (first | simp only [hsl] | (with_reducible refine wpList_copy_bytesC w5 rfl (.tmp 11) (.tmp 17) 22 22 rfl 5 Tryz.underlying22 (by kernel_rfl) (w.heap.size + 1) s q' (n - k) c' rfl rfl (List.replicate s 0) (o.drop k) 5 HV.out (by simp) HS2.out ?_))
 intro w6 z hh hg2
 have B6 : Hid (Below w.heap.size w w6) := B5.out.grown hg2 (by have := B5.out.size; exact this) (fun r hr => by cases hr; omega)
 have HH : Hid (w6.heap[w.heap.size + 1]? = some (.cells ((pieceS o s i).map B8).toArray 5 (0,0))) := by rw [HE.out]; exact hh
 clear hh hg2
 go_wp2
 go_ret
 exact ⟨_,rfl,by omega,HH.out,B6.out⟩
theorem info_bytesC : (Tryz.prog.info? 22).map (fun i => (i.zero,i.size,i.bytes)) = some (some (.slice none 0 0),1,24) := by kernel_rfl
set_option maxRecDepth 100000 in
set_option maxHeartbeats 4000000 in
theorem Cut_any (d : Int) (n s m : Nat) (q : Option Addr) (c : Nat) (o : List UInt8) (w : World) (h : Sl B8 w q n c o) (hk : checkS n s m = 0) (hfit : ∀ i : Nat,i < m → i * s ≤ n) :
  Calls Tryz.prog 74 #[.agg #[.int .i64 (n : Int),.int .i64 (s : Int),.int .i64 (m : Int),.int .u32 d],.slice q n c] w fun e w' => ∃ g,e = .returned (.tuple #[.slice (some ⟨g,0,none⟩) m m,.int .i64 0]) ∧ w.heap.size ≤ g ∧ Sl2 w' (some ⟨g,0,none⟩) m m ((List.range m).map (pieceS o s)) ∧ Below w.heap.size w w' := by
 obtain ⟨i0,hi0,hz0,hz1,hz2⟩ := info_parts info_bytesC
 obtain ⟨-,hs1,hs2,-,hm4⟩ := checkS_okC hk
 have hnb := h.bound
 have H := Lib.hid h
 have HFT := Lib.hid hfit
 have HF := Lib.hid (fun w => cfits_any n s m d q n c w (by omega) hk rfl)
 have hm5 : m ≤ 4096 := by omega
 have hs3 : 1 ≤ s := by omega
 have hs4 : s ≤ 65535 := by omega
 have HM1 : Hid (m ≤ maxLen) := by show m ≤ maxLen; unfold maxLen; omega
 have HM2 : Hid (24 * m ≤ 281474976710656) := by show 24 * m ≤ _; omega
 have HX : Hid (∀ o,(w.alloc o).heap[w.heap.size]? = some o) := fun o => hnew rfl
 have HBA : Hid (∀ (W : World) o,Below W.heap.size W (W.alloc o)) := fun W o => al (Below.refl _ _) (Nat.le_refl _)
 clear h hk hfit hs1 hs2 hm4
 go_enter Tryz.func74,Tryz.ntmps74
 go_wp2_with fail
 refine Calls.mono (HF.out _) ?_
 rintro e w1 ⟨rfl,hb⟩
 have X1 : Hid (w1.heap[w.heap.size]? = some (.cells #[.int .i64 (n : Int),.int .i64 (s : Int),.int .i64 (m : Int),.int .u32 d] 27 (0,0))) := (hb.block _ (lt_of_blk (HX.out _))).trans (HX.out _)
 have B1 : Hid (Below w.heap.size w w1) := bl (HBA.out _ _) hb (by simp)
 obtain ⟨c0,c1,c2,c3⟩ := cells4 X1.out
 obtain ⟨b0,hb0⟩ : ∃ b0,b0 = w.heap.size := ⟨_,rfl⟩
 have HB0 := Lib.hid hb0
 rw [← hb0] at X1 c0 c1 c2 c3 ⊢
 clear hb HX hb0
 go_wp2_with (at_make; refine wpList_make_full _ rfl _ _ 31 rfl w1.heap.size 22 i0 (.slice none 0 0) 1 Tryz.underlying31 hi0 hz0 hz1 .i64 .i64 _ _ m rfl rfl rfl rfl (by rw [hz2]; exact HM2.out) HM1.out (by simp) ?_)
 intro w2 ho hg
 have T2 : Hid (w2.heap[w1.heap.size]? = some (.cells (tabC m s []) 22 (0,0))) := by
  have e : (madeCells #[Value.slice none 0 0] m).toList = List.replicate m (Value.slice none 0 0) := toList_madeCells_one _ _
  rw [e] at ho
  have := heap_of_ownsC ho
  show _ = _
  rw [this]
  rfl
 have X2 : Hid (w2.heap[b0]? = some (.cells #[.int .i64 (n : Int),.int .i64 (s : Int),.int .i64 (m : Int),.int .u32 d] 27 (0,0))) := (hg.block _ (lt_of_blk X1.out) (by simp)).trans X1.out
 have B2 : Hid (Below w.heap.size w w2) := B1.out.grown hg B1.out.size (by simp)
 have hlt0 : b0 < w1.heap.size := lt_of_blk X1.out
 have hgl : w1.heap.size < w2.heap.size := lt_of_blk T2.out
 have hwl : w.heap.size ≤ w1.heap.size := B1.out.size
 generalize w1.heap.size = gL at *
 clear ho hg c0 c1 c2 c3 X1 B1
 go_wp2
 go_loopw [20] (fun i wr => ∃ (G : List Nat),i = .int .i64 (G.length : Int) ∧ G.length ≤ m ∧ Hid (wr.heap[gL]? = some (.cells (tabC m s G) 22 (0,0))) ∧ Hid (PcsC 5 o s gL G wr) ∧ Hid (wr.heap[b0]? = some (.cells #[.int .i64 (n : Int),.int .i64 (s : Int),.int .i64 (m : Int),.int .u32 d] 27 (0,0))) ∧ Hid (Below w.heap.size w wr)) (fun i _ => m - (intOf i).toNat)
 case atStart => exact ⟨[],rfl,Nat.zero_le _,T2.out,fun j g hj => by simp at hj,X2.out,B2.out⟩
 case round =>
  obtain ⟨G,rfl,hG,hT,hP,hX,hB⟩ := hrel
  obtain ⟨k,hk⟩ : ∃ k,k = G.length := ⟨_,rfl⟩
  rw [← hk] at hG ⊢
  by_cases hlt : k < m
  ·have hlt' : (k : Int) < (m : Int) := by omega
   have HP2 := Lib.hid (fun W (hW : Below w.heap.size w W) => piece_any n m d s k q n c o W (H.out.keep hW) hs3 hs4 (HFT.out k hlt))
   obtain ⟨c0,c1,c2,c3⟩ := cells4 hX.out
   have HK := Lib.hid hk
   clear hk hlt
   go_wp2_with fail
   refine Calls.mono (HP2.out _ hB.out) ?_
   rintro e w3 ⟨g,rfl,hg0,hgh,hb⟩
   have T3 : Hid (w3.heap[gL]? = some (.cells (tabC m s G) 22 (0,0))) := (hb.block _ (lt_of_blk hT.out)).trans hT.out
   have X3 : Hid (w3.heap[b0]? = some (.cells #[.int .i64 (n : Int),.int .i64 (s : Int),.int .i64 (m : Int),.int .u32 d] 27 (0,0))) := (hb.block _ (lt_of_blk hX.out)).trans hX.out
   have hgg : gL < g := Nat.lt_of_lt_of_le (lt_of_blk hT.out) hg0
   have P3 : Hid (PcsC 5 o s gL (G ++ [g]) w3) := (hP.out.keep hb).push (by rw [← HK.out]; exact hgh) hgg
   have B3 : Hid (Below w.heap.size w w3) := bl hB.out hb hB.out.size
   have e0 : w3.cell? ⟨gL,k,none⟩ = some (.slice none 0 0) := by rw [cell_of_row _ _ _ _ _ _ T3.out]; exact tabC_at HK.out.symm (by omega)
   have e1 : w3.frozen? ⟨gL,k,none⟩ = false := frozen_of_row _ _ k _ _ T3.out
   have T4 : Hid ((w3.setCell ⟨gL,k,none⟩ (.slice (some ⟨g,0,none⟩) s s)).heap[gL]? = some (.cells (tabC m s (G ++ [g])) 22 (0,0))) := by
    have := hss (i := k) (v := .slice (some ⟨g,0,none⟩) s s) T3.out
    rw [tabC_set HK.out.symm (by omega)] at this; exact this
   have X4 : Hid ((w3.setCell ⟨gL,k,none⟩ (.slice (some ⟨g,0,none⟩) s s)).heap[b0]? = some (.cells #[.int .i64 (n : Int),.int .i64 (s : Int),.int .i64 (m : Int),.int .u32 d] 27 (0,0))) := hsc X3.out (by show b0 ≠ gL; omega)
   have P4 : Hid (PcsC 5 o s gL (G ++ [g]) (w3.setCell ⟨gL,k,none⟩ (.slice (some ⟨g,0,none⟩) s s))) := P3.out.set
   have B4 : Hid (Below w.heap.size w (w3.setCell ⟨gL,k,none⟩ (.slice (some ⟨g,0,none⟩) s s))) := B3.out.setCell hwl _
   clear hT hP hX hB hgh hb c0 c1 c2 c3 HP2
   go_wp2
   go_roundw
   case rel => exact ⟨G ++ [g],by rw [List.length_append,← HK.out]; go_num,by rw [List.length_append,← HK.out]; simp; omega,T4.out,P4.out,X4.out,B4.out⟩
   case measure => simp [intOf]; omega
  ·obtain rfl : k = m := by omega
   have HS : Hid (Sl2 wr (some ⟨gL,0,none⟩) k k ((List.range k).map (pieceS o s))) := by
    have := PcsC.sl2 hP.out (U := 22) (fr := (0,0)) (by rw [← hk]; exact hT.out) (by rw [← hk]; exact HM1.out) (by unfold maxLen; omega)
    rw [← hk] at this; exact this
   clear hlt
   go_wp2
   go_ret2
   exact ⟨gL,rfl,hwl,HS.out,hB.out⟩
end Go.Proofs.YtfbmdlfkipipfaaGreatDoor
namespace Go.By
open Go.RowKit
def SRT (ys : List UInt8) (code : Int) (v : Value) (w : World) : Prop := ∃ q n c,v = .tuple #[.slice q n c,.int .i64 code] ∧ Sl B8 w q n c ys
def ShSR (ys : List UInt8) (code : Int) : Shp := ⟨SRT ys code,fun _ _ _ ⟨q,n,c,e,h⟩ hb => ⟨q,n,c,e,h.keep hb⟩⟩
theorem cells_six {w : World} {b T : Nat} {u v x y z r : Value} (h : w.heap[b]? = some (.cells #[u,v,x,y,z,r] T (0,0))) : w.cell? ⟨b,0,none⟩ = some u ∧ w.cell? ⟨b,1,none⟩ = some v ∧ w.cell? ⟨b,2,none⟩ = some x ∧ w.cell? ⟨b,3,none⟩ = some y ∧ w.cell? ⟨b,4,none⟩ = some z ∧ w.cell? ⟨b,5,none⟩ = some r :=
 ⟨cell_of_row _ _ 0 _ _ _ h,cell_of_row _ _ 1 _ _ _ h,cell_of_row _ _ 2 _ _ _ h,cell_of_row _ _ 3 _ _ _ h,cell_of_row _ _ 4 _ _ _ h,cell_of_row _ _ 5 _ _ _ h⟩
theorem sl_noByte {w : World} {q : Option Addr} {n c g i T : Nat} {ys : List UInt8} {cs : Array Value} {fr : Nat × Nat} {v : Value} (h : Sl B8 w q n c ys) (hg : w.heap[g]? = some (.cells cs T fr)) (hno : ∀ (j : Nat) (x : UInt8),cs[j]? ≠ some (B8 x)) : Sl B8 (w.setCell ⟨g,i,none⟩ v) q n c ys :=
 ⟨h.len,h.le,h.max,h.nil,fun j hj => by
  obtain ⟨b,o,e,hc⟩ := h.rs j hj
  refine ⟨b,o,e,?_⟩
  have hne : b ≠ g := fun e1 => by
   rw [e1,cell_of_row _ _ (o + j) _ _ _ hg] at hc
   exact hno _ _ hc
  exact (World.cell?_of_block (a := ⟨b,o + j,none⟩) (Below.heap_setCell _ _ _ _ hne)).trans hc⟩
theorem sl2_noByte {w : World} {q : Option Addr} {n c g i T : Nat} {yss : List (List UInt8)} {cs : Array Value} {fr : Nat × Nat} {v : Value} (h : Sl2 w q n c yss) (hq : ∀ a,q = some a → a.block ≠ g) (hg : w.heap[g]? = some (.cells cs T fr)) (hno : ∀ (j : Nat) (x : UInt8),cs[j]? ≠ some (B8 x)) : Sl2 (w.setCell ⟨g,i,none⟩ v) q n c yss :=
 ⟨h.len,h.le,h.max,h.nil,fun j ys hj => by
  obtain ⟨b,o,q',c',e,hc,hs⟩ := h.rs j ys hj
  exact ⟨b,o,q',c',e,(World.cell?_of_block (a := ⟨b,o + j,none⟩) (Below.heap_setCell _ _ _ _ (hq _ e))).trans hc,sl_noByte hs hg hno⟩⟩
theorem Fresh.cell {T T' B g i n c : Nat} {w : World} {q : Option Addr} {xs : List UInt8} {old : Array Value} {fr : Nat × Nat} {v : Value} (h : Fresh T B w q n c xs) (hg : w.heap[g]? = some (.cells old T' fr)) (hne : T' ≠ T) : Fresh T B (w.setCell ⟨g,i,Option.none⟩ v) q n c xs := by
 have hd : ∀ a,q = some a → a.block ≠ g := fun a ha e => by
  obtain ⟨c2,f2,e2⟩ := h.ty a ha
  rw [e,hg] at e2
  injection e2 with e2
  injection e2 with _ e3 _
  exact hne e3
 exact ⟨⟨h.sl.len,h.sl.le,h.sl.max,h.sl.nil,fun j hj => by
  obtain ⟨b,o,e,hc⟩ := h.sl.rs j hj
  exact ⟨b,o,e,(World.cell?_of_block (a := ⟨b,o + j,Option.none⟩) (Below.heap_setCell _ _ _ _ (hd _ e))).trans hc⟩⟩,h.new,fun a ha => by obtain ⟨c2,f2,e2⟩ := h.ty a ha; exact ⟨c2,f2,(Below.heap_setCell _ _ _ _ (hd a ha)).trans e2⟩⟩
theorem noByte6 {l t k D nx : Int} {q : Option Addr} {n c : Nat} : ∀ (j : Nat) (x : UInt8),#[Value.int .i64 l,.int .i64 t,.int .i64 k,.int .u32 D,.slice q n c,.int .u64 nx][j]? ≠ some (B8 x) := by
 intro j x h
 match j with
 | 0 => simp at h
 | 1 => simp at h
 | 2 => simp at h
 | 3 => simp at h
 | 4 => simp at h
 | 5 => simp at h
 | j + 6 => simp at h
structure GChg (w : World) (g : Nat) (w' : World) : Prop where
 os : w'.os = w.os
 tape : w'.tape = w.tape
 output : w'.output = w.output
 size : w.heap.size ≤ w'.heap.size
 block : ∀ b,b < w.heap.size → b ≠ g → w'.heap[b]? = w.heap[b]?
theorem GChg.of {w w' : World} (g : Nat) (h : Below w.heap.size w w') : GChg w g w' := ⟨h.os,h.tape,h.output,h.size,fun b hb _ => h.block b hb⟩
theorem GChg.below {w w' : World} {g B : Nat} (h : GChg w g w') (hB : B ≤ g) (hw : B ≤ w.heap.size) : Below B w w' := ⟨h.os,h.tape,h.output,h.size,fun i hi => h.block i (by omega) (by omega)⟩
theorem GChg.set {w w' : World} {g i : Nat} (h : GChg w g w') (v : Value) : GChg w g (w'.setCell ⟨g,i,none⟩ v) :=
 ⟨h.os,h.tape,h.output,by simp [World.setCell]; exact h.size,fun b hb hg => (Below.heap_setCell _ _ _ _ hg).trans (h.block b hb hg)⟩
end Go.By
namespace Go.Proofs.YtfbmdlfkipipfaaGreatDoor
open Go.RowKit Go.By
structure Snd (w : World) (gs L t k D nx : Nat) (xss : List (List UInt8)) : Prop where
 ok : POK L t k D
 mem : ∃ q c,w.heap[gs]? = some (.cells #[.int .i64 (L : Nat),.int .i64 (t : Nat),.int .i64 (k : Nat),.int .u32 (D : Nat),.slice q k c,.int .u64 (nx : Nat)] 153 (0,0)) ∧ Sl2 w q k c xss ∧ ∀ a,q = some a → a.block ≠ gs
 fit : ∀ xs,xs ∈ xss → xs.length = t
set_option maxRecDepth 100000 in
set_option maxHeartbeats 1000000 in
theorem SNew_ok (L t k D : Nat) (q : Option Addr) (n c : Nat) (o : List UInt8) (w : World) (hP : POK n t k D) (h : Sl B8 w q n c o) (hfit : ∀ i : Nat,i < k → i * t ≤ n) (hL : L = n) :
  Calls Tryz.prog 30 #[PVal L t k D,.slice q n c] w fun e w' => ∃ gs,e = .returned (.tuple #[.pointer (some ⟨gs,0,none⟩),.int .i64 0]) ∧ w.heap.size ≤ gs ∧ Snd w' gs L t k D 0 ((List.range k).map (pieceS o t)) ∧ Below w.heap.size w w' := by
 subst hL
 have HC : Hid (∀ w,Sl B8 w q L c o → Calls Tryz.prog 74 #[PVal L t k D,.slice q L c] w fun e w' => ∃ g,e = .returned (.tuple #[.slice (some ⟨g,0,none⟩) k k,.int .i64 0]) ∧ w.heap.size ≤ g ∧ Sl2 w' (some ⟨g,0,none⟩) k k ((List.range k).map (pieceS o t)) ∧ Below w.heap.size w w') := fun w h => Cut_any (D : Int) L t k q c o w h hP.chk hfit
 have HP := Lib.hid hP
 have H := Lib.hid h
 clear hP h hfit
 go_enter Tryz.func30,Tryz.ntmps30
 go_wp2_with fail
 refine Calls.mono (HC.out _ (H.out.keep (al (Below.refl _ _) (Nat.le_refl _)))) ?_
 rintro e w1 ⟨g,rfl,hg,hs2,hb⟩
 obtain ⟨hb1,h1,hs⟩ := one_of hb
 have HB := Lib.hid hb1
 have HS2 := Lib.hid hs2
 have HLG : Hid (g < w1.heap.size) := by
  obtain ⟨b,o,_,_,_,_,e,hc,_⟩ := hs2.at 0 (by have := HP.out.k1; omega)
  cases e
  exact lt_of_cell hc
 obtain ⟨c0,c1,c2,c3⟩ := cells_four h1
 clear hb hb1 hs2
 go_wp2
 go_ret2
 exact ⟨w1.heap.size,rfl,HB.out.size,⟨HP.out,⟨_,_,hnew rfl,HS2.out.keep (al (Below.refl _ _) (Nat.le_refl _)),fun a ha => by cases ha; have := HLG.out; show g ≠ w1.heap.size; omega⟩,fun xs hx => by obtain ⟨i,_,rfl⟩ := List.mem_map.1 hx; exact pieceS_len o t i⟩,al HB.out HB.out.size⟩
end Go.Proofs.YtfbmdlfkipipfaaGreatDoor
namespace Go.Proofs.YtfbmdlfkipipfaaGreatDoor
open Go.RowKit Go.By
theorem srcC_zero {m : UInt8} {j k : Nat} (h : srcC m j k = 0) : modeC m = 0 ∧ (m = 0 → j = k) := by
 unfold srcC at h
 by_cases h0 : m = 0
 ·rw [if_pos h0] at h
  refine ⟨by rw [h0]; rfl,fun _ => ?_⟩
  split at h
  ·assumption
  ·cases h
 ·rw [if_neg h0] at h
  exact ⟨h,fun e => absurd e h0⟩
theorem vecS_len {m : UInt8} {xs : List UInt8} {s j k : Nat} (h : srcC m j k = 0) (hj : xs.length = j) : (vecS m xs s k).length = k := by
 unfold vecS
 by_cases h0 : m = 0
 ·rw [if_pos h0,hj]; exact (srcC_zero h).2 h0
 ·rw [if_neg h0,mixRow_len]
theorem combS_fit {V : List UInt8} {xss : List (List UInt8)} {k t : Nat} (hk : 1 ≤ k) (h1 : V.length = k) (h2 : xss.length = k) (h : ∀ xs,xs ∈ xss → xs.length = t) : (combS V xss).2 = 0 ∧ (combS V xss).1.length = t := by
 have hx0 : xss[0]? = some xss[0] := List.getElem?_eq_getElem (by omega)
 have hm0 : xss[0] ∈ xss := List.getElem_mem (by omega)
 have e := noughtS_of hx0 (h _ hm0) h
 unfold combS
 rw [if_pos (h1.trans h2.symm),e,if_pos rfl]
 exact ⟨rfl,combF_len V xss t h _ (by simp)⟩
def SdRet (w : World) (gs L t k D : Nat) (xss : List (List UInt8)) (ys : List UInt8) (nx' : Nat) (code : Int) (e : Ending) (w' : World) : Prop :=
 ∃ q n c,e = .returned (.tuple #[.slice q n c,.int .i64 code]) ∧ Sl B8 w' q n c ys ∧ Snd w' gs L t k D nx' xss ∧ GChg w gs w'
def SdRetQ (w : World) (gs L t k D : Nat) (xss : List (List UInt8)) (ys : List UInt8) (nx nx' : Nat) (code : Int) (e : Ending) (w' : World) : Prop :=
 SdRet w gs L t k D xss ys nx' code e w' ∧ ∀ q c,w.heap[gs]? = some (.cells #[.int .i64 (L : Nat),.int .i64 (t : Nat),.int .i64 (k : Nat),.int .u32 (D : Nat),.slice q k c,.int .u64 (nx : Nat)] 153 (0,0)) → w'.heap[gs]? = some (.cells #[.int .i64 (L : Nat),.int .i64 (t : Nat),.int .i64 (k : Nat),.int .u32 (D : Nat),.slice q k c,.int .u64 (nx' : Nat)] 153 (0,0))
def SdRetF (w : World) (gs L t k D : Nat) (xss : List (List UInt8)) (ys : List UInt8) (nx nx' : Nat) (code : Int) (e : Ending) (w' : World) : Prop :=
 (∃ q n c,e = .returned (.tuple #[.slice q n c,.int .i64 code]) ∧ Fresh 5 w.heap.size w' q n c ys) ∧ SdRetQ w gs L t k D xss ys nx nx' code e w'
set_option maxRecDepth 100000 in
set_option maxHeartbeats 4000000 in
theorem SSend_okF (gs L t k D nx : Nat) (xss : List (List UInt8)) (m : UInt8) (p : Option Addr) (j c s : Nat) (xs : List UInt8) (w : World) (hS : Snd w gs L t k D nx xss) (hnx : nx < 4294967296) (hm : srcC m j k = 0) (h : Sl B8 w p j c xs) (hr : Room j) (hT : HalfT w) :
  Calls Tryz.prog 31 #[.pointer (some ⟨gs,0,none⟩),SVal m p j c s] w (SdRetF w gs L t k D xss (pktB m D nx xs s (combS (vecS m xs s k) xss).1) nx (nx + 1) 0) := by
 obtain ⟨qs,cs,hbox,hsx,hqs⟩ := hS.mem
 have HBX0 := Lib.hid hbox
 have HQS := Lib.hid hqs
 have hV : Hid (∀ w,Sl B8 w p j c xs → Calls Tryz.prog 32 #[SVal m p j c s,.int .i64 (k : Nat)] w (SRet w (vecS m xs s k) 0)) := fun w h => by have := SVector_any m p j c s k xs hS.ok.k1 hS.ok.k2 w h hr; rw [hm,if_pos rfl] at this; exact this
 obtain ⟨hc0,hcl⟩ := combS_fit hS.ok.k1 (vecS_len (s := s) hm h.len) hsx.len hS.fit
 have ht2 := hS.ok.t2
 have hK : Hid (∀ w p n c,Sl B8 w p n c (vecS m xs s k) → Sl2 w qs k cs xss → Calls Tryz.prog 75 #[.slice p n c,.slice qs k cs] w (SRet w (combS (vecS m xs s k) xss).1 0)) := fun w p n c h1 h2 => by
  refine Calls.mono (Comb_any p qs n k c cs _ _ w h1 h2 (fun xs hx => by rw [hS.fit xs hx]; show t ≤ _; omega)) ?_
  intro e w' he
  rw [hc0] at he
  exact SRet.of he
 obtain ⟨hmo,hmj⟩ := srcC_zero hm
 obtain ⟨Y,hY⟩ : ∃ Y,(combS (vecS m xs s k) xss).1 = Y := ⟨_,rfl⟩
 rw [hY] at hK hcl ⊢
 have hWr : Hid (∀ w q ty d,ty = t → Sl B8 w p j c xs → Sl B8 w q ty d Y → HalfT w → Calls Tryz.prog 76 #[PkVal m D nx m p j c s q ty d,PVal L t k D] w (SRetF 5 w (pktB m D nx xs s Y) 0)) := fun w q ty d e h1 h2 hT => by
  subst e
  exact PWrite_okF L _ k D nx m p j c s q d xs Y w hS.ok hnx hmo hmj hr h1 h2 hT
 obtain ⟨V,hVV⟩ : ∃ V,vecS m xs s k = V := ⟨_,rfl⟩
 rw [hVV] at hV hK
 obtain ⟨O,hO⟩ : ∃ O,pktB m D nx xs s Y = O := ⟨_,rfl⟩
 rw [hO] at hWr ⊢
 have hnx1 : IntKind.u64.wrap ((nx : Int) + 1) = ((nx + 1 : Nat) : Int) := by rw [IntKind.wrap_u64]; omega
 have hnx2 : IntKind.u32.wrap (nx : Int) = (nx : Int) := by rw [IntKind.wrap_u32]; omega
 have e0 : ((nx : Int) == 4294967296) = false := beq_eq_false_iff_ne.2 (by omega)
 have HS := Lib.hid hS
 have H := Lib.hid h
 have HT := Lib.hid hT
 have HSX := Lib.hid hsx
 have HCL := Lib.hid hcl
 have HBOX := Lib.hid hbox
 have a0 : ∀ o',(w.alloc o').cell? ⟨gs,5,none⟩ = some (.int .u64 (nx : Nat)) := fun _ => calloc (cells_six hbox).2.2.2.2.2
 clear hqs hS h hT hsx hcl hbox hY hVV hO hc0 hmo hmj hm hr hnx ht2
 go_enter Tryz.func31,Tryz.ntmps31
 go_wp2_with fail
 have hgs := lt_of_block HBOX.out
 have B0 : Hid (Below w.heap.size w (w.alloc (.cells #[B8 m,.slice p j c,.int .u64 (s : Nat)] 66 (0,0)))) := al (Below.refl _ _) (Nat.le_refl _)
 have k1 : (w.alloc (.cells #[B8 m,.slice p j c,.int .u64 (s : Nat)] 66 (0,0))).heap[w.heap.size]? = some (.cells #[B8 m,.slice p j c,.int .u64 (s : Nat)] 66 (0,0)) := hnew rfl
 have k2 := (B0.out.block _ hgs).trans HBOX.out
 have hs0 : w.heap.size + 1 ≤ (w.alloc (.cells #[B8 m,.slice p j c,.int .u64 (s : Nat)] 66 (0,0))).heap.size := by simp
 generalize w.alloc (.cells #[B8 m,.slice p j c,.int .u64 (s : Nat)] 66 (0,0)) = w1 at *
 have H1 := Lib.hid (H.out.keep B0.out)
 obtain ⟨b0,b1,b2⟩ := cells_three k1
 obtain ⟨c0,c1,c2,c3,c4,c5⟩ := cells_six k2
 refine wp_region_shapes (fun ix => ([.val (.agg #[B8 m,.slice p j c,.int .u64 (s : Nat)]),.val (.pointer (some ⟨gs,0,none⟩)),.val (.pointer (some ⟨gs,0,none⟩)),.val (.pointer (some ⟨gs,0,none⟩)),.val (.pointer (some ⟨gs,2,none⟩)),.val (.int .i64 (k : Nat)),ShSR (V) (0),ShSR (V) (0),.bytes (V),.val (.int .i64 0),.bytes (V),.val (.int .i64 0)][ix]?).getD (.any)) 79 rfl (by kernel_rfl) (by decide +kernel) (by decide +kernel) (by decide +kernel) ?_ ?_
 ·refine ⟨?_,?_,?_,?_,?_,?_,?_,?_,?_,?_,?_,?_,trivial⟩
  ·intro a W hb0 hs hp hi; have hb := undrew hb0; clear hb0
   have tt : sl a 3 = .pointer (some ⟨w.heap.size,0,none⟩) := hi 3 (by decide)
   have dd0 := (hb.cell (p := ⟨w.heap.size,0,none⟩) (lt_of_cell b0)).trans b0
   have dd1 := (hb.cell (p := ⟨w.heap.size,1,none⟩) (lt_of_cell b1)).trans b1
   have dd2 := (hb.cell (p := ⟨w.heap.size,2,none⟩) (lt_of_cell b2)).trans b2
   refine ite_y rfl (wp_val (.agg #[B8 m,.slice p j c,.int .u64 (s : Nat)]) ?_ ?_)
   ·simp only [execOp,eval_tmp,tt]; simp [go_sem,dd0,dd1,dd2]
   ·exact ⟨_,rfl,Below.refl _ _,rfl⟩
  ·intro a W hb0 hs hp hi; have hb := undrew hb0; clear hb0
   have t0 : sl a 0 = .pointer (some ⟨gs,0,none⟩) := hi 0 (by decide)
   exact ite_y rfl (wp_val (sl a 0) rfl ⟨_,rfl,Below.refl _ _,t0⟩)
  ·intro a W hb0 hs hp hi; have hb := undrew hb0; clear hb0
   have tt : sl a 20 = .pointer (some ⟨gs,0,none⟩) := hp 1 (by decide)
   refine ite_y rfl (wp_val (.pointer (some ⟨gs,0,none⟩)) ?_ ?_)
   ·simp only [execOp,eval_tmp,tt]; simp [go_sem]
   ·exact ⟨_,rfl,Below.refl _ _,rfl⟩
  ·intro a W hb0 hs hp hi; have hb := undrew hb0; clear hb0
   have tt : sl a 21 = .pointer (some ⟨gs,0,none⟩) := hp 2 (by decide)
   refine ite_y rfl (wp_val (.pointer (some ⟨gs,0,none⟩)) ?_ ?_)
   ·simp only [execOp,eval_tmp,tt]; simp [go_sem]
   ·exact ⟨_,rfl,Below.refl _ _,rfl⟩
  ·intro a W hb0 hs hp hi; have hb := undrew hb0; clear hb0
   have tt : sl a 22 = .pointer (some ⟨gs,0,none⟩) := hp 3 (by decide)
   refine ite_y rfl (wp_val (.pointer (some ⟨gs,2,none⟩)) ?_ ?_)
   ·simp only [execOp,eval_tmp,tt]; simp [go_sem]
   ·exact ⟨_,rfl,Below.refl _ _,rfl⟩
  ·intro a W hb0 hs hp hi; have hb := undrew hb0; clear hb0
   have tt : sl a 23 = .pointer (some ⟨gs,2,none⟩) := hp 4 (by decide)
   have dd := (hb.cell (p := ⟨gs,2,none⟩) (lt_of_cell c2)).trans c2
   refine ite_y rfl (wp_val (.int .i64 (k : Nat)) ?_ ?_)
   ·simp only [execOp,eval_tmp,tt]; simp [go_sem,dd]
   ·exact ⟨_,rfl,Below.refl _ _,rfl⟩
  ·intro a W hb0 hs hp hi; have hb := undrew hb0; clear hb0
   have t19 : sl a 19 = .agg #[B8 m,.slice p j c,.int .u64 (s : Nat)] := hp 0 (by decide)
   have t24 : sl a 24 = .int .i64 (k : Nat) := hp 5 (by decide)
   refine ite_y rfl (wp_enter 32 #[SVal m p j c s,.int .i64 (k : Nat)] ?_ (hV.out _ (H1.out.keep hb)) ?_)
   ·simp only [execOp,resolve,List.map_toArray,List.map,eval_tmp,eval_func,eval_const,t19,t24]; simp [go_sem]
   ·rintro e W' ⟨q5,n5,g5,rfl,o5,hw⟩; exact ⟨_,rfl,_,rfl,hw,q5,n5,g5,rfl,o5⟩
  ·intro a W hb0 hs hp hi; have hb := undrew hb0; clear hb0
   exact ite_y rfl (wp_val (sl a 25) rfl ⟨_,rfl,Below.refl _ _,hp 6 (by decide)⟩)
  ·intro a W hb0 hs hp hi; have hb := undrew hb0; clear hb0
   have tt : SRT (V) (0) (sl a 18) W := hp 7 (by decide)
   obtain ⟨q5,n5,g5,tt,z5⟩ := tt
   refine ite_y rfl (wp_val (.slice q5 n5 g5) ?_ ?_)
   ·simp only [execOp,eval_tmp,tt]; rfl
   ·exact ⟨_,rfl,Below.refl _ _,q5,n5,g5,rfl,z5⟩
  ·intro a W hb0 hs hp hi; have hb := undrew hb0; clear hb0
   have tt : SRT (V) (0) (sl a 18) W := hp 7 (by decide)
   obtain ⟨q5,n5,g5,tt,z5⟩ := tt
   refine ite_y rfl (wp_val (.int .i64 0) ?_ ?_)
   ·simp only [execOp,eval_tmp,tt]; rfl
   ·exact ⟨_,rfl,Below.refl _ _,rfl⟩
  ·intro a W hb0 hs hp hi; have hb := undrew hb0; clear hb0
   exact ite_y rfl (wp_val (sl a 26) rfl ⟨_,rfl,Below.refl _ _,hp 8 (by decide)⟩)
  ·intro a W hb0 hs hp hi; have hb := undrew hb0; clear hb0
   have t27 : sl a 27 = .int .i64 0 := hp 9 (by decide)
   exact ite_y rfl (wp_val (sl a 27) rfl ⟨_,rfl,Below.refl _ _,t27⟩)
 intro a w2 hb hs hd hI ht
 have ha := act_is [19,20,21,22,23,24,25,18,26,27,6,7] hs hd ht (by decide)
 have t7 : sl a 7 = .int .i64 0 := hI 11 (by decide)
 have y6 := hI 10 (by decide)
 obtain ⟨q6,n6,c6,t6,z6⟩ := y6
 simp only [List.foldl,t7,t6] at ha
 generalize sl a 19 = u19 at ha
 generalize sl a 20 = u20 at ha
 generalize sl a 21 = u21 at ha
 generalize sl a 22 = u22 at ha
 generalize sl a 23 = u23 at ha
 generalize sl a 24 = u24 at ha
 generalize sl a 25 = u25 at ha
 generalize sl a 18 = u18 at ha
 generalize sl a 26 = u26 at ha
 generalize sl a 27 = u27 at ha
 simp only [Act.put,List.setIfInBounds_toArray,List.set_cons_zero,List.set_cons_succ] at ha
 rw [ha]
 clear ha hI ht
 have HB2 := Lib.hid (bl B0.out hb B0.out.size)
 have ZV := Lib.hid z6
 have k1' := (hb.block _ (by omega)).trans k1
 have k2' := (hb.block _ (by omega)).trans k2
 have hs2 := hb.size
 clear hb z6 k1 k2 b0 b1 b2 c0 c1 c2 c3 c4 c5 H1
 obtain ⟨c0,c1,c2,c3,c4,c5⟩ := cells_six k2'
 go_wp2_with fail
 refine Calls.mono (hK.out _ _ _ _ ZV.out (HSX.out.keep HB2.out)) ?_
 rintro e w3 ⟨qy,ty,cy,rfl,hy,hb⟩
 have hty : ty = t := by rw [← hy.len]; exact HCL.out
 have HB3 := Lib.hid (bl HB2.out hb HB2.out.size)
 have HY := Lib.hid hy
 have k1 := (hb.block _ (by omega)).trans k1'
 have k2 := (hb.block _ (by omega)).trans k2'
 have hs3 := hb.size
 have HTY := Lib.hid hty
 clear hb hy k1' k2' c0 c1 c2 c3 c4 c5 hty
 obtain ⟨b0,b1,b2⟩ := cells_three k1
 obtain ⟨c0,c1,c2,c3,c4,c5⟩ := cells_six k2
 go_wp2_with fail
 refine wp_region_tail (fun ix => ([.val (.pointer (some ⟨w.heap.size,0,none⟩)),.val (B8 m),.val (.pointer (some ⟨gs,0,none⟩)),.val (.pointer (some ⟨gs,0,none⟩)),.val (.pointer (some ⟨gs,0,none⟩)),.val (.pointer (some ⟨gs,3,none⟩)),.val (.int .u32 (D : Nat)),.val (.pointer (some ⟨gs,0,none⟩)),.val (.pointer (some ⟨gs,0,none⟩)),.val (.pointer (some ⟨gs,5,none⟩)),.val (.int .u64 (nx : Nat)),.val (.int .u32 (nx : Nat)),(.val (HVal m D nx)),.val (.agg #[B8 m,.slice p j c,.int .u64 (s : Nat)]),.val (.slice qy ty cy),(.val (PkVal m D nx m p j c s qy ty cy)),(ShNew 135 w3.heap.size #[.int .u8 0,.int .u32 0,.int .u32 0,.int .u8 0,.slice none 0 0,.int .u64 0,.slice none 0 0]),.any][ix]?).getD (.any)) 79 17 rfl (by kernel_rfl) (by decide +kernel) (by decide +kernel) (by decide +kernel) (by decide +kernel) ?_ ?_
 ·refine ⟨?_,?_,?_,?_,?_,?_,?_,?_,?_,?_,?_,?_,?_,?_,?_,?_,?_,trivial⟩
  ·intro a W hb0 hs hp hi; have hb := undrew hb0; clear hb0
   have t3 : sl a 3 = .pointer (some ⟨w.heap.size,0,none⟩) := hi 3 (by decide)
   refine ite_y rfl (wp_val (.pointer (some ⟨w.heap.size,0,none⟩)) ?_ ?_)
   ·simp only [execOp,eval_tmp,eval_const,t3]; simp [go_sem]
   ·exact ⟨_,rfl,Below.refl _ _,rfl⟩
  ·intro a W hb0 hs hp hi; have hb := undrew hb0; clear hb0
   have tt : sl a 43 = .pointer (some ⟨w.heap.size,0,none⟩) := hp 0 (by decide)
   have dd := (hb.cell (p := ⟨w.heap.size,0,none⟩) (lt_of_cell b0)).trans b0
   refine ite_y rfl (wp_val (B8 m) ?_ ?_)
   ·simp only [execOp,eval_tmp,tt]; simp [go_sem,dd]
   ·exact ⟨_,rfl,Below.refl _ _,rfl⟩
  ·intro a W hb0 hs hp hi; have hb := undrew hb0; clear hb0
   have t0 : sl a 0 = .pointer (some ⟨gs,0,none⟩) := hi 0 (by decide)
   exact ite_y rfl (wp_val (sl a 0) rfl ⟨_,rfl,Below.refl _ _,t0⟩)
  ·intro a W hb0 hs hp hi; have hb := undrew hb0; clear hb0
   have tt : sl a 45 = .pointer (some ⟨gs,0,none⟩) := hp 2 (by decide)
   refine ite_y rfl (wp_val (.pointer (some ⟨gs,0,none⟩)) ?_ ?_)
   ·simp only [execOp,eval_tmp,tt]; simp [go_sem]
   ·exact ⟨_,rfl,Below.refl _ _,rfl⟩
  ·intro a W hb0 hs hp hi; have hb := undrew hb0; clear hb0
   have tt : sl a 46 = .pointer (some ⟨gs,0,none⟩) := hp 3 (by decide)
   refine ite_y rfl (wp_val (.pointer (some ⟨gs,0,none⟩)) ?_ ?_)
   ·simp only [execOp,eval_tmp,tt]; simp [go_sem]
   ·exact ⟨_,rfl,Below.refl _ _,rfl⟩
  ·intro a W hb0 hs hp hi; have hb := undrew hb0; clear hb0
   have tt : sl a 47 = .pointer (some ⟨gs,0,none⟩) := hp 4 (by decide)
   refine ite_y rfl (wp_val (.pointer (some ⟨gs,3,none⟩)) ?_ ?_)
   ·simp only [execOp,eval_tmp,tt]; simp [go_sem]
   ·exact ⟨_,rfl,Below.refl _ _,rfl⟩
  ·intro a W hb0 hs hp hi; have hb := undrew hb0; clear hb0
   have tt : sl a 48 = .pointer (some ⟨gs,3,none⟩) := hp 5 (by decide)
   have dd := (hb.cell (p := ⟨gs,3,none⟩) (lt_of_cell c3)).trans c3
   refine ite_y rfl (wp_val (.int .u32 (D : Nat)) ?_ ?_)
   ·simp only [execOp,eval_tmp,tt]; simp [go_sem,dd]
   ·exact ⟨_,rfl,Below.refl _ _,rfl⟩
  ·intro a W hb0 hs hp hi; have hb := undrew hb0; clear hb0
   have t0 : sl a 0 = .pointer (some ⟨gs,0,none⟩) := hi 0 (by decide)
   exact ite_y rfl (wp_val (sl a 0) rfl ⟨_,rfl,Below.refl _ _,t0⟩)
  ·intro a W hb0 hs hp hi; have hb := undrew hb0; clear hb0
   have tt : sl a 50 = .pointer (some ⟨gs,0,none⟩) := hp 7 (by decide)
   refine ite_y rfl (wp_val (.pointer (some ⟨gs,0,none⟩)) ?_ ?_)
   ·simp only [execOp,eval_tmp,tt]; simp [go_sem]
   ·exact ⟨_,rfl,Below.refl _ _,rfl⟩
  ·intro a W hb0 hs hp hi; have hb := undrew hb0; clear hb0
   have tt : sl a 51 = .pointer (some ⟨gs,0,none⟩) := hp 8 (by decide)
   refine ite_y rfl (wp_val (.pointer (some ⟨gs,5,none⟩)) ?_ ?_)
   ·simp only [execOp,eval_tmp,tt]; simp [go_sem]
   ·exact ⟨_,rfl,Below.refl _ _,rfl⟩
  ·intro a W hb0 hs hp hi; have hb := undrew hb0; clear hb0
   have tt : sl a 52 = .pointer (some ⟨gs,5,none⟩) := hp 9 (by decide)
   have dd := (hb.cell (p := ⟨gs,5,none⟩) (lt_of_cell c5)).trans c5
   refine ite_y rfl (wp_val (.int .u64 (nx : Nat)) ?_ ?_)
   ·simp only [execOp,eval_tmp,tt]; simp [go_sem,dd]
   ·exact ⟨_,rfl,Below.refl _ _,rfl⟩
  ·intro a W hb0 hs hp hi; have hb := undrew hb0; clear hb0
   have tt : sl a 53 = .int .u64 (nx : Nat) := hp 10 (by decide)
   refine ite_y rfl (wp_val (.int .u32 (nx : Nat)) ?_ ?_)
   ·simp only [execOp,eval_tmp,tt]; simp [go_sem,Tryz.underlying44,Tryz.underlying23,hnx2]
   ·exact ⟨_,rfl,Below.refl _ _,rfl⟩
  ·intro a W hb0 hs hp hi; have hb := undrew hb0; clear hb0
   have t44 : sl a 44 = B8 m := hp 1 (by decide)
   have t49 : sl a 49 = .int .u32 (D : Nat) := hp 6 (by decide)
   have t54 : sl a 54 = .int .u32 (nx : Nat) := hp 11 (by decide)
   have v44 : a.tmps[44]?.getD undef = sl a 44 := by simp [sl]
   rw [t44] at v44
   have v49 : a.tmps[49]?.getD undef = sl a 49 := by simp [sl]
   rw [t49] at v49
   have v54 : a.tmps[54]?.getD undef = sl a 54 := by simp [sl]
   rw [t54] at v54
   refine ite_y rfl (wp_val (HVal m D nx) ?_ ?_)
   ·simp only [execOp,eval_tmp,t44,t49,t54]; simp [go_sem,v44,v49,v54,Tryz.underlying133]
   ·exact ⟨_,rfl,Below.refl _ _,rfl⟩
  ·intro a W hb0 hs hp hi; have hb := undrew hb0; clear hb0
   have tt : sl a 3 = .pointer (some ⟨w.heap.size,0,none⟩) := hi 3 (by decide)
   have dd0 := (hb.cell (p := ⟨w.heap.size,0,none⟩) (lt_of_cell b0)).trans b0
   have dd1 := (hb.cell (p := ⟨w.heap.size,1,none⟩) (lt_of_cell b1)).trans b1
   have dd2 := (hb.cell (p := ⟨w.heap.size,2,none⟩) (lt_of_cell b2)).trans b2
   refine ite_y rfl (wp_val (.agg #[B8 m,.slice p j c,.int .u64 (s : Nat)]) ?_ ?_)
   ·simp only [execOp,eval_tmp,tt]; simp [go_sem,dd0,dd1,dd2]
   ·exact ⟨_,rfl,Below.refl _ _,rfl⟩
  ·intro a W hb0 hs hp hi; have hb := undrew hb0; clear hb0
   have t8 : sl a 8 = .slice qy ty cy := hi 8 (by decide)
   exact ite_y rfl (wp_val (sl a 8) rfl ⟨_,rfl,Below.refl _ _,t8⟩)
  ·intro a W hb0 hs hp hi; have hb := undrew hb0; clear hb0
   have t55 : sl a 55 = HVal m D nx := hp 12 (by decide)
   have t56 : sl a 56 = SVal m p j c s := hp 13 (by decide)
   have t57 : sl a 57 = .slice qy ty cy := hp 14 (by decide)
   have v55 : a.tmps[55]?.getD undef = sl a 55 := by simp [sl]
   rw [t55] at v55
   have v56 : a.tmps[56]?.getD undef = sl a 56 := by simp [sl]
   rw [t56] at v56
   have v57 : a.tmps[57]?.getD undef = sl a 57 := by simp [sl]
   rw [t57] at v57
   refine ite_y rfl (wp_val (PkVal m D nx m p j c s qy ty cy) ?_ ?_)
   ·simp only [execOp,eval_tmp,t55,t56,t57]; simp [go_sem,v55,v56,v57,Tryz.underlying133,Tryz.underlying66,Tryz.underlying135]
   ·exact ⟨_,rfl,Below.refl _ _,rfl⟩
  ·intro a W hb0 hs hp hi; have hb := undrew hb0; clear hb0
   refine ite_y rfl (wp_val' (w' := W.alloc (.cells #[.int .u8 0,.int .u32 0,.int .u32 0,.int .u8 0,.slice none 0 0,.int .u64 0,.slice none 0 0] 135)) (.pointer (some ⟨W.heap.size,0,none⟩)) ?_ ?_)
   ·simp only [execOp]; simp [go_sem]
   ·exact ⟨_,rfl,al (Below.refl _ _) (Nat.le_refl _),_,rfl,hb.size,hnew rfl⟩
 intro a w4 hb hs hd hI ht
 have ha := act_is [43,44,45,46,47,48,49,50,51,52,53,54,55,56,57,58,9] hs hd ht (by decide)
 have t58 : sl a 58 = (PkVal m D nx m p j c s qy ty cy) := hI 15 (by decide)
 have y9 := hI 16 (by decide)
 obtain ⟨g9,t9,hg9,hh9⟩ := y9
 simp only [List.foldl,t58,t9] at ha
 generalize sl a 43 = u43 at ha
 generalize sl a 44 = u44 at ha
 generalize sl a 45 = u45 at ha
 generalize sl a 46 = u46 at ha
 generalize sl a 47 = u47 at ha
 generalize sl a 48 = u48 at ha
 generalize sl a 49 = u49 at ha
 generalize sl a 50 = u50 at ha
 generalize sl a 51 = u51 at ha
 generalize sl a 52 = u52 at ha
 generalize sl a 53 = u53 at ha
 generalize sl a 54 = u54 at ha
 generalize sl a 55 = u55 at ha
 generalize sl a 56 = u56 at ha
 generalize sl a 57 = u57 at ha
 simp only [Act.put,List.setIfInBounds_toArray,List.set_cons_zero,List.set_cons_succ] at ha
 rw [ha]; clear ha hI ht hs hd
 simp only [List.drop_succ_cons,List.drop_zero]
 have hg9' : gs < g9 := by have := HB3.out.size; omega
 have hs4 := hb.size
 have B4 := bl HB3.out hb HB3.out.size
 have q2 := (hb.block _ (by omega)).trans k2
 have Y4 := HY.out.keep hb
 have HZ4 := Lib.hid hg9
 clear hb c0 c1 c2 c3 c4 c5 b0 b1 b2 k1 k2
 go_wp2_with (refine wpList_store_rowS (o := ⟨none,.store 135 (.tmp 9) (.tmp 58),_,_,_,_⟩) rfl 135 (.tmp 9) (.tmp 58) rfl g9 #[B8 m,.int .u32 (D : Nat),.int .u32 (nx : Nat),B8 m,.slice p j c,.int .u64 (s : Nat),.slice qy ty cy] rfl rfl _ _ hh9 info_packet rfl (by simp [Value.oneCell']) ?_)
 intro w5 hr5
 have HB5 : Hid (Below w.heap.size w w5) := by rw [hr5.eq]; exact below_row B4 (by have := HB3.out.size; omega)
 have k2 : w5.heap[gs]? = some (.cells #[.int .i64 (L : Nat),.int .i64 (t : Nat),.int .i64 (k : Nat),.int .u32 (D : Nat),.slice qs k cs,.int .u64 (nx : Nat)] 153 (0,0)) := by rw [hr5.eq]; exact hro q2 (by omega)
 have k9 : w5.heap[g9]? = some (.cells #[B8 m,.int .u32 (D : Nat),.int .u32 (nx : Nat),B8 m,.slice p j c,.int .u64 (s : Nat),.slice qy ty cy] 135 (0,0)) := by rw [hr5.eq]; exact hrs hh9
 have HX5 := Lib.hid (H.out.keep HB5.out)
 have HY5 : Hid (Sl B8 w5 qy ty cy Y) := by
  rw [hr5.eq]
  exact sl_setRow Y4 fun a ha => by
   obtain ⟨b,o,e,hl⟩ := HY.out.has (by
    rcases Nat.eq_zero_or_pos ty with h0 | h0
    ·exfalso
     have := HTY.out; have := HS.out.ok.t1; omega
    ·exact h0)
   rw [ha] at e; cases e
   show b ≠ g9
   have := HZ4.out; omega
 have HT5 := Lib.hid (HT.out.keep HB5.out)
 clear hr5 q2 Y4 hh9 B4
 obtain ⟨c0,c1,c2,c3,c4,c5⟩ := cells_six k2
 obtain ⟨f0,f1,f2,f3,f4,f5,f6⟩ := cells_seven k9
 go_wp2_with fail
 refine wp_region_shapes (fun ix => ([.val (.agg #[B8 m,.int .u32 (D : Nat),.int .u32 (nx : Nat),B8 m,.slice p j c,.int .u64 (s : Nat),.slice qy ty cy]),.val (.pointer (some ⟨gs,0,none⟩)),.val (.pointer (some ⟨gs,0,none⟩)),.val (.pointer (some ⟨gs,0,none⟩)),.val (PVal L t k D),(ShSRF 5 (w.heap.size) (O) (0)),(ShSRF 5 (w.heap.size) (O) (0)),(ShF 5 (w.heap.size) (O)),.val (.int .i64 0),(ShF 5 (w.heap.size) (O)),.val (.int .i64 0)][ix]?).getD (.any)) 79 rfl (by kernel_rfl) (by decide +kernel) (by decide +kernel) (by decide +kernel) ?_ ?_
 ·refine ⟨?_,?_,?_,?_,?_,?_,?_,?_,?_,?_,?_,trivial⟩
  ·intro a W hb0 hs hp hi; have hb := undrew hb0; clear hb0
   have tt : sl a 9 = .pointer (some ⟨g9,0,none⟩) := hi 9 (by decide)
   have dd0 := (hb.cell (p := ⟨g9,0,none⟩) (lt_of_cell f0)).trans f0
   have dd1 := (hb.cell (p := ⟨g9,1,none⟩) (lt_of_cell f1)).trans f1
   have dd2 := (hb.cell (p := ⟨g9,2,none⟩) (lt_of_cell f2)).trans f2
   have dd3 := (hb.cell (p := ⟨g9,3,none⟩) (lt_of_cell f3)).trans f3
   have dd4 := (hb.cell (p := ⟨g9,4,none⟩) (lt_of_cell f4)).trans f4
   have dd5 := (hb.cell (p := ⟨g9,5,none⟩) (lt_of_cell f5)).trans f5
   have dd6 := (hb.cell (p := ⟨g9,6,none⟩) (lt_of_cell f6)).trans f6
   refine ite_y rfl (wp_val (.agg #[B8 m,.int .u32 (D : Nat),.int .u32 (nx : Nat),B8 m,.slice p j c,.int .u64 (s : Nat),.slice qy ty cy]) ?_ ?_)
   ·simp only [execOp,eval_tmp,tt]; simp [go_sem,dd0,dd1,dd2,dd3,dd4,dd5,dd6]
   ·exact ⟨_,rfl,Below.refl _ _,rfl⟩
  ·intro a W hb0 hs hp hi; have hb := undrew hb0; clear hb0
   have t0 : sl a 0 = .pointer (some ⟨gs,0,none⟩) := hi 0 (by decide)
   exact ite_y rfl (wp_val (sl a 0) rfl ⟨_,rfl,Below.refl _ _,t0⟩)
  ·intro a W hb0 hs hp hi; have hb := undrew hb0; clear hb0
   have tt : sl a 61 = .pointer (some ⟨gs,0,none⟩) := hp 1 (by decide)
   refine ite_y rfl (wp_val (.pointer (some ⟨gs,0,none⟩)) ?_ ?_)
   ·simp only [execOp,eval_tmp,tt]; simp [go_sem]
   ·exact ⟨_,rfl,Below.refl _ _,rfl⟩
  ·intro a W hb0 hs hp hi; have hb := undrew hb0; clear hb0
   have tt : sl a 62 = .pointer (some ⟨gs,0,none⟩) := hp 2 (by decide)
   refine ite_y rfl (wp_val (.pointer (some ⟨gs,0,none⟩)) ?_ ?_)
   ·simp only [execOp,eval_tmp,tt]; simp [go_sem]
   ·exact ⟨_,rfl,Below.refl _ _,rfl⟩
  ·intro a W hb0 hs hp hi; have hb := undrew hb0; clear hb0
   have tt : sl a 63 = .pointer (some ⟨gs,0,none⟩) := hp 3 (by decide)
   have d0' := (hb.cell (p := ⟨gs,0,none⟩) (lt_of_cell c0)).trans c0
   have d1' := (hb.cell (p := ⟨gs,1,none⟩) (lt_of_cell c1)).trans c1
   have d2' := (hb.cell (p := ⟨gs,2,none⟩) (lt_of_cell c2)).trans c2
   have d3' := (hb.cell (p := ⟨gs,3,none⟩) (lt_of_cell c3)).trans c3
   refine ite_y rfl (wp_val (PVal L t k D) ?_ ?_)
   ·simp only [execOp,eval_tmp,tt]; simp [go_sem,d0',d1',d2',d3']
   ·exact ⟨_,rfl,Below.refl _ _,rfl⟩
  ·intro a W hb0 hs hp hi; have hb := undrew hb0; clear hb0
   have t60 : sl a 60 = .agg #[B8 m,.int .u32 (D : Nat),.int .u32 (nx : Nat),B8 m,.slice p j c,.int .u64 (s : Nat),.slice qy ty cy] := hp 0 (by decide)
   have t64 : sl a 64 = PVal L t k D := hp 4 (by decide)
   refine ite_y rfl (wp_enter 76 #[PkVal m D nx m p j c s qy ty cy,PVal L t k D] ?_ (hWr.out _ _ _ _ HTY.out (HX5.out.keep hb) (HY5.out.keep hb) (HT5.out.keep hb)) ?_)
   ·simp only [execOp,resolve,List.map_toArray,List.map,eval_tmp,eval_func,eval_const,t60,t64]; simp [go_sem]
   ·rintro e W' ⟨q5,n5,g5,rfl,o5,hw⟩; exact ⟨_,rfl,_,rfl,hw,q5,n5,g5,rfl,o5.mono (Nat.le_trans HB5.out.size hb.size)⟩
  ·intro a W hb0 hs hp hi; have hb := undrew hb0; clear hb0
   exact ite_y rfl (wp_val (sl a 65) rfl ⟨_,rfl,Below.refl _ _,hp 5 (by decide)⟩)
  ·intro a W hb0 hs hp hi; have hb := undrew hb0; clear hb0
   have tt : SRTF 5 (w.heap.size) (O) (0) (sl a 59) W := hp 6 (by decide)
   obtain ⟨q5,n5,g5,tt,z5⟩ := tt
   refine ite_y rfl (wp_val (.slice q5 n5 g5) ?_ ?_)
   ·simp only [execOp,eval_tmp,tt]; rfl
   ·exact ⟨_,rfl,Below.refl _ _,q5,n5,g5,rfl,z5⟩
  ·intro a W hb0 hs hp hi; have hb := undrew hb0; clear hb0
   have tt : SRTF 5 (w.heap.size) (O) (0) (sl a 59) W := hp 6 (by decide)
   obtain ⟨q5,n5,g5,tt,z5⟩ := tt
   refine ite_y rfl (wp_val (.int .i64 0) ?_ ?_)
   ·simp only [execOp,eval_tmp,tt]; rfl
   ·exact ⟨_,rfl,Below.refl _ _,rfl⟩
  ·intro a W hb0 hs hp hi; have hb := undrew hb0; clear hb0
   exact ite_y rfl (wp_val (sl a 66) rfl ⟨_,rfl,Below.refl _ _,hp 7 (by decide)⟩)
  ·intro a W hb0 hs hp hi; have hb := undrew hb0; clear hb0
   have t67 : sl a 67 = .int .i64 0 := hp 8 (by decide)
   exact ite_y rfl (wp_val (sl a 67) rfl ⟨_,rfl,Below.refl _ _,t67⟩)
 intro a w6 hb hs hd hI ht
 have ha := act_is [60,61,62,63,64,65,59,66,67,10,7] hs hd ht (by decide)
 have t7 : sl a 7 = .int .i64 0 := hI 10 (by decide)
 have y10 : (ShF 5 (w.heap.size) (O)).ok (sl a 10) w6 := hI 9 (by decide)
 obtain ⟨q10,n10,c10,t10,z10⟩ := y10
 simp only [List.foldl,t7,t10] at ha
 generalize sl a 60 = u60 at ha
 generalize sl a 61 = u61 at ha
 generalize sl a 62 = u62 at ha
 generalize sl a 63 = u63 at ha
 generalize sl a 64 = u64 at ha
 generalize sl a 65 = u65 at ha
 generalize sl a 59 = u59 at ha
 generalize sl a 66 = u66 at ha
 generalize sl a 67 = u67 at ha
 simp only [Act.put,List.setIfInBounds_toArray,List.set_cons_zero,List.set_cons_succ] at ha
 rw [ha]
 clear ha hI ht
 have k2' := (hb.block _ (lt_of_block k2)).trans k2
 have HB6 := Lib.hid (bl HB5.out hb HB5.out.size)
 have HO := Lib.hid z10
 obtain ⟨x0,x1,x2,x3,x4,x5⟩ := cells_six k2'
 have z5 := frozen_of_row _ _ 5 _ _ k2'
 clear hb z10 c0 c1 c2 c3 c4 c5 f0 f1 f2 f3 f4 f5 f6 k2 k9
 go_wp2
 go_ret2
 refine ⟨⟨q10,n10,c10,rfl,HO.out.cell k2' (by decide)⟩,⟨q10,n10,c10,rfl,(HO.out.cell k2' (by decide)).sl,⟨HS.out.ok,⟨qs,cs,hss k2',sl2_noByte (HSX.out.keep HB6.out) HQS.out k2' noByte6,HQS.out⟩,HS.out.fit⟩,(GChg.of gs HB6.out).set _⟩,fun q c h => ?_⟩
 rw [HBX0.out] at h
 cases h
 exact hss k2'
end Go.Proofs.YtfbmdlfkipipfaaGreatDoor
namespace Go.By
open Go
section
variable {P : Program} (w : World)
end
end Go.By
namespace Go.Proofs.YtfbmdlfkipipfaaGreatDoor
open Go.RowKit Go.By Go.Maps
end Go.Proofs.YtfbmdlfkipipfaaGreatDoor
