/- slices.IndexFunc of rows; the closure of Inverse. The rows of Inverse in memory: one block of n rows. Rows that lead,reduced: what they span tells them; a row more,as a system of equations puts it. A row more into reduced rows (putF); reduced rows out of rows that lead by rising places (backB); both are the same. The document's reduced rows: one behind the other cleared,in place; they are the system's. The contracts of the reference's Same of layer 3,and of a law's rows: made,and as the document's. The contract of a grid's Turned. The contracts of grid.Of where rows fit,or are uneven. The contract of the law's Made. The contract of a grid's Mul. A region that draws its order,with two stores (an exchange): each value that comes up is told ahead; the world is one of two till the last store. A system of equations in memory; New,Size,Rank. Small parts of chapter 8's law; the reference's rows in one block. A drawn region with one store into a block of its own: a row in new memory. The contract of the reference's Rows of chapter 8: each equation put in by Insert,then cleared in place. The contract of the reference's Rest of chapter 8. The contract of a system's Rest. The contract of sort.Search. The contract of slices.Insert at rows: one more. The contract of slices.Insert at rows: one more,in the middle,where there is no room. Rows of a system in memory: one more,by slices.Insert; one in the place of another. -/
import Derived.Test.YtfbmdlfkipipfaaGreatDoorZf5
import Derived.Deep.RegionWith
import Derived.Laws.CopyOwn
import Derived.BigRegion
import Derived.Deep.RegionLaw
import Derived.Lib.Overlaps
import Derived.Shelf.Spec.SlicesInsertGrow
import Derived.Lib.AppendZerosOnto
namespace Go.Proofs.YtfbmdlfkipipfaaGreatDoor
open Go.RowKit Go.By
set_option maxHeartbeats 400000 in
theorem IndexRow_any (f : Rw → Bool) (g : Nat) (lb : Array Value) (eg : Enters Tryz.prog g) (p : Option Addr) (n c : Nat) (K : List Rw) (w : World) (h : RwS w p n c K)
  (hf : ∀ (W : World) (q1 q2 : Option Addr) (m1 c1 m2 c2 : Nat) (x : Rw),Below w.heap.size w W → Sl B8 W q1 m1 c1 x.1 → Calls Tryz.prog g (#[.agg #[.slice q1 m1 c1,.slice q2 m2 c2]] ++ lb) W fun e w' => e = .returned (.bool (f x)) ∧ Below W.heap.size W w') :
  Calls Tryz.prog 167 #[.slice p n c,.func (.func g) #[] lb] w fun e w' => e = .returned (.int .i64 (idxf f K)) ∧ Below w.heap.size w w' := by
 have hn := Nat.le_trans h.le h.max
 unfold maxLen at hn
 have H := Lib.hid h; clear h
 have HF := Lib.hid hf; clear hf
 have eg' : ∀ args w,(callFunc g args).run Tryz.prog w = .ok (.enter g args) w := eg
 clear eg
 go_enter Tryz.func167,Tryz.ntmps167
 go_wp2
 go_loopw [8] (fun i wr => ∃ k : Nat,k ≤ n ∧ i = .int .i64 k ∧ Hid (∀ j y,j < k → K[j]? = some y → f y = false) ∧ Hid (Below w.heap.size w wr)) (fun i _ => n - (intOf i).toNat)
 case atStart => exact ⟨0,Nat.zero_le _,rfl,fun j y hj => by omega,Below.refl _ _⟩
 case round =>
  obtain ⟨k,hk,rfl,hr,hB⟩ := hrel
  by_cases hlt : k < n
  ·obtain ⟨x,hx⟩ : ∃ x,K[k]? = some x := ⟨_,List.getElem?_eq_getElem (by rw [H.out.len]; exact hlt)⟩
   obtain ⟨b,o,q1,m1,c1,q2,m2,c2,rfl,h1,h2,h3,-⟩ := H.out.row k x hx
   have d1 := (hB.out.cell (p := ⟨b,o + k * 2,none⟩) (lt_of_cell h1)).trans h1
   have d2 := (hB.out.cell (p := ⟨b,o + k * 2 + 1,none⟩) (lt_of_cell h2)).trans h2
   have HX := Lib.hid hx
   have HS : Hid (Sl B8 wr q1 m1 c1 x.1) := h3.keep hB.out
   have kn : (k : Int) < (n : Int) := by omega
   clear h1 h2 h3 hx
   cases hfx : f x with
   | false =>
    have HQ := Lib.hid hfx; clear hfx
    go_wp2_with fail
    refine (HF.out wr q1 q2 m1 c1 m2 c2 x hB.out HS.out).mono ?_; rintro e w2 ⟨rfl,hb2⟩
    have B2 : Hid (Below w.heap.size w w2) := bl hB.out hb2 hB.out.size
    rw [HQ.out]
    clear hb2 d1 d2 hB HS
    go_wp2
    go_roundw
    case rel =>
     refine ⟨k + 1,by omega,by go_num,fun j y hj hy => ?_,B2.out⟩
     by_cases e : j = k
     ·subst e; have := HX.out.symm.trans hy; cases this; exact HQ.out
     ·exact hr.out j y (by omega) hy
    case measure => simp [intOf]; omega
   | true =>
    have HQ := Lib.hid hfx; clear hfx
    go_wp2_with fail
    refine (HF.out wr q1 q2 m1 c1 m2 c2 x hB.out HS.out).mono ?_; rintro e w2 ⟨rfl,hb2⟩
    have B2 : Hid (Below w.heap.size w w2) := bl hB.out hb2 hB.out.size
    rw [HQ.out]
    clear hb2 d1 d2 hB HS
    go_wp2
    go_ret
    exact ⟨by rw [idxf_found HX.out HQ.out hr.out]; rfl,B2.out⟩
  ·go_wp2
   go_ret
   exact ⟨by rw [idxf_none (k := k) (by have := H.out.len; omega) hr.out]; rfl,hB.out⟩
end Go.Proofs.YtfbmdlfkipipfaaGreatDoor
namespace Go.Proofs.YtfbmdlfkipipfaaGreatDoor
open Go.RowKit Go.By
end Go.Proofs.YtfbmdlfkipipfaaGreatDoor
namespace Go.Proofs.YtfbmdlfkipipfaaGreatDoor
open Go.By Gf
def vR (r : Rw) : V := vf (cat r)
structure Red (n t : Nat) (K : List Rw) : Prop where
 kept : KeptS n t K
 red : K.Pairwise (fun a b => vR a (leadN b) = 0)
theorem Red.nil (n t : Nat) : Red n t [] := ⟨KeptS.nil n t,List.Pairwise.nil⟩
theorem KeptS.tail {n t : Nat} {k : Rw} {K : List Rw} (h : KeptS n t (k :: K)) : KeptS n t K := ⟨fun a ha => h.rows a (by simp [ha]),(List.pairwise_cons.1 h.sorted).2⟩
theorem Red.tail {n t : Nat} {k : Rw} {K : List Rw} (h : Red n t (k :: K)) : Red n t K := ⟨h.kept.tail,(List.pairwise_cons.1 h.red).2⟩
theorem vR_lead {n t : Nat} {r : Rw} (hf : Fit n t r) (hl : Led r) : vR r (leadN r) = 1 := vf_lead hl.at hf
theorem coords_red {n t : Nat} : ∀ {K : List Rw} {v : V},Red n t K → Sp (K.map vR) v → v = comb (K.map fun k => v (leadN k)) (K.map vR)
 | [],v,_,⟨c,hc,e⟩ => by rw [e]; funext j; rw [List.map_nil,comb_nil,List.map_nil,comb_nil]
 | k :: K,v,h,⟨c,hc,e⟩ => by
  cases c with
  | nil => simp at hc
  | cons x c =>
   obtain ⟨hf,hl⟩ := h.kept.rows k (by simp)
   have hs := (List.pairwise_cons.1 h.kept.sorted).1
   have hr := (List.pairwise_cons.1 h.red).1
   have hu : Sp (K.map vR) (comb c (K.map vR)) := ⟨c,by simpa using hc,rfl⟩
   have hv : ∀ j,v j = gmul x (vR k j) ^^^ comb c (K.map vR) j := fun j => by rw [e,List.map_cons,comb_cons]
   have h0 : comb c (K.map vR) (leadN k) = 0 := hu.at_zero fun a ha => by
    obtain ⟨b,hb,rfl⟩ := List.mem_map.1 ha
    exact vf_before (h.kept.rows b (by simp [hb])).1 (h.kept.rows b (by simp [hb])).2 (hs b hb)
   have hx : v (leadN k) = x := by rw [hv,vR_lead hf hl,gmul_one,h0,xor_zero]
   have hc2 : (K.map fun b => v (leadN b)) = K.map fun b => comb c (K.map vR) (leadN b) := List.map_congr_left fun b hb => by
    rw [hv,hr b hb,gmul_zero,zero_xor]
   have ih := coords_red h.tail hu
   funext j
   rw [List.map_cons,List.map_cons,comb_cons,hx,hc2,← ih,hv]
theorem comb_map_zero {α : Type} (f : α → UInt8) (g : α → V) (j : Nat) : ∀ (K : List α),(∀ k,k ∈ K → gmul (f k) (g k j) = 0) → comb (K.map f) (K.map g) j = 0
 | [],_ => by rw [List.map_nil,comb_nil']
 | k :: K,h => by rw [List.map_cons,List.map_cons,comb_cons,h k (by simp),comb_map_zero f g j K (fun a ha => h a (by simp [ha])),xor_self]
theorem lead_red {n t l : Nat} {K : List Rw} {v : V} (h : Red n t K) (hv : Sp (K.map vR) v) (h0 : ∀ j,j < l → v j = 0) (h1 : v l ≠ 0) : ∃ k,k ∈ K ∧ leadN k = l := by
 apply Classical.byContradiction
 intro hn
 refine h1 ?_
 rw [coords_red h hv]
 refine comb_map_zero _ _ _ K fun k hk => ?_
 rcases Nat.lt_trichotomy (leadN k) l with g | g | g
 ·rw [h0 _ g,zero_gmul]
 ·exact absurd ⟨k,hk,g⟩ hn
 ·rw [show vR k l = 0 from vf_before (h.kept.rows k hk).1 (h.kept.rows k hk).2 g,gmul_zero]
theorem sorted_ext : ∀ {l m : List Nat},l.Pairwise (· < ·) → m.Pairwise (· < ·) → (∀ x,x ∈ l ↔ x ∈ m) → l = m
 | [],m,_,_,h => by
  cases m with
  | nil => rfl
  | cons b m => exact absurd ((h b).2 (by simp)) (by simp)
 | a :: l,[],_,_,h => absurd ((h a).1 (by simp)) (by simp)
 | a :: l,b :: m,h1,h2,h => by
  obtain ⟨g1,g2⟩ := List.pairwise_cons.1 h1
  obtain ⟨k1,k2⟩ := List.pairwise_cons.1 h2
  have e : a = b := by
   rcases List.mem_cons.1 ((h a).1 (by simp)) with e | e
   ·exact e
   ·rcases List.mem_cons.1 ((h b).2 (by simp)) with e' | e'
    ·exact e'.symm
    ·exact absurd (g1 b e') (by have := k1 a e; omega)
  subst e
  rw [sorted_ext g2 k2 fun x => ⟨fun hx => by
   rcases List.mem_cons.1 ((h x).1 (by simp [hx])) with e | e
   ·subst e; exact absurd (g1 x hx) (Nat.lt_irrefl x)
   ·exact e,fun hx => by
   rcases List.mem_cons.1 ((h x).2 (by simp [hx])) with e | e
   ·subst e; exact absurd (k1 x hx) (Nat.lt_irrefl x)
   ·exact e⟩]
theorem Red.leads {n t : Nat} {K : List Rw} (h : Red n t K) : (K.map leadN).Pairwise (· < ·) := List.pairwise_map.2 h.kept.sorted
theorem Red.delta {n t i j : Nat} {K : List Rw} {a b : Rw} (h : Red n t K) (ha : K[i]? = some a) (hb : K[j]? = some b) : vR a (leadN b) = if i = j then 1 else 0 := by
 have ma := h.kept.rows a (List.mem_of_getElem? ha)
 obtain ⟨hi,ea⟩ := List.getElem?_eq_some_iff.1 ha
 obtain ⟨hj,eb⟩ := List.getElem?_eq_some_iff.1 hb
 rcases Nat.lt_trichotomy i j with g | g | g
 ·rw [if_neg (by omega)]
  have := List.pairwise_iff_getElem.1 h.red i j hi hj g
  rwa [ea,eb] at this
 ·subst g; rw [ha] at hb; cases hb
  rw [if_pos rfl]; exact vR_lead ma.1 ma.2
 ·rw [if_neg (by omega)]
  have := List.pairwise_iff_getElem.1 h.kept.sorted j i hj hi g
  rw [ea,eb] at this
  exact vf_before ma.1 ma.2 this
theorem Red.unique {n t : Nat} {K M : List Rw} (h : Red n t K) (g : Red n t M) (h1 : ∀ k,k ∈ K → Sp (M.map vR) (vR k)) (h2 : ∀ k,k ∈ M → Sp (K.map vR) (vR k)) : K = M := by
 have key : ∀ {A B : List Rw},Red n t A → Red n t B → (∀ k,k ∈ A → Sp (B.map vR) (vR k)) → ∀ x,x ∈ A.map leadN → x ∈ B.map leadN := by
  intro A B hA hB hs x hx
  obtain ⟨a,ha,rfl⟩ := List.mem_map.1 hx
  obtain ⟨hf,hl⟩ := hA.kept.rows a ha
  obtain ⟨b,hb,e⟩ := lead_red hB (hs a ha) (l := leadN a) (fun j hj => vf_before hf hl hj) (by rw [vR_lead hf hl]; decide)
  exact List.mem_map.2 ⟨b,hb,e⟩
 have hl : K.map leadN = M.map leadN := sorted_ext h.leads g.leads fun x => ⟨key h g h1 x,key g h h2 x⟩
 have hlen : K.length = M.length := by have := congrArg List.length hl; simpa using this
 have lead_at : ∀ {i : Nat} {a b : Rw},K[i]? = some a → M[i]? = some b → leadN a = leadN b := by
  intro i a b ha hb
  have := congrArg (fun l => l[i]?) hl
  simp only [List.getElem?_map,ha,hb,Option.map_some] at this
  injection this
 apply List.ext_getElem?
 intro i
 by_cases hi : i < K.length
 ·have ha : K[i]? = some K[i] := List.getElem?_eq_getElem hi
  have hb : M[i]? = some (M[i]'(by omega)) := List.getElem?_eq_getElem (by omega)
  rw [ha,hb]
  congr 1
  obtain ⟨f1,-⟩ := h.kept.rows _ (List.mem_of_getElem? ha)
  obtain ⟨f2,-⟩ := g.kept.rows _ (List.mem_of_getElem? hb)
  have e1 := coords_red h (v := vR K[i]) (Sp.mem (List.mem_map.2 ⟨_,List.mem_of_getElem? ha,rfl⟩))
  have e2 := coords_red h (h2 _ (List.mem_of_getElem? hb))
  have e3 : (K.map fun k => vR K[i] (leadN k)) = K.map fun k => vR (M[i]'(by omega)) (leadN k) := by
   apply List.map_congr_left
   intro k hk
   obtain ⟨j,hj,rfl⟩ := List.getElem_of_mem hk
   have hkj : K[j]? = some K[j] := List.getElem?_eq_getElem hj
   have hmj : M[j]? = some (M[j]'(by omega)) := List.getElem?_eq_getElem (by omega)
   rw [h.delta ha hkj,lead_at hkj hmj,g.delta hb hmj]
  have ev : vR K[i] = vR (M[i]'(by omega)) := by rw [e1,e2,e3]
  have hc : cat K[i] = cat (M[i]'(by omega)) := vf_inj (by rw [f1.cat,f2.cat]) fun j _ => by
   have := congrFun ev j; exact this
  have l1 : (K[i]).1.length = ((M[i]'(by omega)) : Rw).1.length := by rw [f1.1,f2.1]
  unfold cat at hc
  obtain ⟨p1,p2⟩ := List.append_inj hc l1
  exact Prod.ext p1 p2
 ·rw [List.getElem?_eq_none (by omega),List.getElem?_eq_none (by omega)]
end Go.Proofs.YtfbmdlfkipipfaaGreatDoor
namespace Go.Proofs.YtfbmdlfkipipfaaGreatDoor
open Go.By Gf
theorem leadAt_of {n t l : Nat} {r : Rw} (hf : Fit n t r) (hl : l < n) (h1 : vR r l = 1) (h0 : ∀ j,j < l → vR r j = 0) : LeadAt r l := by
 have hv : ∀ j,j < n → ∀ y,r.1[j]? = some y → vR r j = y := fun j hj y hy => by
  show vf (cat r) j = y
  rw [vf_at hf hj,at_of hy]
 have hx : r.1[l]? = some (r.1[l]'(by rw [hf.1]; exact hl)) := List.getElem?_eq_getElem (by rw [hf.1]; exact hl)
 have e1 : r.1[l]'(by rw [hf.1]; exact hl) = 1 := by rw [← hv l hl _ hx]; exact h1
 rw [e1] at hx
 have hz : ∀ (j : Nat) (y : UInt8),j < l → r.1[j]? = some y → y = 0 := fun j y hj hy => by rw [← hv j (by omega) y hy]; exact h0 j hj
 exact ⟨idxf_found hx (by decide) fun j y hj hy => by rw [hz j y hj hy]; rfl,hx,hz⟩
theorem vR_less {n t : Nat} {x o : Rw} (c : UInt8) (hx : Fit n t x) (ho : Fit n t o) : vR (lessF x c o) = fun j => vR x j ^^^ gmul c (vR o j) := by
 unfold vR; rw [cat_less c hx ho,vf_axpy (by rw [ho.cat,hx.cat])]
theorem vR_at {n t l : Nat} {x : Rw} (hx : Fit n t x) (hl : l < n) : atS x.1 (l : Int) = vR x l := (vf_at hx hl).symm
theorem rest_norm {n t : Nat} {K : List Rw} {x : Rw} (h : KeptS n t K) (hx : Fit n t x) (hn : ¬ leadS (restF K x).1 < 0) :
  ∃ l,LeadAt (normS (restF K x)) l ∧ Fit n t (normS (restF K x)) ∧ (∀ k,k ∈ K → vR (normS (restF K x)) (leadN k) = 0) ∧ Sp (vR x :: K.map vR) (vR (normS (restF K x))) ∧ ∃ d,Sp (K.map vR) (fun j => vR x j ^^^ gmul d (vR (normS (restF K x)) j)) := by
 have hr := hx.rest (fun k hk => (h.rows k hk).1)
 have hred := rest_red h.rows hx
 have hspan := red_span (tri K) (vf (cat x))
 rw [tri_fst] at hspan
 obtain ⟨l,c,hc,hl,hL,hF,hv⟩ := norm_row hr hn
 refine ⟨l,hL,hF,fun k hk => ?_,?_,ginv c,?_⟩
 ·show vf (cat _) _ = 0
  rw [hv]
  show gmul c (vf (cat (restF K x)) (leadN k)) = 0
  rw [hred,red_at h.kept.tri (vf (cat k),leadN k) (List.mem_map.2 ⟨k,hk,rfl⟩),gmul_zero]
 ·show Sp _ (vf (cat _))
  rw [hv,hred]
  refine Sp.scale c ?_
  have e : red (tri K) (vf (cat x)) = fun j => vf (cat x) j ^^^ (vf (cat x) j ^^^ red (tri K) (vf (cat x)) j) := by funext j; rw [← xor_assoc,xor_self,zero_xor]
  rw [e]
  exact Sp.add (Sp.mem (by simp [vR])) (hspan.cons _)
 ·have e : (fun j => vR x j ^^^ gmul (ginv c) (vR (normS (restF K x)) j)) = fun j => vf (cat x) j ^^^ red (tri K) (vf (cat x)) j := by
   funext j
   show _ ^^^ gmul (ginv c) (vf (cat (normS (restF K x))) j) = _
   rw [hv,hred]
   show _ ^^^ gmul (ginv c) (gmul c _) = _
   rw [← gmul_assoc,ginv_gmul c hc,one_gmul]; rfl
  rw [e]; exact hspan
theorem ne_lead {n t l : Nat} {K : List Rw} {y : Rw} (hL : LeadAt y l) (hF : Fit n t y) (h0 : ∀ k,k ∈ K → vR y (leadN k) = 0) : ∀ k,k ∈ K → leadN k ≠ l := fun k hk e => by
 have h1 : vR y l = 1 := vf_lead hL hF
 rw [← e,h0 k hk] at h1
 exact absurd h1 (by decide)
def putAt (M : List Rw) (y : Rw) : List Rw := M.takeWhile (fun r => decide (leadS r.1 ≤ leadS y.1)) ++ y :: M.dropWhile (fun r => decide (leadS r.1 ≤ leadS y.1))
theorem putAt_mem {M : List Rw} {y k : Rw} : k ∈ putAt M y ↔ k = y ∨ k ∈ M := by
 unfold putAt
 rw [List.mem_append,List.mem_cons]
 conv => rhs; rw [← List.takeWhile_append_dropWhile (p := fun r : Rw => decide (leadS r.1 ≤ leadS y.1)) (l := M),List.mem_append]
 constructor
 ·rintro (h | h | h)
  ·exact .inr (.inl h)
  ·exact .inl h
  ·exact .inr (.inr h)
 ·rintro (h | h | h)
  ·exact .inr (.inl h)
  ·exact .inl h
  ·exact .inr (.inr h)
theorem putAt_kept {n t l : Nat} {M : List Rw} {y : Rw} (h : KeptS n t M) (hL : LeadAt y l) (hF : Fit n t y) (hne : ∀ k,k ∈ M → leadN k ≠ l) : KeptS n t (putAt M y) := by
 refine ⟨fun k hk => ?_,?_⟩
 ·rcases putAt_mem.1 hk with rfl | hk
  ·exact ⟨hF,l,hL⟩
  ·exact h.rows k hk
 unfold putAt
 have hln := leadN_of hL
 rw [hL.1]
 have hlead : ∀ k,k ∈ M → leadS k.1 = (leadN k : Int) := fun k hk => (h.rows k hk).2.at.1
 have hs : (M.takeWhile (fun r => decide (leadS r.1 ≤ (l : Int))) ++ M.dropWhile (fun r => decide (leadS r.1 ≤ (l : Int)))).Pairwise (fun a b => leadN a < leadN b) := by
  rw [List.takeWhile_append_dropWhile]; exact h.sorted
 have mT : ∀ k,k ∈ M.takeWhile (fun r => decide (leadS r.1 ≤ (l : Int))) → leadN k < l := by
  intro k hk
  have h1 := (List.takeWhile_sublist _).mem hk
  have := mem_take hk
  rw [decide_eq_true_eq,hlead k h1] at this
  have := hne k h1
  omega
 obtain ⟨h1,h2,h3⟩ := List.pairwise_append.1 hs
 have mD : ∀ k,k ∈ M.dropWhile (fun r => decide (leadS r.1 ≤ (l : Int))) → l < leadN k := by
  cases e : M.dropWhile (fun r => decide (leadS r.1 ≤ (l : Int))) with
  | nil => intro k hk; simp at hk
  | cons a r =>
   have ha : a ∈ M := (List.dropWhile_sublist _).mem (by rw [e]; simp)
   have hd := drop_head e
   rw [decide_eq_false_iff_not,hlead a ha] at hd
   have hla : l < leadN a := by omega
   rw [e] at h2
   intro k hk
   rcases List.mem_cons.1 hk with rfl | hk
   ·exact hla
   ·exact Nat.lt_trans hla ((List.pairwise_cons.1 h2).1 k hk)
 refine List.pairwise_append.2 ⟨h1,List.pairwise_cons.2 ⟨fun k hk => by rw [hln]; exact mD k hk,h2⟩,?_⟩
 intro a ha b hb
 rcases List.mem_cons.1 hb with rfl | hb
 ·rw [hln]; exact mT a ha
 ·exact h3 a ha b hb
def clrF (y r : Rw) : Rw := lessF r (atS r.1 (leadS y.1)) y
def putF (K : List Rw) (x : Rw) : List Rw := putAt (K.map (clrF (normS (restF K x)))) (normS (restF K x))
theorem clr_row {n t l : Nat} {y r : Rw} (hL : LeadAt y l) (hF : Fit n t y) (hr : Fit n t r) (hl : Led r) (h0 : vR y (leadN r) = 0) : Fit n t (clrF y r) ∧ LeadAt (clrF y r) (leadN r) ∧ vR (clrF y r) = (fun j => vR r j ^^^ gmul (vR r l) (vR y j)) ∧ vR (clrF y r) l = 0 := by
 have hln := hL.lt hF
 have e : clrF y r = lessF r (vR r l) y := by unfold clrF; rw [hL.1,vR_at hr hln]
 have hv : vR (clrF y r) = fun j => vR r j ^^^ gmul (vR r l) (vR y j) := by rw [e,vR_less _ hr hF]
 have hf : Fit n t (clrF y r) := by rw [e]; exact hr.less hF
 have y1 : vR y l = 1 := vf_lead hL hF
 refine ⟨hf,leadAt_of hf (hl.at.lt hr) ?_ fun j hj => ?_,hv,?_⟩
 ·rw [hv]; show _ ^^^ gmul _ (vR y (leadN r)) = 1
  rw [h0,gmul_zero,xor_zero]; exact vR_lead hr hl
 ·rw [hv]; show vR r j ^^^ gmul (vR r l) (vR y j) = 0
  rw [show vR r j = 0 from vf_before hr hl hj,zero_xor]
  rcases Nat.lt_or_ge l (leadN r) with g | g
  ·rw [show vR r l = 0 from vf_before hr hl g,zero_gmul]
  ·have hyL : Led y := ⟨l,hL⟩
   have : vR y j = 0 := vf_before hF hyL (by rw [leadN_of hL]; omega)
   rw [this,gmul_zero]
 ·rw [hv]; show vR r l ^^^ gmul (vR r l) (vR y l) = 0
  rw [y1,gmul_one,xor_self]
theorem putF_red {n t : Nat} {K : List Rw} {x : Rw} (h : Red n t K) (hx : Fit n t x) (hn : ¬ leadS (restF K x).1 < 0) :
  Red n t (putF K x) ∧ (∀ k,k ∈ putF K x → Sp (vR x :: K.map vR) (vR k)) ∧ (∀ k,k ∈ K → Sp ((putF K x).map vR) (vR k)) ∧ Sp ((putF K x).map vR) (vR x) ∧ (putF K x).length = K.length + 1 := by
 obtain ⟨l,hL,hF,h0,hsp,d,hd⟩ := rest_norm h.kept hx hn
 have hne := ne_lead hL hF h0
 have hclr := fun r (hr : r ∈ K) => clr_row hL hF (h.kept.rows r hr).1 (h.kept.rows r hr).2 (h0 r hr)
 obtain ⟨y,hy⟩ : ∃ y,y = normS (restF K x) := ⟨_,rfl⟩
 unfold putF
 rw [← hy] at hL hF h0 hsp hd hclr ⊢
 have hlead : ∀ r,r ∈ K → leadN (clrF y r) = leadN r := fun r hr => leadN_of (hclr r hr).2.1
 have hM : KeptS n t (K.map (clrF y)) := by
  refine ⟨fun k hk => ?_,List.pairwise_map.2 (h.kept.sorted.imp_of_mem fun {a b} ha hb hab => by rw [hlead a ha,hlead b hb]; exact hab)⟩
  obtain ⟨r,hr,rfl⟩ := List.mem_map.1 hk
  exact ⟨(hclr r hr).1,_,(hclr r hr).2.1⟩
 have hneM : ∀ k,k ∈ K.map (clrF y) → leadN k ≠ l := fun k hk => by
  obtain ⟨r,hr,rfl⟩ := List.mem_map.1 hk
  rw [hlead r hr]; exact hne r hr
 have hyM : ∀ k,k ∈ K.map (clrF y) → vR y (leadN k) = 0 ∧ vR k l = 0 := fun k hk => by
  obtain ⟨r,hr,rfl⟩ := List.mem_map.1 hk
  rw [hlead r hr]; exact ⟨h0 r hr,(hclr r hr).2.2.2⟩
 have hrM : (K.map (clrF y)).Pairwise (fun a b => vR a (leadN b) = 0) := List.pairwise_map.2 (h.red.imp_of_mem fun {a b} ha hb hab => by
  rw [hlead b hb,(hclr a ha).2.2.1]
  show vR a (leadN b) ^^^ gmul _ (vR y (leadN b)) = 0
  rw [hab,h0 b hb,gmul_zero,xor_self])
 have inP : ∀ {k : Rw},k = y ∨ k ∈ K.map (clrF y) → Sp ((putAt (K.map (clrF y)) y).map vR) (vR k) := fun hk => Sp.mem (List.mem_map.2 ⟨_,putAt_mem.2 hk,rfl⟩)
 have back : ∀ k,k ∈ K → Sp ((putAt (K.map (clrF y)) y).map vR) (vR k) := fun k hk => by
  have e : vR k = fun j => vR (clrF y k) j ^^^ gmul (vR k l) (vR y j) := by
   funext j
   rw [(hclr k hk).2.2.1]
   show _ = (vR k j ^^^ gmul (vR k l) (vR y j)) ^^^ gmul (vR k l) (vR y j)
   rw [xor_cancel]
  rw [e]
  exact Sp.add (inP (.inr (List.mem_map.2 ⟨k,hk,rfl⟩))) (Sp.scale _ (inP (.inl rfl)))
 refine ⟨⟨putAt_kept hM hL hF hneM,?_⟩,fun k hk => ?_,back,?_,?_⟩
 ·unfold putAt
  have hs := hrM
  rw [← List.takeWhile_append_dropWhile (p := fun r : Rw => decide (leadS r.1 ≤ leadS y.1)) (l := K.map (clrF y))] at hs
  obtain ⟨g1,g2,g3⟩ := List.pairwise_append.1 hs
  refine List.pairwise_append.2 ⟨g1,List.pairwise_cons.2 ⟨fun b hb => (hyM b ((List.dropWhile_sublist _).mem hb)).1,g2⟩,fun a ha b hb => ?_⟩
  rcases List.mem_cons.1 hb with rfl | hb
  ·rw [leadN_of hL]; exact (hyM a ((List.takeWhile_sublist _).mem ha)).2
  ·exact g3 a ha b hb
 ·rcases putAt_mem.1 hk with rfl | hk
  ·exact hsp
  ·obtain ⟨r,hr,rfl⟩ := List.mem_map.1 hk
   rw [(hclr r hr).2.2.1]
   exact Sp.add (Sp.mem (List.mem_cons_of_mem _ (List.mem_map.2 ⟨r,hr,rfl⟩))) (Sp.scale _ hsp)
 ·have e : vR x = fun j => (vR x j ^^^ gmul d (vR y j)) ^^^ gmul d (vR y j) := by funext j; rw [xor_cancel]
  rw [e]
  refine Sp.add (Sp.trans (fun a ha => ?_) hd) (Sp.scale _ (inP (.inl rfl)))
  obtain ⟨k,hk,rfl⟩ := List.mem_map.1 ha
  exact back k hk
 ·unfold putAt
  rw [List.length_append,List.length_cons]
  have := congrArg List.length (List.takeWhile_append_dropWhile (p := fun r : Rw => decide (leadS r.1 ≤ leadS y.1)) (l := K.map (clrF y)))
  rw [List.length_append,List.length_map] at this
  omega
theorem insF_span {n t : Nat} {K : List Rw} {x : Rw} (h : KeptS n t K) (hx : Fit n t x) (hn : ¬ leadS (restF K x).1 < 0) :
  (∀ k,k ∈ insF K x → Sp (vR x :: K.map vR) (vR k)) ∧ (∀ k,k ∈ K → Sp ((insF K x).map vR) (vR k)) ∧ Sp ((insF K x).map vR) (vR x) := by
 obtain ⟨l,hL,hF,h0,hsp,d,hd⟩ := rest_norm h hx hn
 have hm : ∀ k,k ∈ insF K x ↔ k ∈ K ∨ k = normS (restF K x) := fun k => by
  rw [(ins_perm K x).mem_iff]; unfold keepF; rw [if_neg hn,List.mem_append,List.mem_singleton]
 have inP : ∀ {k : Rw},k ∈ K ∨ k = normS (restF K x) → Sp ((insF K x).map vR) (vR k) := fun hk => Sp.mem (List.mem_map.2 ⟨_,(hm _).2 hk,rfl⟩)
 refine ⟨fun k hk => ?_,fun k hk => inP (.inl hk),?_⟩
 ·rcases (hm k).1 hk with hk | rfl
  ·exact Sp.mem (List.mem_cons_of_mem _ (List.mem_map.2 ⟨k,hk,rfl⟩))
  ·exact hsp
 ·have e : vR x = fun j => (vR x j ^^^ gmul d (vR (normS (restF K x)) j)) ^^^ gmul d (vR (normS (restF K x)) j) := by funext j; rw [xor_cancel]
  rw [e]
  refine Sp.add (Sp.trans (fun a ha => ?_) hd) (Sp.scale _ (inP (.inr rfl)))
  obtain ⟨k,hk,rfl⟩ := List.mem_map.1 ha
  exact inP (.inl hk)
end Go.Proofs.YtfbmdlfkipipfaaGreatDoor
namespace Go.Proofs.YtfbmdlfkipipfaaGreatDoor
open Go.By Gf
def stepB (F : Nat → Rw) (i k : Nat) : Nat → Rw := if k = i then F else updF F i (lessF (F i) (atS (F i).1 (leadS (F k).1)) (F k))
def rowB (i : Nat) : Nat → (Nat → Rw) → (Nat → Rw)
 | 0,F => F
 | k + 1,F => stepB (rowB i k F) i k
def backB (m : Nat) : Nat → (Nat → Rw) → (Nat → Rw)
 | 0,F => F
 | i + 1,F => rowB i m (backB m i F)
structure BI (n t m : Nat) (L : Nat → Nat) (W : List V) (F : Nat → Rw) (i k : Nat) : Prop where
 good : ∀ a,a < m → Fit n t (F a) ∧ LeadAt (F a) (L a)
 done : ∀ a,a < i → a < m → ∀ b,b < m → b ≠ a → vR (F a) (L b) = 0
 cur : ∀ b,b < k → b < m → b ≠ i → vR (F i) (L b) = 0
 sp1 : ∀ a,a < m → Sp W (vR (F a))
 sp2 : ∀ v,v ∈ W → Sp ((List.range m).map fun a => vR (F a)) v
theorem BI.led {n t m : Nat} {L : Nat → Nat} {W : List V} {F : Nat → Rw} {i k a : Nat} (h : BI n t m L W F i k) (ha : a < m) : Fit n t (F a) ∧ Led (F a) ∧ leadN (F a) = L a :=
 ⟨(h.good a ha).1,⟨_,(h.good a ha).2⟩,leadN_of (h.good a ha).2⟩
theorem BI.step {n t m : Nat} {L : Nat → Nat} {W : List V} {F : Nat → Rw} {i k : Nat} (h : BI n t m L W F i k) (hL : ∀ a b,a < b → b < m → L a < L b) (hi : i < m) (hk : k < m) : BI n t m L W (stepB F i k) i (k + 1) := by
 unfold stepB
 by_cases hki : k = i
 ·rw [if_pos hki]
  exact ⟨h.good,h.done,fun b hb hbm hne => h.cur b (by omega) hbm hne,h.sp1,h.sp2⟩
 ·rw [if_neg hki]
  obtain ⟨fi,li,ni⟩ := h.led hi
  obtain ⟨fk,lk,nk⟩ := h.led hk
  have hLk : L k < n := (h.good k hk).2.lt fk
  have e : lessF (F i) (atS (F i).1 (leadS (F k).1)) (F k) = lessF (F i) (vR (F i) (L k)) (F k) := by rw [(h.good k hk).2.1,vR_at fi hLk]
  rw [e]
  obtain ⟨Y,hY⟩ : ∃ Y,Y = lessF (F i) (vR (F i) (L k)) (F k) := ⟨_,rfl⟩
  rw [← hY]
  have hv : vR Y = fun j => vR (F i) j ^^^ gmul (vR (F i) (L k)) (vR (F k) j) := by rw [hY,vR_less _ fi fk]
  have fY : Fit n t Y := by rw [hY]; exact fi.less fk
  have vk1 : vR (F k) (L k) = 1 := by rw [← nk]; exact vR_lead fk lk
  have kz : ∀ j,j < L k → vR (F k) j = 0 := fun j hj => vf_before fk lk (by rw [nk]; exact hj)
  have iz : ∀ j,j < L i → vR (F i) j = 0 := fun j hj => vf_before fi li (by rw [ni]; exact hj)
  have vi1 : vR (F i) (L i) = 1 := by rw [← ni]; exact vR_lead fi li
  -- up to where row i leads nothing turns
  have same : ∀ j,j ≤ L i → vR Y j = vR (F i) j := fun j hj => by
   rw [hv]
   show vR (F i) j ^^^ gmul (vR (F i) (L k)) (vR (F k) j) = _
   rcases Nat.lt_or_ge k i with g | g
   ·rw [iz (L k) (hL k i g hi),zero_gmul,xor_zero]
   ·rw [kz j (by have := hL i k (by omega) hk; omega),gmul_zero,xor_zero]
  have lY : LeadAt Y (L i) := leadAt_of fY ((h.good i hi).2.lt fi) (by rw [same _ (Nat.le_refl _)]; exact vi1) fun j hj => by rw [same j (by omega)]; exact iz j hj
  have ui : updF F i Y i = Y := updF_same F i Y
  have un : ∀ a,a ≠ i → updF F i Y a = F a := fun a ha => updF_ne F Y ha
  refine ⟨fun a ha => ?_,fun a ha ham b hb hne => ?_,fun b hb hbm hne => ?_,fun a ha => ?_,fun v hvW => ?_⟩
  ·by_cases e : a = i
   ·subst e; rw [ui]; exact ⟨fY,lY⟩
   ·rw [un a e]; exact h.good a ha
  ·rw [un a (by omega)]; exact h.done a ha ham b hb hne
  ·rw [ui,hv]
   show vR (F i) (L b) ^^^ gmul (vR (F i) (L k)) (vR (F k) (L b)) = 0
   by_cases e : b = k
   ·subst e; rw [vk1,gmul_one,xor_self]
   ·have hbk : b < k := by omega
    rw [h.cur b hbk hbm hne,kz (L b) (hL b k hbk hk),gmul_zero,xor_self]
  ·by_cases e : a = i
   ·subst e; rw [ui,hv]; exact Sp.add (h.sp1 a hi) (Sp.scale _ (h.sp1 k hk))
   ·rw [un a e]; exact h.sp1 a ha
  ·refine Sp.trans (fun u hu => ?_) (h.sp2 v hvW)
   obtain ⟨a,ha,rfl⟩ := List.mem_map.1 hu
   have ham := List.mem_range.1 ha
   have mem : ∀ c,c < m → Sp ((List.range m).map fun a => vR (updF F i Y a)) (vR (updF F i Y c)) := fun c hc => Sp.mem (List.mem_map.2 ⟨c,List.mem_range.2 hc,rfl⟩)
   by_cases e : a = i
   ·subst e
    have e2 : vR (F a) = fun j => vR Y j ^^^ gmul (vR (F a) (L k)) (vR (F k) j) := by
     funext j; rw [hv]; show _ = (vR (F a) j ^^^ _) ^^^ _; rw [xor_cancel]
    show Sp _ (vR (F a))
    rw [e2]
    have m1 := mem a hi; rw [ui] at m1
    have m2 := mem k hk; rw [un k hki] at m2
    exact Sp.add m1 (Sp.scale _ m2)
   ·have m1 := mem a ham; rw [un a e] at m1; exact m1
theorem BI.row {n t m : Nat} {L : Nat → Nat} {W : List V} {F : Nat → Rw} {i : Nat} (h : BI n t m L W F i 0) (hL : ∀ a b,a < b → b < m → L a < L b) (hi : i < m) : ∀ k,k ≤ m → BI n t m L W (rowB i k F) i k
 | 0,_ => h
 | k + 1,hk => (BI.row h hL hi k (by omega)).step hL hi (by omega)
theorem BI.next {n t m : Nat} {L : Nat → Nat} {W : List V} {F : Nat → Rw} {i : Nat} (h : BI n t m L W F i m) : BI n t m L W F (i + 1) 0 :=
 ⟨h.good,fun a ha ham b hb hne => by
  by_cases e : a = i
  ·subst e; exact h.cur b hb hb hne
  ·exact h.done a (by omega) ham b hb hne,fun b hb => by omega,h.sp1,h.sp2⟩
theorem BI.all {n t m : Nat} {L : Nat → Nat} {W : List V} {F : Nat → Rw} (h : BI n t m L W F 0 0) (hL : ∀ a b,a < b → b < m → L a < L b) : ∀ i,i ≤ m → BI n t m L W (backB m i F) i 0
 | 0,_ => h
 | i + 1,hi => ((BI.all h hL i (by omega)).row hL (by omega) m (Nat.le_refl m)).next
theorem BI.red {n t m : Nat} {L : Nat → Nat} {W : List V} {F : Nat → Rw} (h : BI n t m L W F m 0) (hL : ∀ a b,a < b → b < m → L a < L b) : Red n t ((List.range m).map F) := by
 refine ⟨⟨fun k hk => ?_,?_⟩,?_⟩
 ·obtain ⟨a,ha,rfl⟩ := List.mem_map.1 hk
  exact ⟨(h.led (List.mem_range.1 ha)).1,(h.led (List.mem_range.1 ha)).2.1⟩
 ·refine List.pairwise_map.2 (List.pairwise_iff_getElem.2 fun i j hi hj hij => ?_)
  simp only [List.length_range] at hi hj
  simp only [List.getElem_range]
  rw [(h.led hi).2.2,(h.led hj).2.2]; exact hL i j hij hj
 ·refine List.pairwise_map.2 (List.pairwise_iff_getElem.2 fun i j hi hj hij => ?_)
  simp only [List.length_range] at hi hj
  simp only [List.getElem_range]
  rw [(h.led hj).2.2]; exact h.done i hi hi j hj (by omega)
def listF (K : List Rw) : Nat → Rw := fun i => K.getD i ([],[])
theorem listF_map (K : List Rw) : (List.range K.length).map (listF K) = K := by
 apply List.ext_getElem?
 intro i
 by_cases hi : i < K.length
 ·rw [List.getElem?_map,List.getElem?_range hi,List.getElem?_eq_getElem hi]
  simp [listF,hi]
 ·rw [List.getElem?_eq_none (by simpa using hi),List.getElem?_eq_none (by omega)]
def redL (K : List Rw) : List Rw := (List.range K.length).map (backB K.length K.length (listF K))
theorem redL_red {n t : Nat} {K : List Rw} (h : KeptS n t K) : Red n t (redL K) ∧ (∀ k,k ∈ redL K → Sp (K.map vR) (vR k)) ∧ (∀ k,k ∈ K → Sp ((redL K).map vR) (vR k)) ∧ (redL K).map leadN = K.map leadN := by
 have hat : ∀ a,a < K.length → listF K a ∈ K := fun a ha => by
  have : listF K a = K[a] := by simp [listF,ha]
  rw [this]; exact List.getElem_mem ha
 have hL : ∀ a b,a < b → b < K.length → leadN (listF K a) < leadN (listF K b) := fun a b hab hb => by
  have e1 : listF K a = K[a] := by simp [listF,show a < K.length by omega]
  have e2 : listF K b = K[b] := by simp [listF,hb]
  rw [e1,e2]; exact List.pairwise_iff_getElem.1 h.sorted a b (by omega) hb hab
 have h0 : BI n t K.length (fun a => leadN (listF K a)) (K.map vR) (listF K) 0 0 := by
  refine ⟨fun a ha => ⟨(h.rows _ (hat a ha)).1,(h.rows _ (hat a ha)).2.at⟩,fun a ha => by omega,fun b hb => by omega,fun a ha => Sp.mem (List.mem_map.2 ⟨_,hat a ha,rfl⟩),fun v hv => ?_⟩
  have e : ((List.range K.length).map fun a => vR (listF K a)) = K.map vR := by
   conv => rhs; rw [← listF_map K]
   rw [List.map_map]; rfl
  rw [e]; exact Sp.mem hv
 have hA := h0.all hL K.length (Nat.le_refl _)
 refine ⟨hA.red hL,fun k hk => ?_,fun k hk => ?_,?_⟩
 ·obtain ⟨a,ha,rfl⟩ := List.mem_map.1 hk
  exact hA.sp1 a (List.mem_range.1 ha)
 ·have := hA.sp2 (vR k) (List.mem_map.2 ⟨k,hk,rfl⟩)
  unfold redL
  rw [List.map_map]; exact this
 ·conv => rhs; rw [← listF_map K]
  unfold redL
  rw [List.map_map,List.map_map]
  apply List.map_congr_left
  intro a ha
  exact (hA.led (List.mem_range.1 ha)).2.2
theorem rest_same {n t : Nat} {K M : List Rw} {x : Rw} (h : KeptS n t K) (g : Red n t M) (hx : Fit n t x) (h1 : ∀ k,k ∈ K → Sp (M.map vR) (vR k)) (hl : M.map leadN = K.map leadN) : restF K x = restF M x := by
 have fK := hx.rest (fun k hk => (h.rows k hk).1)
 have fM := hx.rest (fun k hk => (g.kept.rows k hk).1)
 have rK : vR (restF K x) = red (tri K) (vR x) := rest_red h.rows hx
 have rM : vR (restF M x) = red (tri M) (vR x) := rest_red g.kept.rows hx
 have s1 := red_span (tri K) (vR x)
 have s2 := red_span (tri M) (vR x)
 rw [tri_fst] at s1 s2
 have hD : Sp (M.map vR) (fun j => vR (restF K x) j ^^^ vR (restF M x) j) := by
  have e : (fun j => vR (restF K x) j ^^^ vR (restF M x) j) = fun j => (vR x j ^^^ red (tri K) (vR x) j) ^^^ (vR x j ^^^ red (tri M) (vR x) j) := by
   funext j; rw [rK,rM,xor4,xor_self,zero_xor]
  rw [e]
  exact Sp.add (Sp.trans (fun a ha => by obtain ⟨k,hk,rfl⟩ := List.mem_map.1 ha; exact h1 k hk) s1) s2
 have hz : ∀ k,k ∈ M → vR (restF K x) (leadN k) ^^^ vR (restF M x) (leadN k) = 0 := fun k hk => by
  have m1 : leadN k ∈ K.map leadN := by rw [← hl]; exact List.mem_map.2 ⟨k,hk,rfl⟩
  obtain ⟨k',hk',e⟩ := List.mem_map.1 m1
  rw [rK,rM]
  rw [red_at g.kept.kept.tri (vf (cat k),leadN k) (List.mem_map.2 ⟨k,hk,rfl⟩)]
  rw [← e,red_at h.kept.tri (vf (cat k'),leadN k') (List.mem_map.2 ⟨k',hk',rfl⟩),xor_self]
 have hzero : ∀ j,vR (restF K x) j ^^^ vR (restF M x) j = 0 := fun j => by
  have := congrFun (coords_red g hD) j
  rw [this]
  exact comb_map_zero _ _ j M fun k hk => by rw [hz k hk,zero_gmul]
 have hc : cat (restF K x) = cat (restF M x) := vf_inj (by rw [fK.cat,fM.cat]) fun j _ => xor_eq_zero (hzero j)
 unfold cat at hc
 obtain ⟨p1,p2⟩ := List.append_inj hc (by rw [fK.1,fM.1])
 exact Prod.ext p1 p2
structure Sys (n t : Nat) (K0 K : List Rw) : Prop where
 kept : KeptS n t K0
 same : K = redL K0
theorem Sys.nil (n t : Nat) : Sys n t [] [] := ⟨KeptS.nil n t,rfl⟩
theorem Sys.red {n t : Nat} {K0 K : List Rw} (h : Sys n t K0 K) : Red n t K := by rw [h.same]; exact (redL_red h.kept).1
theorem Sys.rest {n t : Nat} {K0 K : List Rw} {x : Rw} (h : Sys n t K0 K) (hx : Fit n t x) : restF K0 x = restF K x := by
 obtain ⟨r1,r2,r3,r4⟩ := redL_red h.kept
 rw [h.same]; exact rest_same h.kept r1 hx r3 r4
theorem Sys.put {n t : Nat} {K0 K : List Rw} {x : Rw} (h : Sys n t K0 K) (hx : Fit n t x) (hn : ¬ leadS (restF K x).1 < 0) : Sys n t (insF K0 x) (putF K x) := by
 have hn0 : ¬ leadS (restF K0 x).1 < 0 := by rw [h.rest hx]; exact hn
 have hk0 := h.kept.step hx
 obtain ⟨r1,r2,r3,r4⟩ := redL_red h.kept
 obtain ⟨q1,q2,q3,q4⟩ := redL_red hk0
 obtain ⟨i1,i2,i3⟩ := insF_span h.kept hx hn0
 obtain ⟨p1,p2,p3,p4,-⟩ := putF_red h.red hx hn
 rw [← h.same] at r1 r2 r3
 refine ⟨hk0,p1.unique q1 (fun k hk => ?_) fun k hk => ?_⟩
 ·refine Sp.trans (fun a ha => ?_) (p2 k hk)
  rcases List.mem_cons.1 ha with rfl | ha
  ·exact Sp.trans (fun b hb => by obtain ⟨c,hc,rfl⟩ := List.mem_map.1 hb; exact q3 c hc) i3
  ·obtain ⟨c,hc,rfl⟩ := List.mem_map.1 ha
   refine Sp.trans (fun b hb => ?_) (r2 c hc)
   obtain ⟨d,hd,rfl⟩ := List.mem_map.1 hb
   exact Sp.trans (fun b hb => by obtain ⟨c,hc,rfl⟩ := List.mem_map.1 hb; exact q3 c hc) (i2 d hd)
 ·refine Sp.trans (fun a ha => ?_) (q2 k hk)
  obtain ⟨c,hc,rfl⟩ := List.mem_map.1 ha
  refine Sp.trans (fun b hb => ?_) (i1 c hc)
  rcases List.mem_cons.1 hb with rfl | hb
  ·exact p4
  ·obtain ⟨d,hd,rfl⟩ := List.mem_map.1 hb
   exact Sp.trans (fun b hb => by obtain ⟨e,he,rfl⟩ := List.mem_map.1 hb; exact p3 e he) (r3 d hd)
end Go.Proofs.YtfbmdlfkipipfaaGreatDoor
namespace Go.Proofs.YtfbmdlfkipipfaaGreatDoor
open Go.RowKit Go.By
set_option maxRecDepth 100000 in
set_option maxHeartbeats 1000000 in
theorem RVSame_any (p1 p2 p3 p4 : Option Addr) (n1 c1 n2 c2 n3 c3 n4 c4 : Nat) (v d x y : List UInt8) (w : World) (h1 : Sl B8 w p1 n1 c1 v) (h2 : Sl B8 w p2 n2 c2 d) (h3 : Sl B8 w p3 n3 c3 x) (h4 : Sl B8 w p4 n4 c4 y) :
  Calls Tryz.prog 106 #[.agg #[.slice p1 n1 c1,.slice p2 n2 c2],.agg #[.slice p3 n3 c3,.slice p4 n4 c4]] w fun e w' => e = .returned (.bool (decide ((v,d) = (x,y)))) ∧ Below w.heap.size w w' := by
 have H1 := Lib.hid h1; have H2 := Lib.hid h2; have H3 := Lib.hid h3; have H4 := Lib.hid h4
 clear h1 h2 h3 h4
 have hB : ∀ o1 o2,Below w.heap.size w ((w.alloc o1).alloc o2) := fun o1 o2 => al (al (Below.refl _ _) (Nat.le_refl _)) (by simp)
 go_enter Tryz.func106,Tryz.ntmps106
 go_wp2_with fail
 refine (Same_d _ _ _ _ _ _ v x _ (H1.out.keep (hB _ _)) (H3.out.keep (hB _ _))).mono ?_; rintro e w1 ⟨rfl,q,rfl⟩
 by_cases e1 : v = x
 ·rw [decide_eq_true e1]
  have HE : Hid (decide ((v,d) = (x,y)) = decide (d = y)) := by simp [Hid,e1]
  clear e1
  go_wp2_with fail
  refine (Same_d _ _ _ _ _ _ d y _ (dr (H2.out.keep (hB _ _)) q) (dr (H4.out.keep (hB _ _)) q)).mono ?_; rintro e w1 ⟨rfl,q',rfl⟩
  generalize decide (d = y) = z at HE ⊢
  go_wp2
  go_ret
  exact ⟨by rw [HE.out]; rfl,bdn (hB _ _)⟩
 ·rw [decide_eq_false e1]
  have HE : Hid (decide ((v,d) = (x,y)) = false) := by simp [Hid,e1]
  clear e1
  go_wp2_with fail
  go_ret
  exact ⟨by rw [HE.out]; rfl,bdn (hB _ _)⟩
set_option maxHeartbeats 400000 in
theorem Of03_any (p1 p2 : Option Addr) (n1 c1 n2 c2 : Nat) (w : World) :
  Calls Tryz.prog 107 #[.agg #[.slice p1 n1 c1,.slice p2 n2 c2]] w fun e w' => e = .returned (.agg #[.slice p1 n1 c1,.slice p2 n2 c2]) ∧ Below w.heap.size w w' := by
 have hi := info_ref
 go_enter Tryz.func107,Tryz.ntmps107
 go_wp2
 exact bodyPost_ret (results_cell_row rfl _ _ _ 187 #[.slice p1 n1 c1,.slice p2 n2 c2] (0,0) _ rfl (hnew (by simp)) Tryz.underlying187 rfl hi) rfl ⟨rfl,al (al (Below.refl _ _) (Nat.le_refl _)) (by simp)⟩
end Go.Proofs.YtfbmdlfkipipfaaGreatDoor
namespace Go.Proofs.YtfbmdlfkipipfaaGreatDoor
open Go.RowKit Go.By
theorem use_w1 {P : Program} {f : FuncId} {args : Array Value} {W : World} {Q : Ending → World → Prop} (I : World → Prop) (h : I W) (k : ∀ W',I W' → Calls P f args W' Q) : Calls P f args W Q := k W h
end Go.Proofs.YtfbmdlfkipipfaaGreatDoor
namespace Go.Proofs.YtfbmdlfkipipfaaGreatDoor
open Go.RowKit Go.By
end Go.Proofs.YtfbmdlfkipipfaaGreatDoor
namespace Go.By
open Go.RowKit
end Go.By
namespace Go.Proofs.YtfbmdlfkipipfaaGreatDoor
open Go.RowKit Go.By
def fitR (wd : Nat) (r : List UInt8) : List UInt8 := r.take wd ++ List.replicate (wd - r.length) 0
end Go.Proofs.YtfbmdlfkipipfaaGreatDoor
namespace Go.By
open Go.RowKit
end Go.By
namespace Go.Proofs.YtfbmdlfkipipfaaGreatDoor
open Go.RowKit Go.By
end Go.Proofs.YtfbmdlfkipipfaaGreatDoor
namespace Go.By
open Go.RowKit
theorem getD_tf {listed : Array Bool} {i : Nat} (h : listed.getD i true = false) : listed.getD i false ≠ true ∧ i < listed.size := by
 rcases Nat.lt_or_ge i listed.size with h' | h'
 ·refine ⟨fun hx => ?_,h'⟩
  simp [Array.getD_eq_getD_getElem?,h'] at h hx; rw [h] at hx; cases hx
 ·simp [Array.getD_eq_getD_getElem?,Array.getElem?_eq_none h'] at h
theorem getD_ft {listed : Array Bool} {j : Nat} (h : listed.getD j false = true) : listed.getD j true = true := by
 rcases Nat.lt_or_ge j listed.size with h' | h'
 ·simp [Array.getD_eq_getD_getElem?,h'] at h ⊢; exact h
 ·simp [Array.getD_eq_getD_getElem?,Array.getElem?_eq_none h'] at h
end Go.By
namespace Go.Proofs.YtfbmdlfkipipfaaGreatDoor
open Go.RowKit Go.By
structure Elm (w : World) (base be k t : Nat) (v : Value) (n : Nat) (K : List Rw) : Prop where
 box : w.heap[be]? = some (.cells #[.int .i64 k,.int .i64 t,v] 201 (0,0))
 rows : RwL 139 5 w base v n K
 old : base ≤ be
theorem Elm.keep {w w' : World} {base be k t n : Nat} {v : Value} {K : List Rw} (h : Elm w base be k t v n K) (hb : Below w.heap.size w w') : Elm w' base be k t v n K :=
 ⟨(hb.block _ (blk_lt h.box)).trans h.box,h.rows.keep hb,h.old⟩
theorem New_good (k t : Nat) (w : World) (h1 : 1 ≤ k) (h2 : k ≤ 4096) (h3 : t ≤ 65535) : Calls Tryz.prog 58 #[.int .i64 k,.int .i64 t] w fun e w' => ∃ be,e = .returned (.tuple #[.pointer (some ⟨be,0,none⟩),.int .i64 0]) ∧ Elm w' w.heap.size be k t (.slice none 0 0) 0 [] ∧ Below w.heap.size w w' := by
 have a1 : ¬ ((k : Int) < 1) := by omega
 have a2 : ¬ (4096 < (k : Int)) := by omega
 have a3 : ¬ ((t : Int) < 0) := by omega
 have a4 : ¬ (65535 < (t : Int)) := by omega
 clear h1 h2 h3
 go_enter Tryz.func58,Tryz.ntmps58
 go_wp2
 go_ret2
 exact ⟨w.heap.size,rfl,⟨hnew rfl,RwL.nil _ _ _ _,Nat.le_refl _⟩,al (Below.refl _ _) (Nat.le_refl _)⟩
theorem Rank_any' (base be k t n : Nat) (v : Value) (K : List Rw) (w : World) (h : Elm w base be k t v n K) : Calls Tryz.prog 61 #[.pointer (some ⟨be,0,none⟩)] w fun e w' => e = .returned (.int .i64 n) ∧ w = w' := by
 obtain ⟨f0,f1,f2⟩ := cells3 h.box
 obtain ⟨q,c,rfl⟩ := h.rows.shape
 clear h
 go_enter Tryz.func61,Tryz.ntmps61
 go_wp2
 go_ret
 exact ⟨rfl,rfl⟩
end Go.Proofs.YtfbmdlfkipipfaaGreatDoor
namespace Go.Proofs.YtfbmdlfkipipfaaGreatDoor
open Go.RowKit Go.By
def kD (D : List Rw) : List Rw := D.foldl insF []
theorem kD_snoc (D : List Rw) (r : Rw) : kD (D ++ [r]) = insF (kD D) r := by unfold kD; rw [List.foldl_append]; rfl
theorem kD_take {D : List Rw} {k : Nat} {r : Rw} (h : D[k]? = some r) : kD (D.take (k + 1)) = insF (kD (D.take k)) r := by
 have e : D.take (k + 1) = D.take k ++ [r] := by rw [List.take_add_one,h]; rfl
 rw [e,kD_snoc]
theorem kD_len (D : List Rw) : ∀ k,(kD (D.take k)).length ≤ k
 | 0 => by simp [kD]
 | k + 1 => by
  by_cases h : k < D.length
  ·rw [kD_take (List.getElem?_eq_getElem h)]; exact Nat.le_trans (insF_len _ _) (Nat.succ_le_succ (kD_len D k))
  ·have e : D.take (k + 1) = D.take k := by rw [List.take_of_length_le (by omega),List.take_of_length_le (by omega)]
   rw [e]; exact Nat.le_succ_of_le (kD_len D k)
theorem kD_kept {wd t : Nat} {D : List Rw} (hl : ∀ r,r ∈ D → Fit wd t r) : ∀ k,KeptS wd t (kD (D.take k))
 | 0 => by simpa [kD] using KeptS.nil wd t
 | k + 1 => by
  by_cases h : k < D.length
  ·rw [kD_take (List.getElem?_eq_getElem h)]; exact (kD_kept hl k).step (hl _ (List.getElem_mem h))
  ·have e : D.take (k + 1) = D.take k := by rw [List.take_of_length_le (by omega),List.take_of_length_le (by omega)]
   rw [e]; exact kD_kept hl k
theorem insF_same {K : List Rw} {x : Rw} (h : (insF K x).length = K.length) : insF K x = K := by
 by_cases e : leadS (restF K x).1 < 0
 ·unfold insF; rw [norm_leadS,if_pos e]
 ·have hp := (ins_perm K x).length_eq
  unfold keepF at hp; rw [if_neg e] at hp; simp at hp; omega
theorem listF_BI {n t : Nat} {K : List Rw} (h : KeptS n t K) : ∃ L : Nat → Nat,(∀ a b,a < b → b < K.length → L a < L b) ∧ BI n t K.length L (K.map vR) (listF K) 0 0 := by
 have hat : ∀ a,a < K.length → listF K a ∈ K := fun a ha => by
  have : listF K a = K[a] := by simp [listF,ha]
  rw [this]; exact List.getElem_mem ha
 refine ⟨fun a => leadN (listF K a),fun a b hab hb => ?_,fun a ha => ⟨(h.rows _ (hat a ha)).1,(h.rows _ (hat a ha)).2.at⟩,fun a ha => by omega,fun b hb => by omega,fun a ha => Gf.Sp.mem (List.mem_map.2 ⟨_,hat a ha,rfl⟩),fun v hv => ?_⟩
 ·have e1 : listF K a = K[a] := by simp [listF,show a < K.length by omega]
  have e2 : listF K b = K[b] := by simp [listF,hb]
  show leadN (listF K a) < leadN (listF K b)
  rw [e1,e2]; exact List.pairwise_iff_getElem.1 h.sorted a b (by omega) hb hab
 ·have e : ((List.range K.length).map fun a => vR (listF K a)) = K.map vR := by
   conv => rhs; rw [← listF_map K]
   rw [List.map_map]; rfl
  rw [e]; exact Gf.Sp.mem hv
def RowOff2 (w : World) (g : Nat) (u v : Value) (r : Rw) : Prop := ∃ q1 m1 c1 q2 m2 c2,u = .slice q1 m1 c1 ∧ v = .slice q2 m2 c2 ∧ Sl B8 w q1 m1 c1 r.1 ∧ Sl B8 w q2 m2 c2 r.2 ∧ (0 < m1 → ∀ a,q1 = some a → a.block ≠ g) ∧ (0 < m2 → ∀ a,q2 = some a → a.block ≠ g)
theorem RowOff2.keep {w w' : World} {g : Nat} {u v : Value} {r : Rw} (h : RowOff2 w g u v r) (hb : Below w.heap.size w w') : RowOff2 w' g u v r := by
 obtain ⟨q1,m1,c1,q2,m2,c2,h1,h2,h3,h4,h5,h6⟩ := h
 exact ⟨q1,m1,c1,q2,m2,c2,h1,h2,h3.keep hb,h4.keep hb,h5,h6⟩
theorem RowOff2.set {w : World} {g o : Nat} {u v x : Value} {r : Rw} (h : RowOff2 w g u v r) : RowOff2 (w.setCell ⟨g,o,none⟩ x) g u v r := by
 obtain ⟨q1,m1,c1,q2,m2,c2,h1,h2,h3,h4,h5,h6⟩ := h
 exact ⟨q1,m1,c1,q2,m2,c2,h1,h2,h3.set2 h5,h4.set2 h6,h5,h6⟩
def RMemC (w : World) (g T n c : Nat) (F : Nat → Rw) : Prop := ∃ cs : Array Value,w.heap[g]? = some (.cells cs T (0,0)) ∧ cs.size = c * 2 ∧ n ≤ c ∧ ∀ i,i < n → ∃ u v,cs[i * 2]? = some u ∧ cs[i * 2 + 1]? = some v ∧ RowOff2 w g u v (F i)
theorem RMemC.keep {w w' : World} {g T n c : Nat} {F : Nat → Rw} (h : RMemC w g T n c F) (hb : Below w.heap.size w w') : RMemC w' g T n c F := by
 obtain ⟨cs,h1,h2,hn,h3⟩ := h
 refine ⟨cs,(hb.block _ (blk_lt h1)).trans h1,h2,hn,fun i hi => ?_⟩
 obtain ⟨u,v,a,b,c⟩ := h3 i hi
 exact ⟨u,v,a,b,c.keep hb⟩
theorem RMemC.set {w : World} {g T n c i : Nat} {F : Nat → Rw} {u v : Value} {r : Rw} (h : RMemC w g T n c F) (hi : i < n) (hr : RowOff2 w g u v r) : RMemC ((w.setCell ⟨g,i * 2,none⟩ u).setCell ⟨g,i * 2 + 1,none⟩ v) g T n c (updF F i r) := by
 obtain ⟨cs,h1,h2,hn,h3⟩ := h
 refine ⟨_,hss (hss h1),by simp [h2],hn,fun k hk => ?_⟩
 by_cases hki : k = i
 ·subst hki
  refine ⟨u,v,?_,?_,by rw [updF_same]; exact hr.set.set⟩
  ·simp [Array.getElem?_setIfInBounds]; omega
  ·simp [Array.getElem?_setIfInBounds]; omega
 ·obtain ⟨a,b,e1,e2,e3⟩ := h3 k hk
  refine ⟨a,b,?_,?_,by rw [updF_ne _ _ hki]; exact e3.set.set⟩
  ·rw [Array.getElem?_setIfInBounds,if_neg (by omega),Array.getElem?_setIfInBounds,if_neg (by omega)]; exact e1
  ·rw [Array.getElem?_setIfInBounds,if_neg (by omega),Array.getElem?_setIfInBounds,if_neg (by omega)]; exact e2
theorem RMemC.at {w : World} {g T n c i : Nat} {F : Nat → Rw} (h : RMemC w g T n c F) (hi : i < n) : ∃ q1 m1 c1 q2 m2 c2,w.cell? ⟨g,i * 2,none⟩ = some (.slice q1 m1 c1) ∧ w.cell? ⟨g,i * 2 + 1,none⟩ = some (.slice q2 m2 c2) ∧ w.frozen? ⟨g,i * 2,none⟩ = false ∧ w.frozen? ⟨g,i * 2 + 1,none⟩ = false ∧
  Sl B8 w q1 m1 c1 (F i).1 ∧ Sl B8 w q2 m2 c2 (F i).2 ∧ (0 < m1 → ∀ a,q1 = some a → a.block ≠ g) ∧ (0 < m2 → ∀ a,q2 = some a → a.block ≠ g) := by
 obtain ⟨cs,h1,h2,hn,h3⟩ := h
 obtain ⟨u,v,a,b,q1,m1,c1,q2,m2,c2,rfl,rfl,g1,g2,g3,g4⟩ := h3 i hi
 exact ⟨q1,m1,c1,q2,m2,c2,(cell_of_row _ _ _ _ _ _ h1).trans a,(cell_of_row _ _ _ _ _ _ h1).trans b,frozen_of_row _ _ _ _ _ h1,frozen_of_row _ _ _ _ _ h1,g1,g2,g3,g4⟩
def RMemV (w : World) (base T : Nat) (q : Option Addr) (n c : Nat) (F : Nat → Rw) : Prop := n = 0 ∨ ∃ g,q = some ⟨g,0,none⟩ ∧ base ≤ g ∧ RMemC w g T n c F
theorem RwN.keep {W w w' : World} {T n c : Nat} {q : Option Addr} {K : List Rw} (h : RwN W w T q n c K) (hb : Below w.heap.size w w') : RwN W w' T q n c K := by
 obtain ⟨h1,h2,vs,h3,h4⟩ := h
 exact ⟨bl h1 hb h1.size,h2,vs,owns_keep h3 hb,h4⟩
theorem RMemV.of {w : World} {base T n c : Nat} {q : Option Addr} {K : List Rw} (h : n = 0 ∨ ∃ W : World,base ≤ W.heap.size ∧ RwN W w T q n c K) : RMemV w base T q n c (listF K) := by
 rcases h with h | ⟨W,hW,hb,hl,vs,ho,hv⟩
 ·exact .inl h
 ·rcases ho.2 with ⟨e1,e2⟩ | ⟨g,cap,cur,e1,hg,hh,hle,hm,hs,ht⟩
  ·exact .inl e2
  ·cases e1
   refine .inr ⟨g,rfl,Nat.le_trans hW hg,cur,hh,hs,hle,fun i hi => ?_⟩
   have hk : K[i]? = some (listF K i) := by
    rw [List.getElem?_eq_getElem (by omega)]
    simp [listF,show i < K.length by omega]
   obtain ⟨u,hu,q1,m1,c1,q2,m2,c2,rfl,s1,s2⟩ := hv i _ hk
   obtain ⟨g1,g2⟩ := fl2_at hu
   have far : ∀ {q' : Option Addr} {m' c' : Nat} {xs : List UInt8},Sl B8 W q' m' c' xs → 0 < m' → ∀ a,q' = some a → a.block ≠ g := fun {q' m' c' xs} hs h0 a ha => by
    obtain ⟨b,o,hp,hlt⟩ := hs.rs.lt (by rw [hs.len]; exact h0)
    rw [ha] at hp; cases hp
    show b ≠ g; omega
   have hvl : vs.length = n := by have := ho.1; rw [fl2_length] at this; omega
   refine ⟨.slice q1 m1 c1,.slice q2 m2 c2,?_,?_,q1,m1,c1,q2,m2,c2,rfl,rfl,s1.keep hb,s2.keep hb,far s1,far s2⟩
   ·rw [← ht,List.getElem?_take] at g1
    split at g1
    ·simpa using g1
    ·cases g1
   ·rw [← ht,List.getElem?_take] at g2
    split at g2
    ·simpa using g2
    ·cases g2
theorem RMemV.rwS {w : World} {base T n c : Nat} {q : Option Addr} {F : Nat → Rw} (h : RMemV w base T q n c F) (h1 : n ≤ c) (h2 : c ≤ maxLen) (h3 : q = none → n = 0 ∧ c = 0) : RwS w q n c ((List.range n).map F) := by
 refine ⟨by simp,h1,h2,h3,fun j k hj => ?_⟩
 obtain ⟨hjn,e⟩ := List.getElem?_eq_some_iff.1 hj
 rw [List.length_map,List.length_range] at hjn
 simp at e
 subst e
 rcases h with h | ⟨g,rfl,-,hM⟩
 ·omega
 ·obtain ⟨q1,m1,c1,q2,m2,c2,a,b,-,-,s1,s2,-,-⟩ := hM.at hjn
  exact ⟨g,0,q1,m1,c1,q2,m2,c2,rfl,by rw [Nat.zero_add]; exact a,by rw [Nat.zero_add]; exact b,s1,s2⟩
end Go.Proofs.YtfbmdlfkipipfaaGreatDoor
namespace Go.By
open Go.RowKit
def XNew (B : Nat) (p : Option Addr) (n : Nat) : Prop := 0 < n → ∀ a,p = some a → B ≤ a.block
def XRowB (B X : Nat) (r : List UInt8 × List UInt8) (v : Value) (w : World) : Prop := ∃ p1 n1 c1 p2 n2 c2,v = .agg #[.slice p1 n1 c1,.slice p2 n2 c2] ∧ ((Sl B8 w p1 n1 c1 r.1 ∧ Away B X w p1 n1) ∧ (Sl B8 w p2 n2 c2 r.2 ∧ Away B X w p2 n2)) ∧ XNew B p1 n1 ∧ XNew B p2 n2
theorem XRowB.keep {B X : Nat} {r : List UInt8 × List UInt8} {v : Value} {w w' : World} (h : XRowB B X r v w) (hb : Below w.heap.size w w') : XRowB B X r v w' := by
 obtain ⟨p1,n1,c1,p2,n2,c2,e,⟨⟨h1,k1⟩,⟨h2,k2⟩⟩,h3⟩ := h
 exact ⟨p1,n1,c1,p2,n2,c2,e,⟨⟨h1.keep hb,k1.keep h1 hb⟩,⟨h2.keep hb,k2.keep h2 hb⟩⟩,h3⟩
theorem XRowB.step {B X : Nat} {r : List UInt8 × List UInt8} {v : Value} {w w' : World} (h : XRowB B X r v w) (hb : StepX B X w w') : XRowB B X r v w' := by
 obtain ⟨p1,n1,c1,p2,n2,c2,e,⟨⟨h1,k1⟩,⟨h2,k2⟩⟩,h3⟩ := h
 exact ⟨p1,n1,c1,p2,n2,c2,e,⟨⟨(k1.step h1 hb).2,(k1.step h1 hb).1⟩,⟨(k2.step h2 hb).2,(k2.step h2 hb).1⟩⟩,h3⟩
def XRowTB (B X : Nat) (r : List UInt8 × List UInt8) (code : Int) (v : Value) (w : World) : Prop := ∃ u,v = .tuple #[u,.int .i64 code] ∧ XRowB B X r u w
def ShX.rowB (B X : Nat) (r : List UInt8 × List UInt8) : ShX B X := ⟨XRowB B X r,fun _ _ _ h hb => h.keep hb,fun _ _ _ h hb => h.step hb⟩
def ShX.rowTB (B X : Nat) (r : List UInt8 × List UInt8) (code : Int) : ShX B X := ⟨XRowTB B X r code,fun _ _ _ ⟨u,e,h⟩ hb => ⟨u,e,h.keep hb⟩,fun _ _ _ ⟨u,e,h⟩ hb => ⟨u,e,h.step hb⟩⟩
theorem XRowB.of_owns {B X base e : Nat} {w : World} {r : List UInt8 × List UInt8} {q1 q2 : Option Addr} {m1 k1 m2 k2 : Nat} (he : e ≠ X) (h1 : w.ownsRow base e 1 (.slice q1 m1 k1) m1 (r.1.map B8)) (h2 : w.ownsRow base e 1 (.slice q2 m2 k2) m2 (r.2.map B8)) (hb : B ≤ base) :
  XRowB B X r (.agg #[.slice q1 m1 k1,.slice q2 m2 k2]) w := by
 refine ⟨q1,m1,k1,q2,m2,k2,rfl,⟨⟨Sl.of_owns h1,Away.own h1 he⟩,⟨Sl.of_owns h2,Away.own h2 he⟩⟩,fun h0 a ha => ?_,fun h0 a ha => ?_⟩
 ·obtain ⟨g,e,h,-⟩ := owns_at h1 h0
  rw [e] at ha; cases ha; exact Nat.le_trans hb h
 ·obtain ⟨g,e,h,-⟩ := owns_at h2 h0
  rw [e] at ha; cases ha; exact Nat.le_trans hb h
end Go.By
namespace Go.Proofs.YtfbmdlfkipipfaaGreatDoor
open Go.RowKit Go.By
def RetKN (w : World) (K : List Rw) (e : Ending) (w' : World) : Prop := ∃ q n c,n = K.length ∧ e = .returned (.slice q n c) ∧ RwS w' q n c K ∧ Below w.heap.size w w' ∧ (n = 0 ∨ ∃ g,q = some ⟨g,0,none⟩ ∧ w.heap.size ≤ g)
set_option maxRecDepth 100000 in
set_option maxHeartbeats 8000000 in
theorem RRows_any (wd t : Nat) (pk : Option Addr) (nk ck : Nat) (D : List Rw) (w : World) (hD : RwS w pk nk ck D) (hfit : ∀ r,r ∈ D → Fit wd t r) (hr1 : Room wd) (hr2 : Room t) (hnk : nk ≤ 4096) :
  Calls Tryz.prog 50 #[.slice pk nk ck] w (RetKN w (redL (kD D))) := by
 have HKK : Hid (∀ k,KeptS wd t (kD (D.take k))) := kD_kept hfit
 have HD := Lib.hid hD; have HF := Lib.hid hfit; have HR1 := Lib.hid hr1; have HR2 := Lib.hid hr2; have HLEN := Lib.hid hD.len
 clear hD hfit hr1 hr2
 go_enter Tryz.func50,Tryz.ntmps50
 go_wp2
 go_loopw [3,12] (fun l i wr => ∃ (k no : Nat) (qo : Option Addr) (co : Nat),k ≤ nk ∧ no ≤ k ∧ i = .int .i64 k ∧ l = .slice qo no co ∧ Hid (RwS wr qo no co (kD (D.take k))) ∧ Hid (Below w.heap.size w wr) ∧ Hid (no = 0 ∨ ∃ W,w.heap.size ≤ W.heap.size ∧ RwN W wr 187 qo no co (kD (D.take k)))) (fun _ i _ => nk - (intOf i).toNat)
 case atStart => exact ⟨0,0,none,0,Nat.zero_le _,Nat.zero_le _,rfl,rfl,Lib.hid (by simpa [kD] using RwS.nil0 w),Below.refl _ _,.inl rfl⟩
 case round =>
  obtain ⟨k,no,qo,co,hk,hno,rfl,rfl,hK,hB,hN⟩ := hrel
  by_cases hlt : k < nk
  ·have kn : (k : Int) < (nk : Int) := by omega
   obtain ⟨row,hrow⟩ : ∃ row,D[k]? = some row := ⟨_,List.getElem?_eq_getElem (by rw [HLEN.out]; exact hlt)⟩
   obtain ⟨b,o,q1,m1,c1,q2,m2,c2,rfl,d1,d2,s1,s2⟩ := HD.out.row k row hrow
   have D1 := (hB.out.cell (p := ⟨b,o + k * 2,none⟩) (lt_of_cell d1)).trans d1
   have D2 := (hB.out.cell (p := ⟨b,o + k * 2 + 1,none⟩) (lt_of_cell d2)).trans d2
   have S1 := Lib.hid (s1.keep hB.out); have S2 := Lib.hid (s2.keep hB.out)
   have HX : Hid (kD (D.take (k + 1)) = insF (kD (D.take k)) row) := kD_take hrow
   have hkept := Lib.hid (HKK.out k)
   have hrw : Hid (Fit wd t row) := HF.out row (List.mem_of_getElem? hrow)
   have hln := Lib.hid (kD_len D (k + 1))
   clear d1 d2 s1 s2 hrow
   go_wp2_with fail
   clear D1 D2
   refine use_w1 (fun W => Below wr.heap.size wr W) (al (Below.refl _ _) (Nat.le_refl _)) ?_
   rintro w2 b2
   refine Calls.mono (Insert_own wd t qo no co (kD (D.take k)) q1 q2 m1 c1 m2 c2 row w2 (hK.out.keep b2) (S1.out.keep b2) (S2.out.keep b2) hkept.out.rows hrw.out HR1.out HR2.out (by omega)) ?_
   rintro e w3 ⟨q3,n3,c3,hn3,rfl,hK3,hb3,hor⟩
   have B3 : Below wr.heap.size wr w3 := bl b2 hb3 b2.size
   have hle : n3 ≤ k + 1 := by rw [hn3,← HX.out]; exact hln.out
   have hsz : w.heap.size ≤ w2.heap.size := Nat.le_trans hB.out.size b2.size
   have P : Hid (RwS w3 q3 n3 c3 (kD (D.take (k + 1))) ∧ Below w.heap.size w w3 ∧ (n3 = 0 ∨ ∃ W,w.heap.size ≤ W.heap.size ∧ RwN W w3 187 q3 n3 c3 (kD (D.take (k + 1))))) := by
    refine ⟨by rw [HX.out]; exact hK3,bl hB.out B3 hB.out.size,?_⟩
    rcases hor with e | ⟨W,hW,hNW⟩
    ·injection e with e1 e2 e3
     subst e1; subst e2; subst e3
     rcases hN.out with h0 | ⟨W,hW,hNW⟩
     ·exact .inl h0
     ·right
      have e4 : insF (kD (D.take k)) row = kD (D.take k) := insF_same (by rw [← hn3,← hK.out.len])
      rw [HX.out,e4]
      exact ⟨W,hW,RwN.keep hNW B3⟩
    ·right
     rw [HX.out]
     exact ⟨W,Nat.le_trans hsz hW,hNW⟩
   clear hK3 hb3 hor b2 B3 hn3 hsz hK hB hN HX hkept hrw hln S1 S2
   go_wp2
   go_roundw
   case rel => exact ⟨k + 1,n3,q3,c3,by omega,hle,by go_num,rfl,P.out.1,P.out.2.1,P.out.2.2⟩
   case measure => simp [intOf]; omega
  ·have hkm : k = nk := by omega
   have hge : (nk : Int) ≤ (k : Int) := by omega
   have hz : D.take k = D := List.take_of_length_le (by rw [HLEN.out,hkm]; exact Nat.le_refl _)
   obtain ⟨K0,hK0⟩ : ∃ K0,K0 = kD D := ⟨_,rfl⟩
   rw [hz,← hK0] at hK hN
   have hkept : KeptS wd t K0 := by have := HKK.out k; rw [hz,← hK0] at this; exact this
   obtain ⟨L,hLs,hBI⟩ := listF_BI hkept
   have HL : Hid (K0.length = no) := hK.out.len
   rw [HL.out] at hBI hLs
   have HBI := Lib.hid hBI; have HLS := Lib.hid hLs
   have HSH : Hid (no ≤ co ∧ co ≤ maxLen ∧ (qo = none → no = 0 ∧ co = 0)) := ⟨hK.out.le,hK.out.max,hK.out.nil⟩
   have HM0 : Hid (RMemV wr w.heap.size 187 qo no co (listF K0)) := RMemV.of hN.out
   have HB0 := Lib.hid hB.out
   have HRES : Hid (redL (kD D) = (List.range no).map (backB no no (listF K0))) := by show _ = _; rw [← hK0]; unfold redL; rw [HL.out]
   clear hK hN hB hkept hLs hBI hz hK0 HKK HD HF HLEN hkm
   go_wp2
   go_loopw [22] (fun v wr => ∃ i : Nat,i ≤ no ∧ v = .int .i64 i ∧ Hid (RMemV wr w.heap.size 187 qo no co (backB no i (listF K0))) ∧ Hid (Below w.heap.size w wr)) (fun i _ => no - (intOf i).toNat)
   case atStart => exact ⟨0,Nat.zero_le _,rfl,HM0.out,HB0.out⟩
   case round =>
    clear HM0 HB0
    obtain ⟨i,hin,rfl,hM,hB⟩ := hrel
    by_cases hi : i < no
    ·have inn : (i : Int) < (no : Int) := by omega
     have HRW : Hid (∀ k,k ≤ no → BI wd t no L (K0.map vR) (rowB i k (backB no i (listF K0))) i k) := fun k hk => (HBI.out.all HLS.out i (by omega)).row HLS.out hi k hk
     have HNXT : Hid (rowB i no (backB no i (listF K0)) = backB no (i + 1) (listF K0)) := rfl
     obtain ⟨G,hG⟩ : ∃ G,G = backB no i (listF K0) := ⟨_,rfl⟩
     rw [← hG] at HRW HNXT hM
     have HM1 := Lib.hid hM.out; have HB1 := Lib.hid hB.out
     clear hM hB hG
     go_wp2
     go_loopw [27] (fun v wr => ∃ k : Nat,k ≤ no ∧ v = .int .i64 k ∧ Hid (RMemV wr w.heap.size 187 qo no co (rowB i k G)) ∧ Hid (Below w.heap.size w wr)) (fun i _ => no - (intOf i).toNat)
     case atStart => exact ⟨0,Nat.zero_le _,rfl,HM1.out,HB1.out⟩
     case round =>
      clear HM1 HB1
      obtain ⟨k,hkn,rfl,hM,hB⟩ := hrel
      by_cases hk2 : k < no
      ·have knn : (k : Int) < (no : Int) := by omega
       have hbi := HRW.out k hkn
       have HSTEP : Hid (rowB i (k + 1) G = stepB (rowB i k G) i k) := rfl
       obtain ⟨F,hF⟩ : ∃ F,F = rowB i k G := ⟨_,rfl⟩
       rw [← hF] at hbi hM HSTEP
       by_cases hki : k = i
       ·subst hki
        have hS : Hid (RMemV wr w.heap.size 187 qo no co (rowB k (k + 1) G)) := by show RMemV _ _ _ _ _ _ _; rw [HSTEP.out]; unfold stepB; rw [if_pos rfl]; exact hM.out
        have BB := Lib.hid hB.out
        clear hbi hF HSTEP hM hB
        go_wp2
        go_roundw
        case rel => exact ⟨k + 1,by omega,by go_num,hS.out,BB.out⟩
        case measure => simp [intOf]; omega
       ·have hne : ((k : Int) != (i : Int)) = true := by simp; omega
        rcases hM.out with h0 | ⟨g,rfl,hgw,hMC⟩
        ·omega
        obtain ⟨fi,li,-⟩ := hbi.led hi
        obtain ⟨fk,lk,-⟩ := hbi.led hk2
        obtain ⟨a1,b1,d1,a2,b2,d2,cu0,cu1,fz0,fz1,s1,s2,-,-⟩ := hMC.at hi
        obtain ⟨p1,n1,e1,p2,n2,e2,cv0,cv1,-,-,t1,t2,-,-⟩ := hMC.at hk2
        obtain ⟨l,hl⟩ : ∃ l,l = leadN (F k) := ⟨_,rfl⟩
        have hLJ : leadS (F k).1 = (l : Int) := by rw [hl]; exact lk.at.1
        have hlw0 : l < wd := by rw [hl]; exact lk.at.lt fk
        have lb1 : b1 = wd := by have := s1.len; rw [fi.1] at this; exact this.symm
        have lb2 : b2 = t := by have := s2.len; rw [fi.2] at this; exact this.symm
        have ln1 : n1 = wd := by have := t1.len; rw [fk.1] at this; exact this.symm
        have ln2 : n2 = t := by have := t2.len; rw [fk.2] at this; exact this.symm
        have hlw : l < b1 := by rw [lb1]; exact hlw0
        obtain ⟨bx,ox,cx,rfl,hcx,hxx⟩ := s1.at l hlw
        have hcA : atS (F i).1 (leadS (F k).1) = cx := by rw [hLJ]; exact at_of hxx.out
        obtain ⟨YJ,hYJ⟩ : ∃ YJ,YJ = lessF (F i) cx (F k) := ⟨_,rfl⟩
        have HST : Hid (rowB i (k + 1) G = updF F i YJ) := by show _ = _; rw [HSTEP.out]; unfold stepB; rw [if_neg hki,hcA,← hYJ]
        have HLD : Hid (∀ W,Sl B8 W p1 n1 e1 (F k).1 → Calls Tryz.prog 105 #[.slice p1 n1 e1] W fun e w' => e = .returned (.int .i64 (l : Nat)) ∧ W = w') := fun W h => by have := RLead_any _ _ _ _ W h; rwa [hLJ] at this
        have HLS' : Hid (∀ W,Sl B8 W (some ⟨bx,ox,none⟩) b1 d1 (F i).1 → Sl B8 W a2 b2 d2 (F i).2 → Sl B8 W p1 n1 e1 (F k).1 → Sl B8 W p2 n2 e2 (F k).2 → Calls Tryz.prog 104 #[.agg #[.slice (some ⟨bx,ox,none⟩) b1 d1,.slice a2 b2 d2],B8 cx,.agg #[.slice p1 n1 e1,.slice p2 n2 e2]] W (RetR2 5 W YJ 0)) := fun W h1 h2 h3 h4 => by
         have := RLess_any (some ⟨bx,ox,none⟩) a2 p1 p2 b1 d1 b2 d2 n1 e1 n2 e2 (F i).1 (F i).2 (F k).1 (F k).2 cx W h1 h2 h3 h4 (by rw [lb1]; exact HR1.out) (by rw [lb2]; exact HR2.out) (by rw [ln1]; exact HR1.out) (by rw [ln2]; exact HR2.out)
         rw [lessS_fit (n := wd) (t := t) (x := F i) (k := F k) fi fk,← hYJ] at this
         exact this
        have S1 := Lib.hid s1; have S2 := Lib.hid s2; have T1 := Lib.hid t1; have T2 := Lib.hid t2
        have MC := Lib.hid hMC; have BB := Lib.hid hB.out
        have hgx : g < wr.heap.size := lt_of_cell cu0
        have lw : (l : Int) < (b1 : Int) := by omega
        have ne : (5 : Nat) ≠ 187 := by decide
        have HLS := HLS'
        clear HLS' s1 s2 t1 t2 hMC hM hB hbi hF HSTEP fi li fk lk hl hLJ hlw0 lb1 lb2 ln1 ln2 hxx hcA hYJ
        go_wp2_with fail
        refine wp_region_boxed 187 (fun ix => ([.val _ _ (.slice (some ⟨g,0,none⟩) no co),.val _ _ (.int .i64 i),.val _ _ (.pointer (some ⟨g,i * 2,none⟩)),.val _ _ (.agg #[.slice (some ⟨bx,ox,none⟩) b1 d1,.slice a2 b2 d2]),.val _ _ (.slice (some ⟨g,0,none⟩) no co),.val _ _ (.int .i64 i),.val _ _ (.pointer (some ⟨g,i * 2,none⟩)),.val _ _ (.pointer (some ⟨g,i * 2,none⟩)),.val _ _ (.slice (some ⟨bx,ox,none⟩) b1 d1),.val _ _ (.slice (some ⟨g,0,none⟩) no co),.val _ _ (.int .i64 k),.val _ _ (.pointer (some ⟨g,k * 2,none⟩)),.val _ _ (.pointer (some ⟨g,k * 2,none⟩)),.val _ _ (.slice p1 n1 e1),.val _ _ (.int .i64 (l : Nat)),.val _ _ (.pointer (some ⟨bx,ox + l,none⟩)),.val _ _ (B8 cx),.val _ _ (.slice (some ⟨g,0,none⟩) no co),.val _ _ (.int .i64 k),.val _ _ (.pointer (some ⟨g,k * 2,none⟩)),.val _ _ (.agg #[.slice p1 n1 e1,.slice p2 n2 e2]),ShX.rowTB _ _ (YJ) (0),ShX.rowTB _ _ (YJ) (0),ShX.rowB _ _ (YJ),.val _ _ (.int .i64 0),.box _ _ 2,.any _ _,.val _ _ (.int .i64 0)][ix]?).getD (.any _ _)) 26 8 (ShX.rowB _ _ (YJ)) 65 rfl (by kernel_rfl) (by decide) (by decide) (by decide) ?_ ?_
        ·refine ⟨?_,?_,?_,?_,?_,?_,?_,?_,?_,?_,?_,?_,?_,?_,?_,?_,?_,?_,?_,?_,?_,?_,?_,?_,?_,?_,?_,?_,trivial⟩
         ·intro a W hb hs hp hi
          have t3 : sl a 3 = .slice (some ⟨g,0,none⟩) no co := hi 3 (by decide)
          exact ite_y rfl (wp_val (sl a 3) rfl ⟨_,rfl,Below.refl _ _,t3⟩)
         ·intro a W hb hs hp hi
          have t6 : sl a 6 = .int .i64 i := hi 6 (by decide)
          exact ite_y rfl (wp_val (sl a 6) rfl ⟨_,rfl,Below.refl _ _,t6⟩)
         ·intro a W hb hs hp hi
          have ti0 : sl a 34 = .slice (some ⟨g,0,none⟩) no co := hp 0 (by decide)
          have ti1 : sl a 35 = .int .i64 i := hp 1 (by decide)
          refine ite_y rfl (wp_val (.pointer (some ⟨g,i * 2,none⟩)) ?_ ?_)
          ·simp only [execOp,eval_tmp,eval_const,ti0,ti1]; simp [go_sem,inn,hi]
          ·exact ⟨_,rfl,Below.refl _ _,rfl⟩
         ·intro a W hb hs hp hi
          have tt : sl a 36 = .pointer (some ⟨g,i * 2,none⟩) := hp 2 (by decide)
          have dd0 := (hb.cell (p := ⟨g,i * 2,none⟩) (lt_of_cell cu0)).trans cu0
          have dd1 := (hb.cell (p := ⟨g,i * 2 + 1,none⟩) (lt_of_cell cu1)).trans cu1
          refine ite_y rfl (wp_val (.agg #[.slice (some ⟨bx,ox,none⟩) b1 d1,.slice a2 b2 d2]) ?_ ?_)
          ·simp only [execOp,eval_tmp,tt]; simp [go_sem,dd0,dd1]
          ·exact ⟨_,rfl,Below.refl _ _,rfl⟩
         ·intro a W hb hs hp hi
          have t3 : sl a 3 = .slice (some ⟨g,0,none⟩) no co := hi 3 (by decide)
          exact ite_y rfl (wp_val (sl a 3) rfl ⟨_,rfl,Below.refl _ _,t3⟩)
         ·intro a W hb hs hp hi
          have t6 : sl a 6 = .int .i64 i := hi 6 (by decide)
          exact ite_y rfl (wp_val (sl a 6) rfl ⟨_,rfl,Below.refl _ _,t6⟩)
         ·intro a W hb hs hp hi
          have ti0 : sl a 38 = .slice (some ⟨g,0,none⟩) no co := hp 4 (by decide)
          have ti1 : sl a 39 = .int .i64 i := hp 5 (by decide)
          refine ite_y rfl (wp_val (.pointer (some ⟨g,i * 2,none⟩)) ?_ ?_)
          ·simp only [execOp,eval_tmp,eval_const,ti0,ti1]; simp [go_sem,inn,hi]
          ·exact ⟨_,rfl,Below.refl _ _,rfl⟩
         ·intro a W hb hs hp hi
          have t40 : sl a 40 = .pointer (some ⟨g,i * 2,none⟩) := hp 6 (by decide)
          refine ite_y rfl (wp_val (.pointer (some ⟨g,i * 2,none⟩)) ?_ ?_)
          ·simp only [execOp,eval_tmp,eval_const,t40]; simp [go_sem]
          ·exact ⟨_,rfl,Below.refl _ _,rfl⟩
         ·intro a W hb hs hp hi
          have tt : sl a 41 = .pointer (some ⟨g,i * 2,none⟩) := hp 7 (by decide)
          have dd0 := (hb.cell (p := ⟨g,i * 2,none⟩) (lt_of_cell cu0)).trans cu0
          refine ite_y rfl (wp_val (.slice (some ⟨bx,ox,none⟩) b1 d1) ?_ ?_)
          ·simp only [execOp,eval_tmp,tt]; simp [go_sem,dd0]
          ·exact ⟨_,rfl,Below.refl _ _,rfl⟩
         ·intro a W hb hs hp hi
          have t3 : sl a 3 = .slice (some ⟨g,0,none⟩) no co := hi 3 (by decide)
          exact ite_y rfl (wp_val (sl a 3) rfl ⟨_,rfl,Below.refl _ _,t3⟩)
         ·intro a W hb hs hp hi
          have t7 : sl a 7 = .int .i64 k := hi 7 (by decide)
          exact ite_y rfl (wp_val (sl a 7) rfl ⟨_,rfl,Below.refl _ _,t7⟩)
         ·intro a W hb hs hp hi
          have ti0 : sl a 43 = .slice (some ⟨g,0,none⟩) no co := hp 9 (by decide)
          have ti1 : sl a 44 = .int .i64 k := hp 10 (by decide)
          refine ite_y rfl (wp_val (.pointer (some ⟨g,k * 2,none⟩)) ?_ ?_)
          ·simp only [execOp,eval_tmp,eval_const,ti0,ti1]; simp [go_sem,knn,hk2]
          ·exact ⟨_,rfl,Below.refl _ _,rfl⟩
         ·intro a W hb hs hp hi
          have t45 : sl a 45 = .pointer (some ⟨g,k * 2,none⟩) := hp 11 (by decide)
          refine ite_y rfl (wp_val (.pointer (some ⟨g,k * 2,none⟩)) ?_ ?_)
          ·simp only [execOp,eval_tmp,eval_const,t45]; simp [go_sem]
          ·exact ⟨_,rfl,Below.refl _ _,rfl⟩
         ·intro a W hb hs hp hi
          have tt : sl a 46 = .pointer (some ⟨g,k * 2,none⟩) := hp 12 (by decide)
          have dd0 := (hb.cell (p := ⟨g,k * 2,none⟩) (lt_of_cell cv0)).trans cv0
          refine ite_y rfl (wp_val (.slice p1 n1 e1) ?_ ?_)
          ·simp only [execOp,eval_tmp,tt]; simp [go_sem,dd0]
          ·exact ⟨_,rfl,Below.refl _ _,rfl⟩
         ·intro a W hb hs hp hi
          have t47 : sl a 47 = .slice p1 n1 e1 := hp 13 (by decide)
          refine ite_y rfl (wp_enter 105 #[.slice p1 n1 e1] ?_ (HLD.out W (T1.out.keep hb)) ?_)
          ·simp only [execOp,resolve,List.map_toArray,List.map,eval_tmp,eval_func,eval_const,t47]; simp [go_sem]
          ·rintro e W' ⟨rfl,rfl⟩; exact ⟨_,rfl,_,rfl,Below.refl _ _,rfl⟩
         ·intro a W hb hs hp hi
          have ti0 : sl a 42 = .slice (some ⟨bx,ox,none⟩) b1 d1 := hp 8 (by decide)
          have ti1 : sl a 48 = .int .i64 (l : Nat) := hp 14 (by decide)
          refine ite_y rfl (wp_val (.pointer (some ⟨bx,ox + l,none⟩)) ?_ ?_)
          ·simp only [execOp,eval_tmp,eval_const,ti0,ti1]; simp [go_sem,lw,hlw]
          ·exact ⟨_,rfl,Below.refl _ _,rfl⟩
         ·intro a W hb hs hp hi
          have tt : sl a 49 = .pointer (some ⟨bx,ox + l,none⟩) := hp 15 (by decide)
          have dd := (hb.cell (p := ⟨bx,ox + l,none⟩) (lt_of_cell hcx)).trans hcx
          refine ite_y rfl (wp_val (B8 cx) ?_ ?_)
          ·simp only [execOp,eval_tmp,tt]; simp [go_sem,dd]
          ·exact ⟨_,rfl,Below.refl _ _,rfl⟩
         ·intro a W hb hs hp hi
          have t3 : sl a 3 = .slice (some ⟨g,0,none⟩) no co := hi 3 (by decide)
          exact ite_y rfl (wp_val (sl a 3) rfl ⟨_,rfl,Below.refl _ _,t3⟩)
         ·intro a W hb hs hp hi
          have t7 : sl a 7 = .int .i64 k := hi 7 (by decide)
          exact ite_y rfl (wp_val (sl a 7) rfl ⟨_,rfl,Below.refl _ _,t7⟩)
         ·intro a W hb hs hp hi
          have ti0 : sl a 51 = .slice (some ⟨g,0,none⟩) no co := hp 17 (by decide)
          have ti1 : sl a 52 = .int .i64 k := hp 18 (by decide)
          refine ite_y rfl (wp_val (.pointer (some ⟨g,k * 2,none⟩)) ?_ ?_)
          ·simp only [execOp,eval_tmp,eval_const,ti0,ti1]; simp [go_sem,knn,hk2]
          ·exact ⟨_,rfl,Below.refl _ _,rfl⟩
         ·intro a W hb hs hp hi
          have tt : sl a 53 = .pointer (some ⟨g,k * 2,none⟩) := hp 19 (by decide)
          have dd0 := (hb.cell (p := ⟨g,k * 2,none⟩) (lt_of_cell cv0)).trans cv0
          have dd1 := (hb.cell (p := ⟨g,k * 2 + 1,none⟩) (lt_of_cell cv1)).trans cv1
          refine ite_y rfl (wp_val (.agg #[.slice p1 n1 e1,.slice p2 n2 e2]) ?_ ?_)
          ·simp only [execOp,eval_tmp,tt]; simp [go_sem,dd0,dd1]
          ·exact ⟨_,rfl,Below.refl _ _,rfl⟩
         ·intro a W hb hs hp hi
          have t37 : sl a 37 = .agg #[.slice (some ⟨bx,ox,none⟩) b1 d1,.slice a2 b2 d2] := hp 3 (by decide)
          have t50 : sl a 50 = B8 cx := hp 16 (by decide)
          have t54 : sl a 54 = .agg #[.slice p1 n1 e1,.slice p2 n2 e2] := hp 20 (by decide)
          refine ite_y rfl (wp_enter 104 #[.agg #[.slice (some ⟨bx,ox,none⟩) b1 d1,.slice a2 b2 d2],B8 cx,.agg #[.slice p1 n1 e1,.slice p2 n2 e2]] ?_ (HLS.out W (S1.out.keep hb) (S2.out.keep hb) (T1.out.keep hb) (T2.out.keep hb)) ?_)
          ·simp only [execOp,resolve,List.map_toArray,List.map,eval_tmp,eval_func,eval_const,t37,t50,t54]; simp [go_sem]
          ·rintro e W' ⟨q5,m5,g5,q6,m6,g6,e5,e6,rfl,o5,o6,hw⟩
           exact ⟨_,rfl,_,rfl,hw,_,rfl,XRowB.of_owns ne o5 o6 hb.size⟩
         ·intro a W hb hs hp hi
          exact ite_y rfl (wp_val (sl a 55) rfl ⟨_,rfl,Below.refl _ _,hp 21 (by decide)⟩)
         ·intro a W hb hs hp hi
          have t33 : XRowTB _ _ (YJ) (0) (sl a 33) W := hp 22 (by decide)
          obtain ⟨u,t33,hr⟩ := t33
          refine ite_y rfl (wp_val (u) ?_ ?_)
          ·simp only [execOp,eval_tmp,t33]; rfl
          ·exact ⟨_,rfl,Below.refl _ _,hr⟩
         ·intro a W hb hs hp hi
          have t33 : XRowTB _ _ (YJ) (0) (sl a 33) W := hp 22 (by decide)
          obtain ⟨u,t33,hr⟩ := t33
          refine ite_y rfl (wp_val (.int .i64 0) ?_ ?_)
          ·simp only [execOp,eval_tmp,t33]; rfl
          ·exact ⟨_,rfl,Below.refl _ _,rfl⟩
         ·intro a W hb hs hp hi
          refine ite_y rfl (wp_val' (w' := W.alloc (.cells #[.slice none 0 0,.slice none 0 0] 187)) (.pointer (some ⟨W.heap.size,0,none⟩)) ?_ ?_)
          ·simp only [execOp]; simp [go_sem]
          ·exact ⟨_,rfl,al (Below.refl _ _) (Nat.le_refl _),W.heap.size,#[.slice none 0 0,.slice none 0 0],rfl,hb.size,rfl,hnew rfl⟩
         ·intro a W hb hs hp hi
          have tu : XRowB _ _ _ (sl a 56) W := hp 23 (by decide)
          have tb : XBox _ _ _ (sl a 8) W := hp 25 (by decide)
          obtain ⟨q5,m5,g5,q6,m6,g6,tu,z5,z6⟩ := tu
          obtain ⟨b,cs,tb,hB,hc,hh⟩ := tb
          obtain ⟨u0,u1,rfl⟩ := size2 hc
          obtain ⟨d0,d1⟩ := cells2 hh
          have z0 : W.frozen? ⟨b,0,none⟩ = false := frozen_of_row _ _ 0 _ _ hh
          have z1 : W.frozen? ⟨b,1,none⟩ = false := frozen_of_row _ _ 1 _ _ hh
          refine ite_y rfl (wp_skipX (w' := (W.setCell ⟨b,0,none⟩ (.slice q5 m5 g5)).setCell ⟨b,1,none⟩ (.slice q6 m6 g6)) ?_ ?_)
          ·simp only [execOp,eval_tmp,tu,tb]; simp [go_sem,d0,d1,z0,z1]
          ·have hst := stepX_set2 (v0 := .slice q5 m5 g5) (v1 := .slice q6 m6 g6) hB hh
           exact ⟨_,rfl,hst,b,_,tb,hB,heap_set2 hh,XRowB.step (by exact ⟨q5,m5,g5,q6,m6,g6,rfl,z5,z6⟩) hst⟩
         ·intro a W hb hs hp hi
          have t57 : sl a 57 = .int .i64 0 := hp 24 (by decide)
          exact ite_y rfl (wp_val (sl a 57) rfl ⟨_,rfl,Below.refl _ _,t57⟩)
        intro a w9 hb hs hd hI ht
        have ha := act_is [34,35,36,37,38,39,40,41,42,43,44,45,46,47,48,49,50,51,52,53,54,55,33,56,57,8,9] hs hd ht (by decide)
        have tb : Boxed _ _ _ _ (sl a) w9 := hI 26 (by decide)
        obtain ⟨b8,cs,tb,hB8,h8,q8a,m8a,g8a,q8b,m8b,g8b,ec,⟨⟨z8a,-⟩,⟨z8b,-⟩⟩,y8a,y8b⟩ := tb
        obtain rfl : cs = #[.slice q8a m8a g8a,.slice q8b m8b g8b] := by injection ec
        simp only [List.foldl,tb] at ha
        generalize sl a 34 = u34 at ha
        generalize sl a 35 = u35 at ha
        generalize sl a 36 = u36 at ha
        generalize sl a 37 = u37 at ha
        generalize sl a 38 = u38 at ha
        generalize sl a 39 = u39 at ha
        generalize sl a 40 = u40 at ha
        generalize sl a 41 = u41 at ha
        generalize sl a 42 = u42 at ha
        generalize sl a 43 = u43 at ha
        generalize sl a 44 = u44 at ha
        generalize sl a 45 = u45 at ha
        generalize sl a 46 = u46 at ha
        generalize sl a 47 = u47 at ha
        generalize sl a 48 = u48 at ha
        generalize sl a 49 = u49 at ha
        generalize sl a 50 = u50 at ha
        generalize sl a 51 = u51 at ha
        generalize sl a 52 = u52 at ha
        generalize sl a 53 = u53 at ha
        generalize sl a 54 = u54 at ha
        generalize sl a 55 = u55 at ha
        generalize sl a 33 = u33 at ha
        generalize sl a 56 = u56 at ha
        generalize sl a 57 = u57 at ha
        generalize sl a 9 = u9 at ha
        simp only [Act.put,List.setIfInBounds_toArray,List.set_cons_zero,List.set_cons_succ] at ha
        rw [ha]
        clear ha hI ht
        have MC9 := Lib.hid (MC.out.keep hb); have BB9 := Lib.hid (bl BB.out hb BB.out.size)
        have g9 := MC9.out.at hi
        obtain ⟨r1,r2,r3,r4,r5,r6,cu0',cu1',fz0',fz1',-⟩ := g9
        obtain ⟨y0,y1⟩ := cells2 h8
        have hoff : RowOff2 w9 g (.slice q8a m8a g8a) (.slice q8b m8b g8b) YJ := ⟨q8a,m8a,g8a,q8b,m8b,g8b,rfl,rfl,z8a,z8b,fun h a ha => by have := y8a h a ha; omega,fun h a ha => by have := y8b h a ha; omega⟩
        have NX : Hid (RMemV ((w9.setCell ⟨g,i * 2,none⟩ (.slice q8a m8a g8a)).setCell ⟨g,i * 2 + 1,none⟩ (.slice q8b m8b g8b)) w.heap.size 187 (some ⟨g,0,none⟩) no co (rowB i (k + 1) G) ∧ Below w.heap.size w ((w9.setCell ⟨g,i * 2,none⟩ (.slice q8a m8a g8a)).setCell ⟨g,i * 2 + 1,none⟩ (.slice q8b m8b g8b))) := by
         rw [HST.out]
         exact ⟨.inr ⟨g,rfl,hgw,MC9.out.set hi hoff⟩,(BB9.out.setCell hgw _).setCell hgw _⟩
        clear MC BB MC9 BB9 hoff z8a z8b y8a y8b hb S1 S2 T1 T2 HLD HLS HST cu0 cu1 cv0 cv1 fz0 fz1 h8 hcx
        go_wp2
        go_roundw
        case rel => exact ⟨k + 1,by omega,by go_num,NX.out.1,NX.out.2⟩
        case measure => simp [intOf]; omega
      ·have hkm : k = no := by omega
       have hge : (no : Int) ≤ (k : Int) := by omega
       have HF1 : Hid (RMemV wr w.heap.size 187 qo no co (backB no (i + 1) (listF K0))) := by show RMemV _ _ _ _ _ _ _; rw [← HNXT.out]; have h := hM.out; rw [hkm] at h; exact h
       have BB := Lib.hid hB.out
       clear hM hB hkm
       go_wp2
       go_roundw
       case rel => exact ⟨i + 1,by omega,by go_num,HF1.out,BB.out⟩
       case measure => simp [intOf]; omega
    ·have him : i = no := by omega
     have hge : (no : Int) ≤ (i : Int) := by omega
     have HF1 : Hid (RwS wr qo no co ((List.range no).map (backB no no (listF K0))) ∧ Below w.heap.size w wr ∧ (no = 0 ∨ ∃ g,qo = some ⟨g,0,none⟩ ∧ w.heap.size ≤ g)) := ⟨by have h := hM.out; rw [him] at h; exact h.rwS HSH.out.1 HSH.out.2.1 HSH.out.2.2,hB.out,hM.out.imp id fun ⟨g,e,h,_⟩ => ⟨g,e,h⟩⟩
     clear hM hB him
     go_wp2
     go_ret
     exact ⟨qo,no,co,by rw [HRES.out]; simp,rfl,by rw [HRES.out]; exact HF1.out.1,HF1.out.2.1,HF1.out.2.2⟩
end Go.Proofs.YtfbmdlfkipipfaaGreatDoor
namespace Go.By
open Go.RowKit
theorem RwS.set {w : World} {p p1 p2 : Option Addr} {n c g o T n1 c1 n2 c2 : Nat} {fr : Nat × Nat} {v : Value} {K : List (List UInt8 × List UInt8)} (h : RwS w p n c K) (hp : 0 < n → ∀ a,p = some a → a.block ≠ g) (hg : w.heap[g]? = some (.cells #[.slice p1 n1 c1,.slice p2 n2 c2] T fr)) :
  RwS (w.setCell ⟨g,o,none⟩ v) p n c K := by
 refine ⟨h.len,h.le,h.max,h.nil,fun j k hj => ?_⟩
 have hjn : 0 < n := by have := (List.getElem?_eq_some_iff.1 hj).1; have := h.len; omega
 obtain ⟨b,o',q1,m1,d1,q2,m2,d2,e,h1,h2,h3,h4⟩ := h.row j k hj
 have hb : b ≠ g := hp hjn ⟨b,o',none⟩ e
 exact ⟨b,o',q1,m1,d1,q2,m2,d2,e,(World.cell?_of_block (a := ⟨b,o' + j * 2,none⟩) (Below.heap_setCell _ _ _ _ hb)).trans h1,(World.cell?_of_block (a := ⟨b,o' + j * 2 + 1,none⟩) (Below.heap_setCell _ _ _ _ hb)).trans h2,
  h3.set2 (fun h0 => h3.away hg h0),h4.set2 (fun h0 => h4.away hg h0)⟩
end Go.By
namespace Go.Proofs.YtfbmdlfkipipfaaGreatDoor
open Go.RowKit Go.By
end Go.Proofs.YtfbmdlfkipipfaaGreatDoor
namespace Go.Proofs.YtfbmdlfkipipfaaGreatDoor
open Go.RowKit Go.By
theorem less_zero {n t : Nat} {x k : Rw} (hx : Fit n t x) (hk : Fit n t k) : lessF x 0 k = x := by
 unfold lessF
 rw [axpy_zero_of rfl (by rw [hk.1,hx.1]),axpy_zero_of rfl (by rw [hk.2,hx.2])]
set_option maxRecDepth 100000 in
set_option maxHeartbeats 4000000 in
theorem ERest_any (base be k t n : Nat) (v : Value) (K : List Rw) (p1 p2 : Option Addr) (c1 c2 : Nat) (x : Rw) (w : World) (hE : Elm w base be k t v n K) (s1 : Sl B8 w p1 k c1 x.1) (s2 : Sl B8 w p2 t c2 x.2) (hK : ∀ r,r ∈ K → Fit k t r ∧ Led r) (hk : k ≤ 4096) (ht : t ≤ 65535) :
  Calls Tryz.prog 112 #[.pointer (some ⟨be,0,none⟩),.agg #[.slice p1 k c1,.slice p2 t c2]] w (RetR2 5 w (restF K x) 0) := by
 have hinfo := info_row
 obtain ⟨q,c,rfl⟩ := hE.rows.shape
 have HE := Lib.hid hE; have S1 := Lib.hid s1; have S2 := Lib.hid s2; have HK := Lib.hid hK; have HLEN := Lib.hid hE.rows.len
 have HX : Hid (Fit k t x) := ⟨s1.len,s2.len⟩
 have hnb : n ≤ 9223372036854775807 := by
  obtain ⟨vs,a,b,o,r⟩ := hE.rows
  rcases o.2 with ⟨hv,hn⟩ | ⟨g,cap,cur,hv,_,_,h1,h2,_⟩
  ·simp at hv; omega
  ·unfold maxLen at h2; omega
 clear hE s1 s2 hK
 go_enter Tryz.func112,Tryz.ntmps112
 go_wp2
 have b0 : Below w.heap.size w ((w.alloc (.cells #[.slice p1 k c1,.slice p2 t c2] 139)).alloc (.cells #[.slice none 0 0,.slice none 0 0] 139)) := al (al (Below.refl _ _) (Nat.le_refl _)) (by simp)
 have x0 : ((w.alloc (.cells #[.slice p1 k c1,.slice p2 t c2] 139)).alloc (.cells #[.slice none 0 0,.slice none 0 0] 139)).heap[w.heap.size]? = some (.cells #[.slice p1 k c1,.slice p2 t c2] 139 (0,0)) := hal (hnew rfl)
 have z0 : ((w.alloc (.cells #[.slice p1 k c1,.slice p2 t c2] 139)).alloc (.cells #[.slice none 0 0,.slice none 0 0] 139)).heap[w.heap.size + 1]? = some (.cells #[.slice none 0 0,.slice none 0 0] 139 (0,0)) := hnew (by simp)
 generalize (w.alloc (.cells #[.slice p1 k c1,.slice p2 t c2] 139)).alloc (.cells #[.slice none 0 0,.slice none 0 0] 139) = w2 at b0 x0 z0 ⊢
 have B2 := Lib.hid b0; have X2 := Lib.hid x0; have Z2 := Lib.hid z0
 clear b0 x0 z0
 have E2 := Lib.hid (HE.out.keep B2.out)
 obtain ⟨f0,f1,f2⟩ := cells3 E2.out.box
 obtain ⟨y0,y1⟩ := cells2 X2.out
 refine wp_region_shapes (fun ix => ([.val (.pointer (some ⟨w.heap.size,0,none⟩)),.val (.slice p1 k c1),.val (.int .i64 (k : Nat)),.val (.pointer (some ⟨be,0,none⟩)),.val (.pointer (some ⟨be,0,none⟩)),.val (.pointer (some ⟨be,0,none⟩)),.val (.int .i64 k),.val (.bool false),.val (.bool false),.val (.pointer (some ⟨w.heap.size,1,none⟩)),.val (.slice p2 t c2),.val (.int .i64 (t : Nat)),.val (.pointer (some ⟨be,0,none⟩)),.val (.pointer (some ⟨be,0,none⟩)),.val (.pointer (some ⟨be,1,none⟩)),.val (.int .i64 t),.val (.bool false),.val (.bool false)][ix]?).getD (.any)) 60 rfl (by kernel_rfl) (by decide) (by decide) (by decide) ?_ ?_
 ·refine ⟨?_,?_,?_,?_,?_,?_,?_,?_,?_,?_,?_,?_,?_,?_,?_,?_,?_,?_,trivial⟩
  ·intro a W hb0 hs hp hi; have hb := undrew hb0; clear hb0
   have t3 : sl a 3 = .pointer (some ⟨w.heap.size,0,none⟩) := hi 3 (by decide)
   refine ite_y rfl (wp_val (.pointer (some ⟨w.heap.size,0,none⟩)) ?_ ?_)
   ·simp only [execOp,eval_tmp,eval_const,t3]; simp [go_sem]
   ·exact ⟨_,rfl,Below.refl _ _,rfl⟩
  ·intro a W hb0 hs hp hi; have hb := undrew hb0; clear hb0
   have tt : sl a 13 = .pointer (some ⟨w.heap.size,0,none⟩) := hp 0 (by decide)
   have dd := (hb.cell (p := ⟨w.heap.size,0,none⟩) (lt_of_cell y0)).trans y0
   refine ite_y rfl (wp_val (.slice p1 k c1) ?_ ?_)
   ·simp only [execOp,eval_tmp,tt]; simp [go_sem,dd]
   ·exact ⟨_,rfl,Below.refl _ _,rfl⟩
  ·intro a W hb0 hs hp hi; have hb := undrew hb0; clear hb0
   have t14 : sl a 14 = .slice p1 k c1 := hp 1 (by decide)
   refine ite_y rfl (wp_val (.int .i64 (k : Nat)) ?_ ?_)
   ·simp only [execOp,resolve,List.map_toArray,List.map,eval_tmp,eval_func,eval_const,t14]; simp [go_sem]
   ·exact ⟨_,rfl,Below.refl _ _,rfl⟩
  ·intro a W hb0 hs hp hi; have hb := undrew hb0; clear hb0
   have t0 : sl a 0 = .pointer (some ⟨be,0,none⟩) := hi 0 (by decide)
   exact ite_y rfl (wp_val (sl a 0) rfl ⟨_,rfl,Below.refl _ _,t0⟩)
  ·intro a W hb0 hs hp hi; have hb := undrew hb0; clear hb0
   have tt : sl a 16 = .pointer (some ⟨be,0,none⟩) := hp 3 (by decide)
   refine ite_y rfl (wp_val (.pointer (some ⟨be,0,none⟩)) ?_ ?_)
   ·simp only [execOp,eval_tmp,tt]; simp [go_sem]
   ·exact ⟨_,rfl,Below.refl _ _,rfl⟩
  ·intro a W hb0 hs hp hi; have hb := undrew hb0; clear hb0
   have t17 : sl a 17 = .pointer (some ⟨be,0,none⟩) := hp 4 (by decide)
   refine ite_y rfl (wp_val (.pointer (some ⟨be,0,none⟩)) ?_ ?_)
   ·simp only [execOp,eval_tmp,eval_const,t17]; simp [go_sem]
   ·exact ⟨_,rfl,Below.refl _ _,rfl⟩
  ·intro a W hb0 hs hp hi; have hb := undrew hb0; clear hb0
   have tt : sl a 18 = .pointer (some ⟨be,0,none⟩) := hp 5 (by decide)
   have dd := (hb.cell (p := ⟨be,0,none⟩) (lt_of_cell f0)).trans f0
   refine ite_y rfl (wp_val (.int .i64 k) ?_ ?_)
   ·simp only [execOp,eval_tmp,tt]; simp [go_sem,dd]
   ·exact ⟨_,rfl,Below.refl _ _,rfl⟩
  ·intro a W hb0 hs hp hi; have hb := undrew hb0; clear hb0
   have t15 : sl a 15 = .int .i64 (k : Nat) := hp 2 (by decide)
   have t19 : sl a 19 = .int .i64 k := hp 6 (by decide)
   refine ite_y rfl (wp_val (.bool false) ?_ ?_)
   ·simp only [execOp,eval_tmp,eval_const,t15,t19]; simp [go_sem]
   ·exact ⟨_,rfl,Below.refl _ _,rfl⟩
  ·intro a W hb0 hs hp hi; have hb := undrew hb0; clear hb0
   have t20 : sl a 20 = .bool false := hp 7 (by decide)
   exact ite_y rfl (wp_val (sl a 20) rfl ⟨_,rfl,Below.refl _ _,t20⟩)
  ·intro a W hb0 hs hp hi; have hb := undrew hb0; clear hb0
   have tg : sl a 21 = .bool false := hp 8 (by decide)
   have t3 : sl a 3 = .pointer (some ⟨w.heap.size,0,none⟩) := hi 3 (by decide)
   refine ite_y (wanted_yes rfl rfl (by have hz : a.tmps.size = 60 := hs; rw [hz]; decide) tg) (wp_val (.pointer (some ⟨w.heap.size,1,none⟩)) ?_ ?_)
   ·simp only [execOp,eval_tmp,eval_const,t3]; simp [go_sem]
   ·exact ⟨_,rfl,Below.refl _ _,rfl⟩
  ·intro a W hb0 hs hp hi; have hb := undrew hb0; clear hb0
   have tg : sl a 21 = .bool false := hp 8 (by decide)
   have tt : sl a 22 = .pointer (some ⟨w.heap.size,1,none⟩) := hp 9 (by decide)
   have dd := (hb.cell (p := ⟨w.heap.size,1,none⟩) (lt_of_cell y1)).trans y1
   refine ite_y (wanted_yes rfl rfl (by have hz : a.tmps.size = 60 := hs; rw [hz]; decide) tg) (wp_val (.slice p2 t c2) ?_ ?_)
   ·simp only [execOp,eval_tmp,tt]; simp [go_sem,dd]
   ·exact ⟨_,rfl,Below.refl _ _,rfl⟩
  ·intro a W hb0 hs hp hi; have hb := undrew hb0; clear hb0
   have tg : sl a 21 = .bool false := hp 8 (by decide)
   have t23 : sl a 23 = .slice p2 t c2 := hp 10 (by decide)
   refine ite_y (wanted_yes rfl rfl (by have hz : a.tmps.size = 60 := hs; rw [hz]; decide) tg) (wp_val (.int .i64 (t : Nat)) ?_ ?_)
   ·simp only [execOp,resolve,List.map_toArray,List.map,eval_tmp,eval_func,eval_const,t23]; simp [go_sem]
   ·exact ⟨_,rfl,Below.refl _ _,rfl⟩
  ·intro a W hb0 hs hp hi; have hb := undrew hb0; clear hb0
   have tg : sl a 21 = .bool false := hp 8 (by decide)
   have t0 : sl a 0 = .pointer (some ⟨be,0,none⟩) := hi 0 (by decide)
   exact ite_y (wanted_yes rfl rfl (by have hz : a.tmps.size = 60 := hs; rw [hz]; decide) tg) (wp_val (sl a 0) rfl ⟨_,rfl,Below.refl _ _,t0⟩)
  ·intro a W hb0 hs hp hi; have hb := undrew hb0; clear hb0
   have tg : sl a 21 = .bool false := hp 8 (by decide)
   have tt : sl a 25 = .pointer (some ⟨be,0,none⟩) := hp 12 (by decide)
   refine ite_y (wanted_yes rfl rfl (by have hz : a.tmps.size = 60 := hs; rw [hz]; decide) tg) (wp_val (.pointer (some ⟨be,0,none⟩)) ?_ ?_)
   ·simp only [execOp,eval_tmp,tt]; simp [go_sem]
   ·exact ⟨_,rfl,Below.refl _ _,rfl⟩
  ·intro a W hb0 hs hp hi; have hb := undrew hb0; clear hb0
   have tg : sl a 21 = .bool false := hp 8 (by decide)
   have t26 : sl a 26 = .pointer (some ⟨be,0,none⟩) := hp 13 (by decide)
   refine ite_y (wanted_yes rfl rfl (by have hz : a.tmps.size = 60 := hs; rw [hz]; decide) tg) (wp_val (.pointer (some ⟨be,1,none⟩)) ?_ ?_)
   ·simp only [execOp,eval_tmp,eval_const,t26]; simp [go_sem]
   ·exact ⟨_,rfl,Below.refl _ _,rfl⟩
  ·intro a W hb0 hs hp hi; have hb := undrew hb0; clear hb0
   have tg : sl a 21 = .bool false := hp 8 (by decide)
   have tt : sl a 27 = .pointer (some ⟨be,1,none⟩) := hp 14 (by decide)
   have dd := (hb.cell (p := ⟨be,1,none⟩) (lt_of_cell f1)).trans f1
   refine ite_y (wanted_yes rfl rfl (by have hz : a.tmps.size = 60 := hs; rw [hz]; decide) tg) (wp_val (.int .i64 t) ?_ ?_)
   ·simp only [execOp,eval_tmp,tt]; simp [go_sem,dd]
   ·exact ⟨_,rfl,Below.refl _ _,rfl⟩
  ·intro a W hb0 hs hp hi; have hb := undrew hb0; clear hb0
   have tg : sl a 21 = .bool false := hp 8 (by decide)
   have t24 : sl a 24 = .int .i64 (t : Nat) := hp 11 (by decide)
   have t28 : sl a 28 = .int .i64 t := hp 15 (by decide)
   refine ite_y (wanted_yes rfl rfl (by have hz : a.tmps.size = 60 := hs; rw [hz]; decide) tg) (wp_val (.bool false) ?_ ?_)
   ·simp only [execOp,eval_tmp,eval_const,t24,t28]; simp [go_sem]
   ·exact ⟨_,rfl,Below.refl _ _,rfl⟩
  ·intro a W hb0 hs hp hi; have hb := undrew hb0; clear hb0
   have t21 : sl a 21 = .bool false := hp 8 (by decide)
   have t29 : sl a 29 = .bool false := hp 16 (by decide)
   refine ite_y rfl (wp_val (.bool false) ?_ ?_)
   ·simp only [execOp,eval_tmp,eval_const,t21,t29]; simp [go_sem]
   ·exact ⟨_,rfl,Below.refl _ _,rfl⟩
 intro a w3 hb hs hd hI ht
 have ha := act_is [13,14,15,16,17,18,19,20,21,22,23,24,25,26,27,28,29,30] hs hd ht (by decide)
 have t30 : sl a 30 = .bool false := hI 17 (by decide)
 simp only [List.foldl,t30] at ha
 generalize sl a 13 = u13 at ha
 generalize sl a 14 = u14 at ha
 generalize sl a 15 = u15 at ha
 generalize sl a 16 = u16 at ha
 generalize sl a 17 = u17 at ha
 generalize sl a 18 = u18 at ha
 generalize sl a 19 = u19 at ha
 generalize sl a 20 = u20 at ha
 generalize sl a 21 = u21 at ha
 generalize sl a 22 = u22 at ha
 generalize sl a 23 = u23 at ha
 generalize sl a 24 = u24 at ha
 generalize sl a 25 = u25 at ha
 generalize sl a 26 = u26 at ha
 generalize sl a 27 = u27 at ha
 generalize sl a 28 = u28 at ha
 generalize sl a 29 = u29 at ha
 simp only [Act.put,List.setIfInBounds_toArray,List.set_cons_zero,List.set_cons_succ] at ha
 rw [ha]
 clear ha hI ht
 have B3 := Lib.hid (bl B2.out hb B2.out.size)
 have X3 := Lib.hid ((hb.block _ (blk_lt X2.out)).trans X2.out); have Z3 := Lib.hid ((hb.block _ (blk_lt Z2.out)).trans Z2.out)
 have hsz3 : w.heap.size + 2 ≤ w3.heap.size := by have := blk_lt Z3.out; omega
 clear hb B2 X2 Z2 E2 f0 f1 f2 y0 y1
 obtain ⟨y0,y1⟩ := cells2 X3.out
 go_wp2_with fail
 refine Calls.mono (RClone_any p1 p2 k c1 t c2 x.1 x.2 w3 (S1.out.keep B3.out) (S2.out.keep B3.out) (by unfold Room; omega) (by unfold Room; omega)) ?_
 rintro e w4 ⟨q1,m1,g1,q2,m2,g2,l1,l2,rfl,o1,o2,hb⟩
 have B4 := Lib.hid (bl B3.out hb B3.out.size)
 have Z4 := Lib.hid ((hb.block _ (blk_lt Z3.out)).trans Z3.out)
 have O1 := Lib.hid (owns_mono o1 hsz3); have O2 := Lib.hid (owns_mono o2 hsz3)
 have E4 := Lib.hid (HE.out.keep B4.out)
 have BA : Hid (∀ o,Below w4.heap.size w4 (w4.alloc o)) := fun o => al (Below.refl _ _) (Nat.le_refl _)
 have hb4 : w.heap.size + 2 ≤ w4.heap.size := Nat.le_trans hsz3 hb.size
 clear hb o1 o2 B3 X3 Z3 y0 y1 l1 l2
 obtain ⟨f0,f1,f2⟩ := cells3 (hal (o := .cells #[.slice q1 m1 g1,.slice q2 m2 g2] 139) E4.out.box)
 obtain ⟨b6,h6⟩ : ∃ b6,b6 = w4.heap.size := ⟨_,rfl⟩
 go_wp2
 clear f0 f1 f2
 rw [← h6]
 have hb6w : w.heap.size + 2 ≤ b6 := by omega
 have H6 := Lib.hid h6
 clear h6
 go_loopw [39] (fun i wr => ∃ (j : Nat) (q1 : Option Addr) (m1 g1 : Nat) (q2 : Option Addr) (m2 g2 : Nat),j ≤ n ∧ i = .int .i64 j ∧ Hid (wr.heap[b6]? = some (.cells #[.slice q1 m1 g1,.slice q2 m2 g2] 139 (0,0))) ∧
  Hid (wr.ownsRow (w.heap.size + 2) 5 1 (.slice q1 m1 g1) m1 ((restF (K.take j) x).1.map B8)) ∧ Hid (wr.ownsRow (w.heap.size + 2) 5 1 (.slice q2 m2 g2) m2 ((restF (K.take j) x).2.map B8)) ∧ Hid (Below w.heap.size w wr) ∧
  Hid (wr.heap[w.heap.size + 1]? = some (.cells #[.slice none 0 0,.slice none 0 0] 139 (0,0)))) (fun i _ => n - (intOf i).toNat)
 case atStart => exact ⟨0,q1,m1,g1,q2,m2,g2,Nat.zero_le _,rfl,hnew H6.out,owns_keep O1.out (BA.out _),owns_keep O2.out (BA.out _),bl B4.out (BA.out _) B4.out.size,hal Z4.out⟩
 case round =>
  clear O1 O2 B4 Z4 E4 BA
  obtain ⟨j,q1,m1,g1,q2,m2,g2,hj,rfl,hL,hO1,hO2,hB,hZ⟩ := hrel
  by_cases hjl : j < n
  ·obtain ⟨gk,kk,a1,b1,d1,a2,b2,d2,rfl,e1,e2,hkk,t1,t2⟩ := (HE.out.keep hB.out).rows.at hjl
   have T1 := Lib.hid t1; have T2 := Lib.hid t2
   have jn : (j : Int) < (n : Int) := by omega
   have fk := HK.out kk (List.mem_of_getElem? hkk.out)
   obtain ⟨XJ,hXJ⟩ : ∃ XJ,XJ = restF (K.take j) x := ⟨_,rfl⟩
   have fitX : Fit k t XJ := by rw [hXJ]; exact HX.out.rest (fun a ha => (HK.out a (List.mem_of_mem_take ha)).1)
   rw [← hXJ] at hO1 hO2
   obtain ⟨LJ,hLJ⟩ : ∃ LJ,LJ = leadS kk.1 := ⟨_,rfl⟩
   obtain ⟨CJ,hCJ⟩ : ∃ CJ,CJ = atS XJ.1 LJ := ⟨_,rfl⟩
   obtain ⟨YJ,hYJ⟩ : ∃ YJ,YJ = lessF XJ CJ kk := ⟨_,rfl⟩
   have hnext : Hid (restF (K.take (j + 1)) x = YJ) := by show _ = _; rw [restF_take hkk.out,← hXJ,hYJ,hCJ,hLJ]
   have lm1 : m1 = k := by have := (Sl.of_owns hO1.out).len; rw [fitX.1] at this; exact this.symm
   have lm2 : m2 = t := by have := (Sl.of_owns hO2.out).len; rw [fitX.2] at this; exact this.symm
   have HLD : Hid (∀ W,Sl B8 W a1 b1 d1 kk.1 → Calls Tryz.prog 87 #[.slice a1 b1 d1] W fun e w' => e = .returned (.int .i64 LJ) ∧ W = w') := fun W h => by rw [hLJ]; exact Lead_any _ _ _ _ W h
   have HAT : Hid (∀ W,Sl B8 W q1 m1 g1 XJ.1 → Calls Tryz.prog 86 #[.slice q1 m1 g1,.int .i64 LJ] W fun e w' => e = .returned (B8 CJ) ∧ W = w') := fun W h => by rw [hCJ]; exact At_any _ _ _ _ LJ W h
   have HLS : Hid (∀ W,Sl B8 W q1 m1 g1 XJ.1 → Sl B8 W q2 m2 g2 XJ.2 → Sl B8 W a1 b1 d1 kk.1 → Sl B8 W a2 b2 d2 kk.2 → Calls Tryz.prog 85 #[.agg #[.slice q1 m1 g1,.slice q2 m2 g2],B8 CJ,.agg #[.slice a1 b1 d1,.slice a2 b2 d2]] W (RetR2 5 W YJ 0)) := fun W h1 h2 h3 h4 => by
    have := Less_any q1 q2 a1 a2 m1 g1 m2 g2 b1 d1 b2 d2 XJ.1 XJ.2 kk.1 kk.2 CJ W h1 h2 h3 h4 (by rw [lm1]; unfold Room; omega) (by rw [lm2]; unfold Room; omega)
    rw [lessS_fit (n := k) (t := t) (x := XJ) (k := kk) fitX fk.1,← hYJ] at this
    exact this
   have hYz : Hid (CJ = 0 → YJ = XJ) := fun h => by rw [hYJ,h]; exact less_zero fitX fk.1
   have E1' := Lib.hid e1; have E2' := Lib.hid e2
   clear hXJ hLJ hCJ hYJ fk fitX lm1 lm2 t1 t2
   go_wp2
   clear e1 e2
   have ba : Below wr.heap.size wr (wr.alloc (.cells #[.slice a1 b1 d1,.slice a2 b2 d2] 139)) := al (Below.refl _ _) (Nat.le_refl _)
   have bx : (wr.alloc (.cells #[.slice a1 b1 d1,.slice a2 b2 d2] 139)).heap[wr.heap.size]? = some (.cells #[.slice a1 b1 d1,.slice a2 b2 d2] 139 (0,0)) := hnew rfl
   generalize wr.alloc (.cells #[.slice a1 b1 d1,.slice a2 b2 d2] 139) = w5 at ba bx ⊢
   have BA := Lib.hid ba; have BX := Lib.hid bx
   clear ba bx
   have L5 := Lib.hid ((BA.out.block _ (blk_lt hL.out)).trans hL.out)
   obtain ⟨y0,y1⟩ := cells2 L5.out
   obtain ⟨u0,u1⟩ := cells2 BX.out
   refine wp_region_shapes (fun ix => ([.val (.pointer (some ⟨b6,0,none⟩)),.val (.slice q1 m1 g1),.val (.pointer (some ⟨wr.heap.size,0,none⟩)),.val (.slice a1 b1 d1),.val (.int .i64 LJ),.val (B8 CJ),.val (B8 CJ)][ix]?).getD (.any)) 60 rfl (by kernel_rfl) (by decide) (by decide) (by decide) ?_ ?_
   ·refine ⟨?_,?_,?_,?_,?_,?_,?_,trivial⟩
    ·intro a W hb0 hs hp hi; have hb := undrew hb0; clear hb0
     have t6 : sl a 6 = .pointer (some ⟨b6,0,none⟩) := hi 6 (by decide)
     refine ite_y rfl (wp_val (.pointer (some ⟨b6,0,none⟩)) ?_ ?_)
     ·simp only [execOp,eval_tmp,eval_const,t6]; simp [go_sem]
     ·exact ⟨_,rfl,Below.refl _ _,rfl⟩
    ·intro a W hb0 hs hp hi; have hb := undrew hb0; clear hb0
     have tt : sl a 43 = .pointer (some ⟨b6,0,none⟩) := hp 0 (by decide)
     have dd := (hb.cell (p := ⟨b6,0,none⟩) (lt_of_cell y0)).trans y0
     refine ite_y rfl (wp_val (.slice q1 m1 g1) ?_ ?_)
     ·simp only [execOp,eval_tmp,tt]; simp [go_sem,dd]
     ·exact ⟨_,rfl,Below.refl _ _,rfl⟩
    ·intro a W hb0 hs hp hi; have hb := undrew hb0; clear hb0
     have t8 : sl a 8 = .pointer (some ⟨wr.heap.size,0,none⟩) := hi 8 (by decide)
     refine ite_y rfl (wp_val (.pointer (some ⟨wr.heap.size,0,none⟩)) ?_ ?_)
     ·simp only [execOp,eval_tmp,eval_const,t8]; simp [go_sem]
     ·exact ⟨_,rfl,Below.refl _ _,rfl⟩
    ·intro a W hb0 hs hp hi; have hb := undrew hb0; clear hb0
     have tt : sl a 45 = .pointer (some ⟨wr.heap.size,0,none⟩) := hp 2 (by decide)
     have dd := (hb.cell (p := ⟨wr.heap.size,0,none⟩) (lt_of_cell u0)).trans u0
     refine ite_y rfl (wp_val (.slice a1 b1 d1) ?_ ?_)
     ·simp only [execOp,eval_tmp,tt]; simp [go_sem,dd]
     ·exact ⟨_,rfl,Below.refl _ _,rfl⟩
    ·intro a W hb0 hs hp hi; have hb := undrew hb0; clear hb0
     have t46 : sl a 46 = .slice a1 b1 d1 := hp 3 (by decide)
     refine ite_y rfl (wp_enter 87 #[.slice a1 b1 d1] ?_ (HLD.out W (T1.out.keep (BA.out.trans (hb.mono BA.out.size)))) ?_)
     ·simp only [execOp,resolve,List.map_toArray,List.map,eval_tmp,eval_func,eval_const,t46]; simp [go_sem]
     ·rintro e W' ⟨rfl,rfl⟩; exact ⟨_,rfl,_,rfl,Below.refl _ _,rfl⟩
    ·intro a W hb0 hs hp hi; have hb := undrew hb0; clear hb0
     have t44 : sl a 44 = .slice q1 m1 g1 := hp 1 (by decide)
     have t47 : sl a 47 = .int .i64 LJ := hp 4 (by decide)
     refine ite_y rfl (wp_enter 86 #[.slice q1 m1 g1,.int .i64 LJ] ?_ (HAT.out W (Sl.of_owns (owns_keep hO1.out (BA.out.trans (hb.mono BA.out.size))))) ?_)
     ·simp only [execOp,resolve,List.map_toArray,List.map,eval_tmp,eval_func,eval_const,t44,t47]; simp [go_sem]
     ·rintro e W' ⟨rfl,rfl⟩; exact ⟨_,rfl,_,rfl,Below.refl _ _,rfl⟩
    ·intro a W hb0 hs hp hi; have hb := undrew hb0; clear hb0
     have t48 : sl a 48 = B8 CJ := hp 5 (by decide)
     exact ite_y rfl (wp_val (sl a 48) rfl ⟨_,rfl,Below.refl _ _,t48⟩)
   intro a w6 hb hs hd hI ht
   have ha := act_is [43,44,45,46,47,48,9] hs hd ht (by decide)
   have t9 : sl a 9 = B8 CJ := hI 6 (by decide)
   simp only [List.foldl,t9] at ha
   generalize sl a 43 = u43 at ha
   generalize sl a 44 = u44 at ha
   generalize sl a 45 = u45 at ha
   generalize sl a 46 = u46 at ha
   generalize sl a 47 = u47 at ha
   generalize sl a 48 = u48 at ha
   simp only [Act.put,List.setIfInBounds_toArray,List.set_cons_zero,List.set_cons_succ] at ha
   rw [ha]
   clear ha hI ht
   have B6 := Lib.hid (BA.out.trans (hb.mono BA.out.size))
   have L6 := Lib.hid ((hb.block _ (blk_lt L5.out)).trans L5.out); have X6 := Lib.hid ((hb.block _ (blk_lt BX.out)).trans BX.out)
   have Z6 := Lib.hid ((B6.out.block _ (blk_lt hZ.out)).trans hZ.out)
   have O16 := Lib.hid (owns_keep hO1.out B6.out); have O26 := Lib.hid (owns_keep hO2.out B6.out)
   have BB6 := Lib.hid (bl hB.out B6.out hB.out.size)
   have T16 := Lib.hid (T1.out.keep B6.out); have T26 := Lib.hid (T2.out.keep B6.out)
   clear hb BA BX L5 y0 y1 u0 u1 hL hO1 hO2 hZ T1 T2 hB HLD HAT
   by_cases hc : CJ = 0
   ·have hz : ((CJ.toNat : Int) != 0) = false := by rw [hc]; rfl
    have P1 : Hid (w6.ownsRow (w.heap.size + 2) 5 1 (.slice q1 m1 g1) m1 ((restF (K.take (j + 1)) x).1.map B8)) := by show World.ownsRow _ _ _ _ _ _ _; rw [hnext.out,hYz.out hc]; exact O16.out
    have P2 : Hid (w6.ownsRow (w.heap.size + 2) 5 1 (.slice q2 m2 g2) m2 ((restF (K.take (j + 1)) x).2.map B8)) := by show World.ownsRow _ _ _ _ _ _ _; rw [hnext.out,hYz.out hc]; exact O26.out
    clear hc hnext hYz O16 O26 HLS B6 T16 T26
    go_wp2
    go_roundw
    case rel => exact ⟨j + 1,q1,m1,g1,q2,m2,g2,by omega,by go_num,L6.out,P1.out,P2.out,BB6.out,Z6.out⟩
    case measure => simp [intOf]; omega
   ·have hz : ((CJ.toNat : Int) != 0) = true := by simp; exact fun h => hc (UInt8.toNat_inj.1 (by simpa using h))
    obtain ⟨y0,y1⟩ := cells2 L6.out
    obtain ⟨u0,u1⟩ := cells2 X6.out
    clear hc hYz
    go_wp2_with fail
    refine Calls.mono (HLS.out _ (Sl.of_owns O16.out) (Sl.of_owns O26.out) T16.out T26.out) ?_
    rintro e w7 ⟨q5,m5,g5,q6,m6,g6,e5,e6,rfl,o5,o6,hb⟩
    have L7 := Lib.hid ((hb.block _ (blk_lt L6.out)).trans L6.out)
    have Z7 := Lib.hid ((hb.block _ (blk_lt Z6.out)).trans Z6.out)
    have BB7 := Lib.hid (bl BB6.out hb BB6.out.size)
    have hb6 : b6 < w6.heap.size := blk_lt L6.out
    have hsz6 : w.heap.size + 2 ≤ w6.heap.size := by have := B6.out.size; have := blk_lt Z6.out; omega
    have NX : Hid (((w7.setCell ⟨b6,0,none⟩ (.slice q5 m5 g5)).setCell ⟨b6,1,none⟩ (.slice q6 m6 g6)).heap[b6]? = some (.cells #[.slice q5 m5 g5,.slice q6 m6 g6] 139 (0,0)) ∧
      ((w7.setCell ⟨b6,0,none⟩ (.slice q5 m5 g5)).setCell ⟨b6,1,none⟩ (.slice q6 m6 g6)).ownsRow (w.heap.size + 2) 5 1 (.slice q5 m5 g5) m5 ((restF (K.take (j + 1)) x).1.map B8) ∧
      ((w7.setCell ⟨b6,0,none⟩ (.slice q5 m5 g5)).setCell ⟨b6,1,none⟩ (.slice q6 m6 g6)).ownsRow (w.heap.size + 2) 5 1 (.slice q6 m6 g6) m6 ((restF (K.take (j + 1)) x).2.map B8) ∧
      Below w.heap.size w ((w7.setCell ⟨b6,0,none⟩ (.slice q5 m5 g5)).setCell ⟨b6,1,none⟩ (.slice q6 m6 g6)) ∧
      ((w7.setCell ⟨b6,0,none⟩ (.slice q5 m5 g5)).setCell ⟨b6,1,none⟩ (.slice q6 m6 g6)).heap[w.heap.size + 1]? = some (.cells #[.slice none 0 0,.slice none 0 0] 139 (0,0))) := by
     rw [hnext.out]
     have hge : w.heap.size ≤ b6 := by omega
     have hne : w.heap.size + 1 ≠ b6 := by omega
     exact ⟨hss (hss L7.out),owns_mono (owns_set (owns_set o5 hb6) hb6) hsz6,owns_mono (owns_set (owns_set o6 hb6) hb6) hsz6,(BB7.out.setCell hge _).setCell hge _,hsc (hsc Z7.out hne) hne⟩
    clear o5 o6 hb L6 Z6 BB6 X6 u0 u1 y0 y1 O16 O26 T16 T26 B6 hnext e5 e6 Z7 BB7
    obtain ⟨y0,y1⟩ := cells2 L7.out
    have v0 := frozen_of_row _ _ 0 _ _ L7.out
    have v1 := frozen_of_row _ _ 1 _ _ L7.out
    go_wp2
    generalize (w7.setCell ⟨b6,0,none⟩ (.slice q5 m5 g5)).setCell ⟨b6,1,none⟩ (.slice q6 m6 g6) = wn at NX ⊢
    go_roundw
    case rel => exact ⟨j + 1,q5,m5,g5,q6,m6,g6,by omega,by go_num,NX.out.1,NX.out.2.1,NX.out.2.2.1,NX.out.2.2.2.1,NX.out.2.2.2.2⟩
    case measure => simp [intOf]; omega
  ·have hjn : j = n := by omega
   have hge : (n : Int) ≤ (j : Int) := by omega
   have P1 : Hid (wr.ownsRow (w.heap.size + 2) 5 1 (.slice q1 m1 g1) m1 ((restF K x).1.map B8)) := by have h := hO1.out; rw [List.take_of_length_le (by rw [HLEN.out]; omega)] at h; exact h
   have P2 : Hid (wr.ownsRow (w.heap.size + 2) 5 1 (.slice q2 m2 g2) m2 ((restF K x).2.map B8)) := by have h := hO2.out; rw [List.take_of_length_le (by rw [HLEN.out]; omega)] at h; exact h
   have hl1 : Hid ((restF K x).1.length = m1) := (Sl.of_owns P1.out).len
   have hl2 : Hid ((restF K x).2.length = m2) := (Sl.of_owns P2.out).len
   obtain ⟨y0,y1⟩ := cells2 hL.out
   obtain ⟨f0,f1⟩ := cells2 hZ.out
   have z0 := frozen_of_row _ _ 0 _ _ hZ.out
   have z1 := frozen_of_row _ _ 1 _ _ hZ.out
   clear hjn hO1 hO2 hL
   go_wp2
   refine bodyPost_ret (results_cell_tmp rfl _ _ _ 139 #[.slice q1 m1 g1,.slice q2 m2 g2] (0,0) _ (.int .i64 0) rfl (hss (hss hZ.out)) rfl Tryz.underlying139 rfl hinfo) rfl ⟨q1,m1,g1,q2,m2,g2,hl1,hl2,rfl,?_,?_,(hB.out.setCell (by simp) _).setCell (by simp) _⟩
   ·exact owns_mono (owns_set (owns_set P1.out (by simp)) (by simp)) (by simp)
   ·exact owns_mono (owns_set (owns_set P2.out (by simp)) (by simp)) (by simp)
end Go.Proofs.YtfbmdlfkipipfaaGreatDoor
namespace Go.Proofs.YtfbmdlfkipipfaaGreatDoor
open Go.RowKit Go.By
set_option maxRecDepth 100000 in
set_option maxHeartbeats 4000000 in
theorem Search_any (f : Nat → Bool) (g : Nat) (lb : Array Value) (eg : Enters Tryz.prog g) (n : Nat) (w : World) (hn : n ≤ 65536)
  (hf : ∀ (W : World) (i : Nat),Below w.heap.size w W → i < n → Calls Tryz.prog g (#[.int .i64 i] ++ lb) W fun e w' => e = .returned (.bool (f i)) ∧ Below W.heap.size W w') (hm : ∀ i j,i ≤ j → j < n → f i = true → f j = true) :
  Calls Tryz.prog 114 #[.int .i64 n,.func (.func g) #[] lb] w fun e w' => ∃ r : Nat,r ≤ n ∧ e = .returned (.int .i64 r) ∧ (∀ i,i < r → f i = false) ∧ (∀ i,r ≤ i → i < n → f i = true) ∧ Below w.heap.size w w' := by
 have HF := Lib.hid hf; have HM := Lib.hid hm
 clear hf hm
 have eg' : ∀ args w,(callFunc g args).run Tryz.prog w = .ok (.enter g args) w := eg
 clear eg
 go_enter Tryz.func114,Tryz.ntmps114
 go_wp2
 go_loopw [5,6] (fun i j wr => ∃ (a b : Nat),a ≤ b ∧ b ≤ n ∧ i = .int .i64 a ∧ j = .int .i64 b ∧ Hid (∀ x,x < a → f x = false) ∧ Hid (∀ x,b ≤ x → x < n → f x = true) ∧ Hid (Below w.heap.size w wr)) (fun i j _ => (intOf j).toNat - (intOf i).toNat)
 case atStart => exact ⟨0,n,Nat.zero_le _,Nat.le_refl _,rfl,rfl,fun x hx => by omega,fun x h1 h2 => by omega,Below.refl _ _⟩
 case round =>
  obtain ⟨a,b,hab,hbn,rfl,rfl,hlo,hhi,hB⟩ := hrel
  by_cases hlt : a < b
  ·have an : (a : Int) < (b : Int) := by omega
   have w1 : IntKind.i64.wrap ((a : Int) + (b : Int)) = ((a + b : Nat) : Int) := by rw [← Int.natCast_add]; exact Go.IntWalk.i64_in _ (by omega)
   go_wp2_with fail
   obtain ⟨m,hmid⟩ : ∃ m,m = (a + b) / 2 := ⟨_,rfl⟩
   have hmz : ((a : Int) + (b : Int)) / 2 = ((m : Nat) : Int) := by omega
   have ham : a ≤ m := by omega
   have hmb : m < b := by omega
   rw [hmz]
   refine (HF.out wr m hB.out (by omega)).mono ?_
   rintro e w2 ⟨rfl,hb⟩
   have B2 := Lib.hid (bl hB.out hb hB.out.size)
   clear hb hmz hmid w1 hB
   cases hfm : f m with
   | false =>
    have HL := Lib.hid hfm
    clear hfm
    have HN : Hid (∀ x,x < m + 1 → f x = false) := fun x hx => by
     cases hfx : f x with
     | false => rfl
     | true => have h := HM.out x m (by omega) (by omega) hfx; rw [HL.out] at h; cases h
    go_wp2
    go_roundw
    case rel => exact ⟨m + 1,b,by omega,hbn,by go_num,rfl,HN.out,hhi.out,B2.out⟩
    case measure => simp [intOf]; omega
   | true =>
    have HL := Lib.hid hfm
    clear hfm
    go_wp2
    go_roundw
    case rel => exact ⟨a,m,ham,by omega,rfl,rfl,hlo.out,fun x h1 h2 => HM.out m x h1 h2 HL.out,B2.out⟩
    case measure => simp [intOf]; omega
  ·have hge : (b : Int) ≤ (a : Int) := by omega
   have hba : b = a := by omega
   subst hba
   go_wp2
   go_ret
   exact ⟨b,hbn,rfl,hlo.out,hhi.out,hB.out⟩
end Go.Proofs.YtfbmdlfkipipfaaGreatDoor
namespace Go.By
open Go.RowKit
theorem fl2_cons (u : Value × Value) (us : List (Value × Value)) : fl2 (u :: us) = u.1 :: u.2 :: fl2 us := rfl
theorem fl2_one {us : List (Value × Value)} (h : ∀ u,u ∈ us → u.1.oneCell' = true ∧ u.2.oneCell' = true) : ∀ v,v ∈ fl2 us → v.oneCell' = true := by
 intro v hv
 obtain ⟨u,hu,hv⟩ := List.mem_flatMap.1 hv
 simp at hv
 rcases hv with rfl | rfl
 ·exact (h u hu).1
 ·exact (h u hu).2
end Go.By
namespace Go.Proofs.YtfbmdlfkipipfaaGreatDoor
open Go.RowKit Go.By
theorem owns2_some {w : World} {base T n c g : Nat} {L : List Value} (h : w.ownsRow base T 2 (.slice (some ⟨g,0,none⟩) n c) n L) :
  ∃ cur,base ≤ g ∧ w.heap[g]? = some (.cells (List.toArray cur) T (0,0)) ∧ n ≤ c ∧ c ≤ maxLen ∧ cur.length = c * 2 ∧ cur.take (n * 2) = L := by
 rcases h.2 with ⟨h1,_⟩ | ⟨g',cap,cur,hv,hg,hh,h1,h2,h3,h4⟩
 ·simp at h1
 ·obtain ⟨rfl,rfl⟩ : g = g' ∧ c = cap := by simpa using hv
  exact ⟨cur.toList,hg,by simpa using hh,h1,h2,by simpa using h3,by simpa using h4⟩
set_option maxRecDepth 100000 in
set_option maxHeartbeats 2000000 in
theorem InsRoom_any (base g n c vb : Nat) (us : List (Value × Value)) (u : Value × Value) (w : World) (h : w.ownsRow base 139 2 (.slice (some ⟨g,0,none⟩) n c) n (fl2 us)) (hroom : n + 1 ≤ c) (hu : u.1.oneCell' = true ∧ u.2.oneCell' = true)
  (hv : w.heap[vb]? = some (.cells #[u.1,u.2] 139 (0,0))) :
  Calls Tryz.prog 115 #[.slice (some ⟨g,0,none⟩) n c,.int .i64 n,.slice (some ⟨vb,0,none⟩) 1 1] w fun e w' =>
   e = .returned (.slice (some ⟨g,0,none⟩) (n + 1) c) ∧ w'.ownsRow base 139 2 (.slice (some ⟨g,0,none⟩) (n + 1) c) (n + 1) (fl2 (us ++ [u])) ∧ w.grownBy w' (some g) := by
 obtain ⟨i0,hi0,hz0,hz1,hz2⟩ := info_parts info_vrow
 obtain ⟨cur,hg,hh,hnc,hcm,hcl,hct⟩ := owns2_some h
 have hr := fun ty => run_append_room_cells (P := Tryz.prog) (w := w) 48 ty 139 i0 Tryz.underlying48 hi0 g 0 n c ⟨vb,0,none⟩ 1 1 [u.1,u.2] (by rw [hz1]; rfl)
  (fun j x hj => by
   rw [Addr.add_lit,Nat.zero_add,cell_of_row _ _ j _ _ _ hv]
   match j with
   | 0 => simpa using hj
   | 1 => simpa using hj
   | j + 2 => simp at hj)
  (by intro x hx; simp at hx; rcases hx with rfl | rfl; exact hu.1; exact hu.2) hroom
  (fun j hj => by rw [hz1,cell_arr hh,List.getElem?_eq_getElem (by simp at hj; omega)]; rfl) (fun j hj => frozen_arr hh _)
 rw [hz1,Nat.zero_add] at hr
 have HR := Lib.hid hr
 have FIN : Hid ((w.setCells g (n * 2) [u.1,u.2]).ownsRow base 139 2 (.slice (some ⟨g,0,none⟩) (n + 1) c) (n + 1) (fl2 (us ++ [u])) ∧ w.grownBy (w.setCells g (n * 2) [u.1,u.2]) (some g)) := by
  refine ⟨owns2_shut hg (heap_setCells _ _ _ _ hh (by simp; omega)) hroom hcm ?_ ?_,grownBy_setCells g _ _ _⟩
  ·simp only [List.length_append,List.length_take,List.length_drop,hcl,List.length_cons,List.length_nil]; omega
  ·rw [fl2_append,← hct,List.take_append_of_le_length (by simp only [List.length_append,List.length_take,List.length_cons,List.length_nil]; omega),List.take_of_length_le (by simp only [List.length_append,List.length_take,List.length_cons,List.length_nil]; omega)]
   rfl
 unfold maxLen at hcm
 clear h hh hct hr hv hcl hu
 go_enter Tryz.func115,Tryz.ntmps115
 go_wp2_with (at_builtin; refine Lib.wpList_append_run _ rfl _ _ _ _ rfl _ _ rfl rfl _ _ (HR.out _) ?_)
 go_ret
 exact ⟨rfl,FIN.out.1,FIN.out.2⟩
set_option maxRecDepth 100000 in
set_option maxHeartbeats 4000000 in
theorem InsLast_any (base n c vb : Nat) (q : Option Addr) (us : List (Value × Value)) (u : Value × Value) (w : World) (h : w.ownsRow base 139 2 (.slice q n c) n (fl2 us)) (hroom : c < n + 1) (hb : base ≤ w.heap.size) (hu : u.1.oneCell' = true ∧ u.2.oneCell' = true) (hn : n ≤ 65536)
  (hv : w.heap[vb]? = some (.cells #[u.1,u.2] 139 (0,0))) :
  Calls Tryz.prog 115 #[.slice q n c,.int .i64 n,.slice (some ⟨vb,0,none⟩) 1 1] w fun e w' =>
   ∃ c',e = .returned (.slice (some ⟨w.heap.size,0,none⟩) (n + 1) c') ∧ w'.ownsRow base 139 2 (.slice (some ⟨w.heap.size,0,none⟩) (n + 1) c') (n + 1) (fl2 (us ++ [u])) ∧ w.grownBy w' none := by
 obtain ⟨i0,hi0,hz0,hzs,hzb⟩ := info_parts info_vrow
 have hul : us.length = n := by have := h.1; rw [fl2_length] at this; omega
 have hnc : n ≤ c ∧ (q = none → n = 0 ∧ c = 0) ∧ ∀ a,q = some a → ∀ j v,(fl2 us)[j]? = some v → w.cell? (a.add j) = some v := by
  rcases h.2 with ⟨h1,h2⟩ | ⟨g,cap,cur,h1,_,hh,h3,_,h5,h6⟩
  ·have e1 : q = none ∧ n = 0 ∧ c = 0 := by simp at h1; exact ⟨h1.1,h1.2.1,h1.2.2⟩
   refine ⟨by omega,fun _ => ⟨e1.2.1,e1.2.2⟩,fun a ha => ?_⟩
   rw [e1.1] at ha; cases ha
  ·obtain ⟨rfl,rfl⟩ : q = some ⟨g,0,none⟩ ∧ c = cap := by simpa using h1
   refine ⟨h3,fun e => by (cases e),fun a ha j v hj => ?_⟩
   cases ha
   rw [Addr.add_lit,Nat.zero_add,cell_of_row _ _ j _ _ _ hh]
   rw [← h6,List.getElem?_take] at hj
   split at hj
   ·simpa using hj
   ·cases hj
 obtain ⟨hnc,hnil,hcs⟩ := hnc
 have hva : ∀ j x,[u.1,u.2][j]? = some x → w.cell? ((⟨vb,0,none⟩ : Addr).add j) = some x := fun j x hj => by
  rw [Addr.add_lit,Nat.zero_add,cell_of_row _ _ j _ _ _ hv]
  match j with
  | 0 => simpa using hj
  | 1 => simpa using hj
  | j + 2 => simp at hj
 have h1v : ∀ v ∈ [u.1,u.2],v.oneCell' = true := by intro x hx; simp at hx; rcases hx with rfl | rfl; exact hu.1; exact hu.2
 have hsrc : Src Tryz.prog i0.size 48 (.slice (some ⟨vb,0,none⟩) 1 1) 1 [u.1,u.2] w := by
  rw [hzs]
  exact Src.ofSlice w Tryz.underlying48 ⟨vb,0,none⟩ 1 1 [u.1,u.2] rfl hva h1v
 have hold : (Builtin.firstCells i0.size n (.slice q n c)).run Tryz.prog w.drew = .ok (fl2 us).toArray w.drew := by
  rw [hzs]
  cases q with
  | none =>
   obtain ⟨rfl,-⟩ := hnil rfl
   have : us = [] := List.length_eq_zero_iff.1 hul
   rw [this]
   exact run_firstCells_none w.drew 2 0 0 c
  | some a => exact run_firstCells_some w.drew 2 n a n c (fl2 us) (by rw [fl2_length,hul]) (fun j v hj => hcs a rfl j v hj)
 have hrun : ∀ ty,(Builtin.append_ #[48,48] ty #[.slice q n c,.slice (some ⟨vb,0,none⟩) 1 1]).run Tryz.prog w = _ := fun ty =>
  run_append_grow_src w 48 48 ty 139 i0 _ Tryz.underlying48 hi0 hz0 q n c (fl2 us) hold _ 1 [u.1,u.2] hsrc hroom (by omega) (by rw [hzb]; exact growslice_fits hroom (by omega))
 obtain ⟨G,hG⟩ : ∃ G,G = grownCap w (n + 1) c 139 := ⟨_,rfl⟩
 rw [← hG] at hrun
 obtain ⟨ROW,hROW⟩ : ∃ ROW : Array Value,ROW = (fl2 us ++ [u.1,u.2]).toArray ++ Builtin.zeroCells (Value.agg #[.slice none 0 0,.slice none 0 0]).cells (G - (n + 1)) := ⟨_,rfl⟩
 rw [← hROW] at hrun
 have hGn : n + 1 ≤ G := by rw [hG]; exact grownCap_ge w _ _ _
 have hGm : G ≤ maxLen := by rw [hG]; exact grownCap_le_maxLen w (n + 1) c 139 (by unfold maxLen; omega)
 have hz2 : (Value.agg #[.slice none 0 0,.slice none 0 0]).cells = #[.slice none 0 0,.slice none 0 0] := rfl
 have zl : ∀ (a b : Value) (k : Nat),(Builtin.zeroCells #[a,b] k).size = k * 2 := fun a b k => by simp [Builtin.zeroCells]
 have hRl : ROW.size = G * 2 := by
  rw [hROW,hz2,Array.size_append,zl,List.size_toArray,List.length_append,fl2_length,hul]; simp; omega
 have FIN : Hid ((w.drew.alloc (.cells ROW 139)).ownsRow base 139 2 (.slice (some ⟨w.heap.size,0,none⟩) (n + 1) G) (n + 1) (fl2 (us ++ [u])) ∧ w.grownBy (w.drew.alloc (.cells ROW 139)) none) := by
  refine ⟨owns2_shut (cur := ROW.toList) hb (hnew rfl) hGn hGm (by rw [Array.length_toList,hRl]) ?_,⟨rfl,rfl,rfl,by simp,fun b hb _ => by show (w.heap.push _)[b]? = _; rw [Array.getElem?_push_lt hb,Array.getElem?_eq_getElem hb]⟩⟩
  rw [hROW,Array.toList_append,List.toList_toArray,fl2_append]
  exact List.take_left' (by rw [List.length_append,fl2_length,hul]; simp [fl2]; omega)
 have HR := Lib.hid hrun
 clear h hu hv hva h1v hsrc hold hrun hROW hRl hG hcs hul hGn hGm hb
 go_enter Tryz.func115,Tryz.ntmps115
 cases q with
 | none =>
  obtain ⟨rfl,rfl⟩ := hnil rfl
  go_wp2_with (at_builtin; refine Lib.wpList_append_run _ rfl _ _ _ _ rfl _ _ rfl rfl _ _ (HR.out _) ?_)
  go_ret
  exact ⟨_,rfl,FIN.out.1,FIN.out.2⟩
 | some a =>
  obtain ⟨ab,ao,asp⟩ := a
  go_wp2_with (at_builtin; refine Lib.wpList_append_run _ rfl _ _ _ _ rfl _ _ rfl rfl _ _ (HR.out _) ?_)
  all_goals (go_ret; exact ⟨_,rfl,FIN.out.1,FIN.out.2⟩)
theorem InsEnd_any (base n vb : Nat) (v : Value) (us : List (Value × Value)) (u : Value × Value) (w : World) (h : w.ownsRow base 139 2 v n (fl2 us)) (hb : base ≤ w.heap.size) (hu : u.1.oneCell' = true ∧ u.2.oneCell' = true) (hn : n ≤ 65536)
  (hv : w.heap[vb]? = some (.cells #[u.1,u.2] 139 (0,0))) :
  Calls Tryz.prog 115 #[v,.int .i64 n,.slice (some ⟨vb,0,none⟩) 1 1] w fun e w' =>
   ∃ v',e = .returned v' ∧ w'.ownsRow base 139 2 v' (n + 1) (fl2 (us ++ [u])) ∧ w.grownBy w' v.ownBlock ∧ (v'.ownBlock = v.ownBlock ∨ v'.ownBlock = some w.heap.size) := by
 obtain ⟨q,c,rfl⟩ := owns_shape h
 by_cases hroom : n + 1 ≤ c
 ·obtain ⟨g,rfl⟩ : ∃ g,q = some ⟨g,0,none⟩ := by
   rcases h.2 with ⟨h1,h2⟩ | ⟨g,cap,cur,h1,_⟩
   ·simp at h1; omega
   ·simp at h1; exact ⟨g,h1.1⟩
  refine (InsRoom_any base g n c vb us u w h hroom hu hv).mono ?_
  rintro e w' ⟨rfl,ho,hg⟩
  exact ⟨_,rfl,ho,by simpa [Value.ownBlock] using hg,.inl (by simp [Value.ownBlock])⟩
 ·refine (InsLast_any base n c vb q us u w h (by omega) hb hu hn hv).mono ?_
  rintro e w' ⟨c',rfl,ho,g1,g2,g3,g4,g5⟩
  exact ⟨_,rfl,ho,⟨g1,g2,g3,g4,fun b hb _ => g5 b hb (by simp)⟩,.inr (by simp [Value.ownBlock])⟩
set_option maxRecDepth 100000 in
set_option maxHeartbeats 4000000 in
theorem InsMid_any (base g n c i vb : Nat) (us : List (Value × Value)) (u : Value × Value) (w : World) (h : w.ownsRow base 139 2 (.slice (some ⟨g,0,none⟩) n c) n (fl2 us)) (hi : i < n) (hroom : n + 1 ≤ c) (h1 : ∀ x,x ∈ us → x.1.oneCell' = true ∧ x.2.oneCell' = true) (hu : u.1.oneCell' = true ∧ u.2.oneCell' = true)
  (hv : w.heap[vb]? = some (.cells #[u.1,u.2] 139 (0,0))) (hvb : vb ≠ g) :
  Calls Tryz.prog 115 #[.slice (some ⟨g,0,none⟩) n c,.int .i64 i,.slice (some ⟨vb,0,none⟩) 1 1] w fun e w' =>
   e = .returned (.slice (some ⟨g,0,none⟩) (n + 1) c) ∧ w'.ownsRow base 139 2 (.slice (some ⟨g,0,none⟩) (n + 1) c) (n + 1) (fl2 (us.take i ++ u :: us.drop i)) ∧ w.grownBy w' (some g) := by
 obtain ⟨i0,hi0,hz0,hz1,hz2⟩ := info_parts info_vrow
 have hul : us.length = n := by have := h.1; rw [fl2_length] at this; omega
 obtain ⟨cur,hg,hh,hnc,hcm,hcl,hct⟩ := owns2_some h
 have hsz : (Tryz.prog.info? 139).map (·.size) = some 2 := by rw [hi0]; simp [hz1]
 have hov : ∀ lb cb,(callFunc 174 #[.slice (some ⟨vb,0,none⟩) 1 1,.slice (some ⟨g,(i + 1) * 2,none⟩) lb cb]).run Tryz.prog w = .ok (.value (.bool false)) w := fun lb cb => by
  rw [run_callFunc_extern Tryz.func174 (by kernel_rfl) (by kernel_rfl) (by kernel_rfl) (e := Extern.SlicesOverlaps.overlaps #[48,48] #[4]) (by kernel_rfl),
   Lib.run_overlaps_apart w 48 4 139 Tryz.underlying48 2 (fun w => by simp [Go.sizeOf,typeInfo,hi0,hz1]) ⟨vb,0,none⟩ ⟨g,(i + 1) * 2,none⟩ 1 1 lb cb hvb 139 139 2 (c * 2)
    (by simp [World.shape?,hv]) (by simp [World.shape?,hh,hcl]) (by omega) (frozen_of_row _ _ 0 _ _ hv) (frozen_of_row _ _ 2 _ _ hv)]
  rfl
 have hw1 : IntKind.i64.wrap ((i : Int) + 1) = (i : Int) + 1 := by rw [IntKind.wrap_i64]; unfold maxLen at hcm; omega
 have hb1 : (0 : Int) ≤ (i : Int) + 1 := by omega
 have htn : ((i : Int) + 1).toNat = i + 1 := by omega
 have hb2 : ¬ (c = i + 1) := by omega
 have hb4 : ¬ (c = i) := by omega
 have hb5 : (i : Int) + 1 ≤ (n : Int) + 1 := by omega
 have hb6 : (i : Int) ≤ (n : Int) + 1 := by omega
 have hb7 : i + 1 ≤ n + 1 := by omega
 have hb8 : i ≤ n + 1 := by omega
 have hz2' : ((i : Int) == (n : Int)) = false := by simp; omega
 obtain ⟨mv,hmv⟩ : ∃ mv,mv = fl2 (us.drop i) := ⟨_,rfl⟩
 have hml : mv.length = (n - i) * 2 := by rw [hmv,fl2_length,List.length_drop,hul]
 have hmc : ∀ j v,mv[j]? = some v → cur[i * 2 + j]? = some v := by
  intro j v hj
  rw [hmv,fl2_drop,← hct,List.getElem?_drop,List.getElem?_take] at hj
  split at hj
  ·exact hj
  ·cases hj
 have hcp1 : ∀ ty dc sc,(Builtin.copy_ #[48,48] ty #[.slice (some ⟨g,(i + 1) * 2,none⟩) (n - i) dc,.slice (some ⟨g,i * 2,none⟩) (n + 1 - i) sc]).run Tryz.prog w.drew = .ok (goInt ((n - i : Nat) : Int)) (w.drew.setCells g ((i + 1) * 2) mv) := fun ty dc sc => by
  have hmin : Nat.min (n + 1 - i) (n - i) = n - i := by simp only [Nat.min_def]; split <;> omega
  have := run_copy_two (P := Tryz.prog) w.drew 48 48 ty 139 g ((i + 1) * 2) (n - i) dc ⟨g,i * 2,none⟩ (n + 1 - i) sc mv Tryz.underlying48 hsz (by rw [hmin]; exact hml)
   (fun j v hj => by rw [Addr.add_lit]; show w.cell? _ = _; rw [cell_arr hh]; exact hmc j v hj)
   (fun j hj => by show (w.cell? _).isSome = true; rw [cell_arr hh,List.getElem?_eq_getElem (by omega)]; rfl) (fun j hj => frozen_arr (w := w) hh _)
   (by rw [hmv]; exact fl2_one (fun x hx => h1 x (List.mem_of_mem_drop hx)))
  rw [hmin] at this
  exact this
 obtain ⟨W1,hW1⟩ : ∃ W1,W1 = w.drew.setCells g ((i + 1) * 2) mv := ⟨_,rfl⟩
 have hh1 : W1.heap[g]? = some (.cells (cur.take ((i + 1) * 2) ++ mv ++ cur.drop ((i + 1) * 2 + mv.length)).toArray 139 (0,0)) := by
  rw [hW1]; exact heap_setCells mv ((i + 1) * 2) w.drew cur hh (by omega)
 have hgr1 : w.grownBy W1 (some g) := by rw [hW1]; exact grown_trans (grownBy_drew w _) (grownBy_setCells g _ _ _)
 have hvw : W1.heap[vb]? = some (.cells #[u.1,u.2] 139 (0,0)) := by
  rw [hgr1.block vb (lt_of_cell (cell_of_row _ _ 0 _ _ _ hv)) (by simpa using hvb)]; exact hv
 have hlen1 : (cur.take ((i + 1) * 2) ++ mv ++ cur.drop ((i + 1) * 2 + mv.length)).length = c * 2 := by
  simp only [List.length_append,List.length_take,List.length_drop]; omega
 obtain ⟨cur1,hcur1⟩ : ∃ cur1,cur1 = cur.take ((i + 1) * 2) ++ mv ++ cur.drop ((i + 1) * 2 + mv.length) := ⟨_,rfl⟩
 rw [← hcur1] at hh1 hlen1
 have hcp2 : ∀ ty dc,(Builtin.copy_ #[48,48] ty #[.slice (some ⟨g,i * 2,none⟩) (n + 1 - i) dc,.slice (some ⟨vb,0,none⟩) 1 1]).run Tryz.prog W1 = .ok (goInt 1) (W1.setCells g (i * 2) [u.1,u.2]) := fun ty dc => by
  have hmin : Nat.min 1 (n + 1 - i) = 1 := by simp only [Nat.min_def]; split <;> omega
  have := run_copy_two (P := Tryz.prog) W1 48 48 ty 139 g (i * 2) (n + 1 - i) dc ⟨vb,0,none⟩ 1 1 [u.1,u.2] Tryz.underlying48 hsz (by rw [hmin]; rfl)
   (fun j x hj => by
    rw [Addr.add_lit,Nat.zero_add,cell_of_row _ _ j _ _ _ hvw]
    match j with
    | 0 => simpa using hj
    | 1 => simpa using hj
    | j + 2 => simp at hj)
   (fun j hj => by rw [cell_arr hh1,List.getElem?_eq_getElem (by simp at hj; omega)]; rfl) (fun j hj => frozen_arr hh1 _)
   (by intro x hx; simp at hx; rcases hx with rfl | rfl; exact hu.1; exact hu.2)
  rw [hmin] at this
  exact this
 rw [← hW1] at hcp1
 have FIN : Hid ((W1.setCells g (i * 2) [u.1,u.2]).ownsRow base 139 2 (.slice (some ⟨g,0,none⟩) (n + 1) c) (n + 1) (fl2 (us.take i ++ u :: us.drop i)) ∧ w.grownBy (W1.setCells g (i * 2) [u.1,u.2]) (some g)) := by
  refine ⟨owns2_shut hg (heap_setCells _ _ _ _ hh1 (by rw [hlen1]; simp; omega)) hroom hcm ?_ ?_,grown_trans hgr1 (grownBy_setCells g _ _ _)⟩
  ·simp only [List.length_append,List.length_take,List.length_drop,hlen1,List.length_cons,List.length_nil]; omega
  ·have e1 : cur1.take (i * 2) = cur.take (i * 2) := by
    rw [hcur1,List.append_assoc,List.take_append_of_le_length (by rw [List.length_take]; omega),List.take_take,show min (i * 2) ((i + 1) * 2) = i * 2 by omega]
   have e2 : cur1.drop (i * 2 + [u.1,u.2].length) = mv ++ cur.drop ((i + 1) * 2 + mv.length) := by
    rw [hcur1,List.append_assoc]
    exact List.drop_left' (by rw [List.length_take,List.length_cons,List.length_cons,List.length_nil]; omega)
   rw [e1,e2,← List.append_assoc,List.take_left' (by simp only [List.length_append,List.length_take,List.length_cons,List.length_nil,hml]; omega),fl2_append,fl2_cons,fl2_take,← hmv,← hct,List.take_take,show min (i * 2) (n * 2) = i * 2 by omega]
   simp
 unfold maxLen at hcm
 have HC1 := Lib.hid hcp1; have HC2 := Lib.hid hcp2
 clear h hh hct hv hcl hu hcp1 hcp2 hh1 hgr1 hvw hcur1 hlen1 hW1 hmv hml hmc h1 hul hg
 go_enter Tryz.func115,Tryz.ntmps115
 go_wp2_with (simp only [hov])
 go_region_law (refine step_copy_runI rfl _ _ 48 48 rfl _ _ (by simp [Act.eval,Act.put]) (by simp [Act.eval,Act.put]) (HC1.out _ (c - (i + 1)) (c - i)) ?_)
 have hc2 := HC2.out 3 (c - i)
 go_wp2
 go_ret
 exact ⟨rfl,FIN.out.1,FIN.out.2⟩
end Go.Proofs.YtfbmdlfkipipfaaGreatDoor
namespace Go.Proofs.YtfbmdlfkipipfaaGreatDoor
open Go.RowKit Go.By
theorem drew_setCell (w : World) (a : Addr) (v : Value) : w.drew.setCell a v = (w.setCell a v).drew := rfl
theorem drew_setCells (g : Nat) : ∀ (vs : List Value) (o : Nat) (w : World),w.drew.setCells g o vs = (w.setCells g o vs).drew
 | [],_,_ => rfl
 | v :: r,o,w => by rw [World.setCells,World.setCells,drew_setCell,drew_setCells g r]
theorem zero_len (a b : Value) (k : Nat) : (Builtin.zeroCells #[a,b] k).size = k * 2 := by simp [Builtin.zeroCells]
set_option maxRecDepth 100000 in
set_option maxHeartbeats 4000000 in
theorem InsGrow_any (base g n c i vb : Nat) (us : List (Value × Value)) (u : Value × Value) (w : World) (h : w.ownsRow base 139 2 (.slice (some ⟨g,0,none⟩) n c) n (fl2 us)) (hi : i < n) (hroom : c < n + 1) (hu : u.1.oneCell' = true ∧ u.2.oneCell' = true)
  (h1 : ∀ x,x ∈ us → x.1.oneCell' = true ∧ x.2.oneCell' = true) (hn : n ≤ 65536) (hv : w.heap[vb]? = some (.cells #[u.1,u.2] 139 (0,0))) (hb : base ≤ w.heap.size) :
  Calls Tryz.prog 115 #[.slice (some ⟨g,0,none⟩) n c,.int .i64 i,.slice (some ⟨vb,0,none⟩) 1 1] w fun e w' =>
   ∃ v',e = .returned v' ∧ w'.ownsRow base 139 2 v' (n + 1) (fl2 (us.take i ++ u :: us.drop i)) ∧ w.grownBy w' none ∧ v'.ownBlock = some w.heap.size := by
 obtain ⟨i0,hi0,hz0,hzs,hzb⟩ := info_parts info_vrow
 have hul : us.length = n := by have := h.1; rw [fl2_length] at this; omega
 obtain ⟨cur,hg,hh,hnc,hcm,hcl,hct⟩ := owns2_some h
 have hsz : (Tryz.prog.info? 139).map (·.size) = some 2 := by rw [hi0]; simp [hzs]
 have hbw : g < w.heap.size := blk_lt hh
 have hvw : vb < w.heap.size := blk_lt hv
 have hat : ∀ j x,(fl2 us)[j]? = some x → w.cell? ⟨g,j,none⟩ = some x := fun j x hj => by
  rw [cell_arr hh]
  rw [← hct,List.getElem?_take] at hj
  split at hj
  ·exact hj
  ·cases hj
 have hva : ∀ j x,[u.1,u.2][j]? = some x → w.cell? ⟨vb,j,none⟩ = some x := fun j x hj => by
  rw [cell_of_row _ _ j _ _ _ hv]
  match j with
  | 0 => simpa using hj
  | 1 => simpa using hj
  | j + 2 => simp at hj
 have hold : (Builtin.firstCells i0.size i (.slice (some ⟨g,0,none⟩) i c)).run Tryz.prog w.drew = .ok (fl2 (us.take i)).toArray w.drew := by
  rw [hzs]
  exact run_firstCells_some w.drew 2 i ⟨g,0,none⟩ i c (fl2 (us.take i)) (by rw [fl2_length,List.length_take]; omega) (fun j v hj => by
   rw [Addr.add_lit,Nat.zero_add]
   rw [fl2_take,List.getElem?_take] at hj
   split at hj
   ·exact hat j v hj
   ·cases hj)
 have hik : i + (n + 1 - i) = n + 1 := by omega
 have hkk : (n : Int) + 1 - (i : Int) = ((n + 1 - i : Nat) : Int) := by omega
 obtain ⟨G,hG⟩ : ∃ G,G = grownCap w (n + 1) c 139 := ⟨_,rfl⟩
 obtain ⟨ROW,hROW⟩ : ∃ ROW : Array Value,ROW = (fl2 (us.take i)).toArray ++ Builtin.zeroCells (Value.agg #[.slice none 0 0,.slice none 0 0]).cells (n + 1 - i) ++ Builtin.zeroCells (Value.agg #[.slice none 0 0,.slice none 0 0]).cells (G - (n + 1)) := ⟨_,rfl⟩
 have hrz : ∀ ty,(Builtin.append_ #[48,3] ty #[.slice (some ⟨g,0,none⟩) i c,.int .i64 ((n : Int) + 1 - (i : Int))]).run Tryz.prog w = .ok (.slice (some ⟨w.heap.size,0,none⟩) (n + 1) G) (w.drew.alloc (.cells ROW 139)) := fun ty => by
  have h := Lib.run_append_grow_zeros w 48 3 ty 139 i0 _ .i64 .i64 Tryz.underlying48 Tryz.underlying3 hi0 hz0 (some ⟨g,0,none⟩) i c (fl2 (us.take i)) hold (n + 1 - i) (by omega) (by omega) (by omega) (by omega) (by rw [hzb]; omega) (by rw [hzb,hik]; exact growslice_fits hroom (by omega))
  rw [hik,← hG] at h
  rw [hkk,hROW]
  exact h
 have hGn : n + 1 ≤ G := by rw [hG]; exact grownCap_ge w _ _ _
 have hGm : G ≤ maxLen := by rw [hG]; exact grownCap_le_maxLen w (n + 1) c 139 (by unfold maxLen; omega)
 have hz2 : (Value.agg #[.slice none 0 0,.slice none 0 0]).cells = #[.slice none 0 0,.slice none 0 0] := rfl
 have hRl : ROW.size = G * 2 := by
  rw [hROW,hz2,Array.size_append,Array.size_append,zero_len,zero_len,List.size_toArray,fl2_length,List.length_take]; omega
 obtain ⟨W1,hW1⟩ : ∃ W1,W1 = w.drew.alloc (.cells ROW 139) := ⟨_,rfl⟩
 have hh1 : W1.heap[w.heap.size]? = some (.cells (ROW.toList).toArray 139 (0,0)) := by rw [hW1]; exact hnew rfl
 have hN : ∀ j,j < (n + 1) * 2 → (W1.cell? ⟨w.heap.size,j,none⟩).isSome = true := fun j hj => by
  rw [cell_arr hh1,List.getElem?_eq_getElem (by simp; omega)]; rfl
 have hNf : ∀ j,W1.frozen? ⟨w.heap.size,j,none⟩ = false := fun j => frozen_arr hh1 j
 have hOb : ∀ b j v,b < w.heap.size → w.cell? ⟨b,j,none⟩ = some v → W1.cell? ⟨b,j,none⟩ = some v := fun b j v hb h => by rw [hW1,World.cell?_alloc_past (w := w.drew) _ b j hb]; exact h
 have hcpA : ∀ (W : World),(∀ x,W.cell? x = W1.cell? x) → (∀ x,W.frozen? x = W1.frozen? x) → ∀ ty dc,(Builtin.copy_ #[48,48] ty #[.slice (some ⟨w.heap.size,i * 2,none⟩) (n + 1 - i) dc,.slice (some ⟨vb,0,none⟩) 1 1]).run Tryz.prog W = .ok (goInt 1) (W.setCells w.heap.size (i * 2) [u.1,u.2]) := fun W hWc hWf ty dc => by
  have hmin : Nat.min 1 (n + 1 - i) = 1 := by simp only [Nat.min_def]; split <;> omega
  have := run_copy_two (P := Tryz.prog) W 48 48 ty 139 w.heap.size (i * 2) (n + 1 - i) dc ⟨vb,0,none⟩ 1 1 [u.1,u.2] Tryz.underlying48 hsz (by rw [hmin]; rfl)
   (fun j x hj => by rw [Addr.add_lit,Nat.zero_add,hWc]; exact hOb vb j x hvw (hva j x hj))
   (fun j hj => by rw [hWc]; exact hN _ (by simp at hj; omega)) (fun j hj => by rw [hWf]; exact hNf _) (by intro x hx; simp at hx; rcases hx with rfl | rfl; exact hu.1; exact hu.2)
  rw [hmin] at this
  exact this
 have hdl : (fl2 (us.drop i)).length = (n - i) * 2 := by rw [fl2_length,List.length_drop,hul]
 have hcpB : ∀ (W : World),(∀ x,W.cell? x = (W1.setCells w.heap.size (i * 2) [u.1,u.2]).cell? x) → (∀ x,W.frozen? x = (W1.setCells w.heap.size (i * 2) [u.1,u.2]).frozen? x) → ∀ ty dc sc,
   (Builtin.copy_ #[48,48] ty #[.slice (some ⟨w.heap.size,(i + 1) * 2,none⟩) (n + 1 - (i + 1)) dc,.slice (some ⟨g,i * 2,none⟩) (n - i) sc]).run Tryz.prog W = .ok (goInt ((n - i : Nat) : Int)) (W.setCells w.heap.size ((i + 1) * 2) (fl2 (us.drop i))) := fun W hWc hWf ty dc sc => by
  have hmin : Nat.min (n - i) (n + 1 - (i + 1)) = n - i := by simp only [Nat.min_def]; split <;> omega
  have := run_copy_two (P := Tryz.prog) W 48 48 ty 139 w.heap.size ((i + 1) * 2) (n + 1 - (i + 1)) dc ⟨g,i * 2,none⟩ (n - i) sc (fl2 (us.drop i)) Tryz.underlying48 hsz (by rw [hmin]; exact hdl)
   (fun j v hj => by
    rw [Addr.add_lit,hWc,World.cell?_setCells_out _ _ _ _ _ (fun h _ => absurd h (by show g ≠ w.heap.size; omega))]
    refine hOb g _ v hbw (hat _ v ?_)
    rw [fl2_drop,List.getElem?_drop] at hj; exact hj)
   (fun j hj => by rw [hWc]; exact isSome_setCells _ _ _ _ (fun t ht => hN _ (by simp at ht; omega)) _ (hN _ (by omega)))
   (fun j hj => by rw [hWf,World.frozen?_setCells]; exact hNf _) (fl2_one fun x hx => h1 x (List.mem_of_mem_drop hx))
  rw [hmin] at this
  exact this
 have hFIN : Hid (∀ W : World,W.heap = ((W1.setCells w.heap.size (i * 2) [u.1,u.2]).setCells w.heap.size ((i + 1) * 2) (fl2 (us.drop i))).heap → W.ownsRow base 139 2 (.slice (some ⟨w.heap.size,0,none⟩) (n + 1) G) (n + 1) (fl2 (us.take i ++ u :: us.drop i))) := by
  intro W hW
  have k1 := heap_setCells [u.1,u.2] (i * 2) W1 ROW.toList hh1 (by simp; omega)
  have k2 := heap_setCells (fl2 (us.drop i)) ((i + 1) * 2) _ _ k1 (by
   simp only [List.length_append,List.length_take,List.length_drop,List.length_cons,List.length_nil,Array.length_toList,hRl,hdl]; omega)
  refine owns2_shut hb (by rw [hW]; exact k2) hGn hGm ?_ ?_
  ·simp only [List.length_append,List.length_take,List.length_drop,List.length_cons,List.length_nil,Array.length_toList,hRl,hdl]; omega
  ·have hR : ROW.toList.take (i * 2) = fl2 (us.take i) := by
    rw [hROW,Array.toList_append,Array.toList_append,List.append_assoc,List.toList_toArray]
    exact List.take_left' (by rw [fl2_length,List.length_take]; omega)
   have e1 : (ROW.toList.take (i * 2) ++ [u.1,u.2] ++ ROW.toList.drop (i * 2 + [u.1,u.2].length)).take ((i + 1) * 2) = fl2 (us.take i) ++ [u.1,u.2] := by
    rw [List.take_left' (by simp only [List.length_append,List.length_take,List.length_cons,List.length_nil,Array.length_toList,hRl]; omega),hR]
   rw [e1,List.take_left' (by
    simp only [List.length_append,List.length_cons,List.length_nil,fl2_length,List.length_take,List.length_drop,hul]; omega),fl2_append,fl2_cons]
   simp
 have hGR : Hid (w.grownBy W1 none) := by rw [hW1]; exact ⟨rfl,rfl,rfl,by simp,fun b hb _ => by show (w.heap.push _)[b]? = _; rw [Array.getElem?_push_lt hb,Array.getElem?_eq_getElem hb]⟩
 have hGi : ¬ (G = i) := by omega
 have hGim : ¬ (G = i + 1) := by omega
 have hci : ¬ (c = i) := by omega
 subst hW1
 have hE1 : ∀ x,((w.alloc (.cells ROW 139)).drew).cell? x = (w.drew.alloc (.cells ROW 139)).cell? x := fun x => rfl
 have hE2 : ∀ x,((w.alloc (.cells ROW 139)).drew).frozen? x = (w.drew.alloc (.cells ROW 139)).frozen? x := fun x => rfl
 have hF1 : ∀ x,(((w.alloc (.cells ROW 139)).drew.setCells w.heap.size (i * 2) [u.1,u.2]).drew).cell? x = ((w.drew.alloc (.cells ROW 139)).setCells w.heap.size (i * 2) [u.1,u.2]).cell? x := fun x => rfl
 have hF2 : ∀ x,(((w.alloc (.cells ROW 139)).drew.setCells w.heap.size (i * 2) [u.1,u.2]).drew).frozen? x = ((w.drew.alloc (.cells ROW 139)).setCells w.heap.size (i * 2) [u.1,u.2]).frozen? x := fun x => rfl
 have hw1 : IntKind.i64.wrap ((i : Int) + 1) = (i : Int) + 1 := by rw [IntKind.wrap_i64]; omega
 have hw2 : IntKind.i64.wrap ((n : Int) + 1) = (n : Int) + 1 := by rw [IntKind.wrap_i64]; omega
 have hw3 : IntKind.i64.wrap ((n : Int) + 1 - (i : Int)) = (n : Int) + 1 - (i : Int) := by rw [IntKind.wrap_i64]; omega
 have hb1 : (0 : Int) ≤ (i : Int) + 1 := by omega
 have hin : i ≤ n := by omega
 have htn : ((i : Int) + 1).toNat = i + 1 := by omega
 have hb3 : (i : Int) ≤ (n : Int) := by omega
 have hz1 : ((i : Int) == (n : Int)) = false := by simp; omega
 have hz3 : (c : Int) < (n : Int) + 1 := by omega
 unfold maxLen at hcm hGm
 have HA := Lib.hid hcpA; have HB := Lib.hid hcpB; have HZ := Lib.hid hrz
 clear hkk hik hold hROW hG hRl hh hct hcl hv hu h1 hat hva hN hNf hOb hh1 hcpA hcpB hrz hdl hul h
 have mixed : Tryz.prog.follows .mixedOrders = true := by kernel_rfl
 go_enter Tryz.func115,Tryz.ntmps115
 have hcA := HA.out _ hE1 hE2 3 (G - i)
 go_wp2_with (at_builtin; refine Lib.wpList_append_run _ rfl _ _ _ _ rfl _ _ rfl rfl _ _ (HZ.out _) ?_)
 go_region_law_o (refine step_copy_runI rfl _ _ 48 48 rfl (.slice (some ⟨w.heap.size,(i + 1) * 2,none⟩) (n + 1 - (i + 1)) (G - (i + 1))) (.slice (some ⟨g,i * 2,none⟩) (n - i) (c - i)) (by simp [Act.eval,Act.put]) (by simp [Act.eval,Act.put]) (HB.out _ hF1 hF2 3 (G - (i + 1)) (c - i)) ?_)
 clear hcA
 go_wp2
 go_ret
 have hdr : (((w.alloc (.cells ROW 139)).drew.setCells w.heap.size (i * 2) [u.1,u.2]).drew.setCells w.heap.size ((i + 1) * 2) (fl2 (us.drop i))).heap = (((w.drew.alloc (.cells ROW 139)).setCells w.heap.size (i * 2) [u.1,u.2]).setCells w.heap.size ((i + 1) * 2) (fl2 (us.drop i))).heap := by
  have e : (w.alloc (.cells ROW 139)).drew = w.drew.alloc (.cells ROW 139) := rfl
  rw [e,drew_setCells]; rfl
 refine ⟨_,rfl,hFIN.out _ hdr,?_⟩
 obtain ⟨a1,a2,a3,a4,a5⟩ := hGR.out
 obtain ⟨s1,s2,s3,s4,s5⟩ := grown_trans (grown_trans (grownBy_setCells w.heap.size [u.1,u.2] (i * 2) (w.alloc (.cells ROW 139)).drew) (grownBy_drew _ _)) (grownBy_setCells w.heap.size (fl2 (us.drop i)) ((i + 1) * 2) _)
 exact ⟨⟨s1.trans a1,s2.trans a2,s3.trans a3,Nat.le_trans a4 s4,fun b hb hne => (s5 b (Nat.lt_of_lt_of_le hb a4) (fun e => by injection e; omega)).trans (a5 b hb hne)⟩,by simp [Value.ownBlock]⟩
end Go.Proofs.YtfbmdlfkipipfaaGreatDoor
namespace Go.By
open Go.RowKit
section
variable {T2 T1 : TypeId} {w w' : World} {base n : Nat} {v : Value} {K : List (List UInt8 × List UInt8)}
theorem Bw.one {xs : List UInt8} (h : Bw T1 w base v xs) : v.oneCell' = true := by obtain ⟨q,m,c,rfl,_⟩ := h; rfl
theorem RwL.mid {v' : Value} {i : Nat} {u : Value × Value} {k : List UInt8 × List UInt8} {vs : List (Value × Value)} (a : vs.length = n) (b : K.length = n) (o : w.ownsRow base T2 2 v n (fl2 vs))
  (r : ∀ (j : Nat) (u : Value × Value),vs[j]? = some u → ∃ k,K[j]? = some k ∧ Bw T1 w base u.1 k.1 ∧ Bw T1 w base u.2 k.2) (hT : T1 ≠ T2) (h1 : Bw T1 w base u.1 k.1) (h2 : Bw T1 w base u.2 k.2) (hi : i ≤ n)
  (ho : w'.ownsRow base T2 2 v' (n + 1) (fl2 (vs.take i ++ u :: vs.drop i))) (hg : w.grownBy w' v.ownBlock) : RwL T2 T1 w' base v' (n + 1) (K.take i ++ k :: K.drop i) := by
 refine ⟨vs.take i ++ u :: vs.drop i,by simp [a]; omega,by simp [b]; omega,ho,?_⟩
 intro j x hj
 have lv : (vs.take i).length = i := by rw [List.length_take]; omega
 have lk : (K.take i).length = i := by rw [List.length_take]; omega
 by_cases hji : j < i
 ·rw [List.getElem?_append_left (by omega),List.getElem?_take,if_pos hji] at hj
  obtain ⟨k',hk,g1,g2⟩ := r j x hj
  exact ⟨k',by rw [List.getElem?_append_left (by omega),List.getElem?_take,if_pos hji]; exact hk,g1.grown hT o hg,g2.grown hT o hg⟩
 ·rw [List.getElem?_append_right (by omega),lv] at hj
  by_cases hje : j = i
  ·subst hje
   rw [Nat.sub_self] at hj
   have : u = x := by simpa using hj
   subst this
   exact ⟨k,by rw [List.getElem?_append_right (by omega),lk,Nat.sub_self]; rfl,h1.grown hT o hg,h2.grown hT o hg⟩
  ·rw [show j - i = (j - 1 - i) + 1 by omega,List.getElem?_cons_succ,List.getElem?_drop,show i + (j - 1 - i) = j - 1 by omega] at hj
   obtain ⟨k',hk,g1,g2⟩ := r (j - 1) x hj
   exact ⟨k',by rw [List.getElem?_append_right (by omega),lk,show j - i = (j - 1 - i) + 1 by omega,List.getElem?_cons_succ,List.getElem?_drop,show i + (j - 1 - i) = j - 1 by omega]; exact hk,g1.grown hT o hg,g2.grown hT o hg⟩
theorem fl2_set (us : List (Value × Value)) : ∀ (i : Nat) (u : Value × Value),fl2 (us.set i u) = ((fl2 us).set (i * 2) u.1).set (i * 2 + 1) u.2 := by
 induction us with
 | nil => intro i u; simp [fl2]
 | cons x us ih =>
  intro i u
  cases i with
  | zero => rfl
  | succ i =>
   rw [List.set_cons_succ,fl2_cons,fl2_cons,ih,show (i + 1) * 2 = i * 2 + 1 + 1 by omega]
   rfl
theorem RwL.put {g c i : Nat} {u1 u2 : Value} {k : List UInt8 × List UInt8} (h : RwL T2 T1 w base (.slice (some ⟨g,0,none⟩) n c) n K) (hT : T1 ≠ T2) (hi : i < n) (h1 : Bw T1 w base u1 k.1) (h2 : Bw T1 w base u2 k.2) :
  RwL T2 T1 ((w.setCell ⟨g,i * 2,none⟩ u1).setCell ⟨g,i * 2 + 1,none⟩ u2) base (.slice (some ⟨g,0,none⟩) n c) n (K.set i k) := by
 obtain ⟨vs,a,b,o,r⟩ := h
 have hg : w.grownBy ((w.setCell ⟨g,i * 2,none⟩ u1).setCell ⟨g,i * 2 + 1,none⟩ u2) (Value.slice (some ⟨g,0,none⟩) n c).ownBlock := by
  have := grown_trans (grownBy_setCell w g (i * 2) u1) (grownBy_setCell (w.setCell ⟨g,i * 2,none⟩ u1) g (i * 2 + 1) u2)
  simpa [Value.ownBlock] using this
 refine ⟨vs.set i (u1,u2),by simp [a],by simp [b],?_,?_⟩
 ·refine ⟨by rw [fl2_length,List.length_set,a],.inr ?_⟩
  rcases o.2 with ⟨hv,_⟩ | ⟨g',cap,cur,hv,hb,hh,e1,e2,e3,e4⟩
  ·simp at hv
  ·obtain ⟨rfl,rfl⟩ : g = g' ∧ c = cap := by simpa using hv
   refine ⟨g,c,_,rfl,hb,hss (hss hh),e1,e2,by simp [e3],?_⟩
   rw [fl2_set,← e4,Array.toList_setIfInBounds,Array.toList_setIfInBounds,List.take_set,List.take_set]
 ·intro j x hj
  rw [List.getElem?_set] at hj
  by_cases e : i = j
  ·subst e
   rw [if_pos rfl,if_pos (by omega)] at hj
   cases hj
   exact ⟨k,by rw [List.getElem?_set,if_pos rfl,if_pos (by omega)],h1.grown hT o hg,h2.grown hT o hg⟩
  ·rw [if_neg e] at hj
   obtain ⟨k',hk,g1,g2⟩ := r j x hj
   exact ⟨k',by rw [List.getElem?_set,if_neg e]; exact hk,g1.grown hT o hg,g2.grown hT o hg⟩
end
end Go.By
namespace Go.Proofs.YtfbmdlfkipipfaaGreatDoor
open Go.RowKit Go.By
theorem InsRow_any (base n i vb : Nat) (v u1 u2 : Value) (K : List Rw) (k : Rw) (w : World) (h : RwL 139 5 w base v n K) (hi : i ≤ n) (hn : n ≤ 65536) (hb : base ≤ w.heap.size)
  (hv : w.heap[vb]? = some (.cells #[u1,u2] 139 (0,0))) (hvb : v.ownBlock ≠ some vb) (h1 : Bw 5 w base u1 k.1) (h2 : Bw 5 w base u2 k.2) :
  Calls Tryz.prog 115 #[v,.int .i64 i,.slice (some ⟨vb,0,none⟩) 1 1] w fun e w' =>
   ∃ v',e = .returned v' ∧ RwL 139 5 w' base v' (n + 1) (K.take i ++ k :: K.drop i) ∧ w.grownBy w' v.ownBlock ∧ (v'.ownBlock = v.ownBlock ∨ v'.ownBlock = some w.heap.size) := by
 obtain ⟨vs,a,b,o,r⟩ := h
 have hu : u1.oneCell' = true ∧ u2.oneCell' = true := ⟨h1.one,h2.one⟩
 have hus : ∀ x,x ∈ vs → x.1.oneCell' = true ∧ x.2.oneCell' = true := fun x hx => by
  obtain ⟨j,hj,rfl⟩ := List.getElem_of_mem hx
  obtain ⟨k',-,g1,g2⟩ := r j _ (List.getElem?_eq_getElem hj)
  exact ⟨g1.one,g2.one⟩
 by_cases hin : i = n
 ·subst hin
  refine (InsEnd_any base i vb v vs (u1,u2) w o hb hu hn hv).mono ?_
  rintro e w' ⟨v',rfl,ho,hg,hbk⟩
  refine ⟨v',rfl,RwL.mid (u := (u1,u2)) a b o r (by decide) h1 h2 hi ?_ hg,hg,hbk⟩
  rw [List.take_of_length_le (by omega),List.drop_eq_nil_of_le (by omega)]; exact ho
 ·obtain ⟨q,c,rfl⟩ := owns_shape o
  obtain ⟨g,rfl,-⟩ : ∃ g,q = some ⟨g,0,none⟩ ∧ True := by
   rcases o.2 with ⟨hv,_⟩ | ⟨g,cap,cur,hv,_⟩
   ·simp at hv; omega
   ·simp at hv; exact ⟨g,hv.1,trivial⟩
  have hgv : vb ≠ g := fun e => hvb (by simp [Value.ownBlock,e])
  by_cases hroom : n + 1 ≤ c
  ·refine (InsMid_any base g n c i vb vs (u1,u2) w o (by omega) hroom hus hu hv hgv).mono ?_
   rintro e w' ⟨rfl,ho,hg⟩
   have hg2 : w.grownBy w' (Value.slice (some ⟨g,0,none⟩) n c).ownBlock := by simpa [Value.ownBlock] using hg
   exact ⟨_,rfl,RwL.mid (u := (u1,u2)) a b o r (by decide) h1 h2 hi ho hg2,hg2,.inl (by simp [Value.ownBlock])⟩
  ·refine (InsGrow_any base g n c i vb vs (u1,u2) w o (by omega) (by omega) hu hus hn hv hb).mono ?_
   rintro e w' ⟨v',rfl,ho,⟨g1,g2,g3,g4,g5⟩,hbk⟩
   have hg2 : w.grownBy w' (Value.slice (some ⟨g,0,none⟩) n c).ownBlock := ⟨g1,g2,g3,g4,fun b hb _ => g5 b hb (by simp)⟩
   exact ⟨v',rfl,RwL.mid (u := (u1,u2)) a b o r (by decide) h1 h2 hi ho hg2,hg2,.inr hbk⟩
end Go.Proofs.YtfbmdlfkipipfaaGreatDoor
