/- Rows kept one by one,as the grid's rank and the document's keep them: as many as the rank says. A region that draws its order,whose last operation (a store) waits for all others but one extract. The contract of the grid's Rank. Slices of rows that read so; the contract of the reference's Rest. Appends of rows: any part of a slice of rows onto a slice that the call owns. The contract of the reference's Insert. The contract of the reference's Turned. The contract of the reference's Rank. Determinants by the first row,over the field of 256 elements: linear in each row,nought where two rows are the same; what row steps do to them. Gauss-Jordan on rows with data: what each step keeps. -/
import Derived.Test.YtfbmdlfkipipfaaGreatDoorZf4
import Derived.Laws.AppendOwnNone
import Derived.Deep.AppendLies
namespace Go.Proofs.YtfbmdlfkipipfaaGreatDoor
open Go.By Gf
abbrev Rw := List UInt8 × List UInt8
def vf (xs : List UInt8) : V := fun j => xs.getD j 0
def cat (r : Rw) : List UInt8 := r.1 ++ r.2
def Fit (n t : Nat) (r : Rw) : Prop := r.1.length = n ∧ r.2.length = t
def lessF (x : Rw) (c : UInt8) (o : Rw) : Rw := (axpy c o.1 x.1,axpy c o.2 x.2)
def restF (K : List Rw) (x : Rw) : Rw := K.foldl (fun x k => lessF x (atS x.1 (leadS k.1)) k) x
theorem vf_axpy {c : UInt8} {xs ys : List UInt8} (h : xs.length = ys.length) : vf (axpy c xs ys) = fun j => vf ys j ^^^ gmul c (vf xs j) := by
 funext j
 unfold vf axpy
 simp only [List.getD_eq_getElem?_getD,List.getElem?_zipWith]
 by_cases hj : j < xs.length
 ·rw [List.getElem?_eq_getElem hj,List.getElem?_eq_getElem (by omega : j < ys.length)]; rfl
 ·rw [List.getElem?_eq_none (by omega),List.getElem?_eq_none (by omega)]; simp [gmul_zero,xor_zero]
theorem vf_scale (c : UInt8) (xs : List UInt8) : vf (xs.map (gmul c)) = fun j => gmul c (vf xs j) := by
 funext j
 unfold vf
 simp only [List.getD_eq_getElem?_getD,List.getElem?_map]
 cases xs[j]? <;> simp [gmul_zero]
theorem vf_inj {xs ys : List UInt8} (h : xs.length = ys.length) (e : ∀ j,j < xs.length → vf xs j = vf ys j) : xs = ys := by
 apply List.ext_getElem h
 intro i h1 h2
 have := e i h1
 simpa [vf,List.getD_eq_getElem?_getD,h1,h2] using this
theorem vf_app_left {xs ys : List UInt8} {j : Nat} (h : j < xs.length) : vf (xs ++ ys) j = vf xs j := by
 unfold vf; rw [List.getD_eq_getElem?_getD,List.getElem?_append_left h,List.getD_eq_getElem?_getD]
theorem axpy_append (c : UInt8) : ∀ (xs ys us vs : List UInt8),xs.length = us.length → axpy c (xs ++ ys) (us ++ vs) = axpy c xs us ++ axpy c ys vs := by
 intro xs ys us vs h
 unfold axpy
 exact List.zipWith_append h
theorem cat_less {n t : Nat} {x o : Rw} (c : UInt8) (hx : Fit n t x) (ho : Fit n t o) : cat (lessF x c o) = axpy c (cat o) (cat x) := by
 unfold cat lessF
 rw [axpy_append]
 rw [ho.1,hx.1]
theorem Fit.less {n t : Nat} {x o : Rw} {c : UInt8} (hx : Fit n t x) (ho : Fit n t o) : Fit n t (lessF x c o) := by
 unfold Fit lessF
 exact ⟨by rw [axpy_length _ _ _ (by rw [ho.1,hx.1])]; exact hx.1,by rw [axpy_length _ _ _ (by rw [ho.2,hx.2])]; exact hx.2⟩
theorem Fit.rest {n t : Nat} : ∀ {K : List Rw} {x : Rw},(∀ k,k ∈ K → Fit n t k) → Fit n t x → Fit n t (restF K x)
 | [],x,_,hx => hx
 | k :: K,x,hK,hx => Fit.rest (K := K) (fun a ha => hK a (by simp [ha])) (hx.less (hK k (by simp)))
theorem Fit.cat {n t : Nat} {x : Rw} (h : Fit n t x) : (cat x).length = n + t := by unfold Go.Proofs.YtfbmdlfkipipfaaGreatDoor.cat; rw [List.length_append,h.1,h.2]
def LeadAt (r : Rw) (l : Nat) : Prop := leadS r.1 = (l : Int) ∧ r.1[l]? = some 1 ∧ ∀ (j : Nat) (y : UInt8),j < l → r.1[j]? = some y → y = 0
def Led (r : Rw) : Prop := ∃ l,LeadAt r l
def leadN (r : Rw) : Nat := (leadS r.1).toNat
theorem Led.at {r : Rw} (h : Led r) : LeadAt r (leadN r) := by
 obtain ⟨l,hl⟩ := h
 have : leadN r = l := by unfold leadN; rw [hl.1]; rfl
 rw [this]; exact hl
theorem LeadAt.lt {r : Rw} {l n t : Nat} (h : LeadAt r l) (hf : Fit n t r) : l < n := by
 have := (List.getElem?_eq_some_iff.1 h.2.1).1; rw [hf.1] at this; exact this
def tri (K : List Rw) : List (V × Nat) := K.map fun k => (vf (cat k),leadN k)
theorem tri_fst (K : List Rw) : (tri K).map (·.1) = K.map fun k => vf (cat k) := by simp [tri,List.map_map,Function.comp_def]
theorem tri_mem {K : List Rw} {p : V × Nat} (h : p ∈ tri K) : ∃ k,k ∈ K ∧ p = (vf (cat k),leadN k) := by
 simp only [tri,List.mem_map] at h
 obtain ⟨k,hk,rfl⟩ := h; exact ⟨k,hk,rfl⟩
theorem vf_at {n t l : Nat} {x : Rw} (hx : Fit n t x) (hl : l < n) : vf (cat x) l = atS x.1 (l : Int) := by
 unfold cat
 rw [vf_app_left (by rw [hx.1]; exact hl)]
 simp [vf,atS]
theorem rest_red {n t : Nat} : ∀ {K : List Rw} {x : Rw},(∀ k,k ∈ K → Fit n t k ∧ Led k) → Fit n t x → vf (cat (restF K x)) = red (tri K) (vf (cat x))
 | [],x,_,_ => rfl
 | k :: K,x,hK,hx => by
  obtain ⟨hf,hl⟩ := hK k (by simp)
  have hL := hl.at
  have e : (restF (k :: K) x) = restF K (lessF x (atS x.1 (leadS k.1)) k) := rfl
  rw [e,rest_red (K := K) (fun a ha => hK a (by simp [ha])) (hx.less hf),cat_less _ hx hf,vf_axpy (by rw [hf.cat,hx.cat])]
  have e2 : atS x.1 (leadS k.1) = vf (cat x) (leadN k) := by rw [vf_at hx (hL.lt hf),hL.1]
  rw [e2]; rfl
theorem axpy_zero_of {c : UInt8} (h : c = 0) {xs ys : List UInt8} (hl : xs.length = ys.length) : axpy c xs ys = ys := by
 refine vf_inj (by rw [axpy_length _ _ _ hl]) (fun j _ => ?_)
 rw [vf_axpy hl]
 show vf ys j ^^^ gmul c _ = _
 rw [h,zero_gmul,xor_zero]
theorem leadS_neg {v : List UInt8} (h : leadS v < 0) : ∀ x,x ∈ v → x = 0 := by
 rcases leadS_cases v with ⟨_,_,h3⟩ | ⟨k,x,e,_⟩
 ·exact h3
 ·omega
theorem vf_zero {v : List UInt8} (h : ∀ x,x ∈ v → x = 0) : ∀ j,vf v j = 0 := by
 intro j
 unfold vf
 rw [List.getD_eq_getElem?_getD]
 cases e : v[j]? with
 | none => rfl
 | some x => exact h x (List.mem_of_getElem? e)
theorem norm_row {n t : Nat} {y : Rw} (hy : Fit n t y) (h : ¬ leadS y.1 < 0) : ∃ (l : Nat) (c : UInt8),c ≠ 0 ∧ leadS y.1 = (l : Int) ∧ LeadAt (normS y) l ∧ Fit n t (normS y) ∧ vf (cat (normS y)) = fun j => gmul c (vf (cat y) j) := by
 obtain ⟨v,d⟩ := y
 rcases norm_cases v d with ⟨h1,_⟩ | ⟨k,x,e,hx,hk,hj,g⟩
 ·exact absurd (by rw [h1]; decide) h
 ·refine ⟨k,ginv x,ginv_ne x hx,e,?_,?_,?_⟩
  ·rw [g]
   refine ⟨by have := norm_lead v d; rw [g] at this; rw [this,e],by simp [List.getElem?_map,hk,ginv_gmul x hx],?_⟩
   intro j y hjk hy'
   simp only [List.getElem?_map,Option.map_eq_some_iff] at hy'
   obtain ⟨z,hz,rfl⟩ := hy'
   rw [hj j z hjk hz,gmul_zero]
  ·rw [g]; exact ⟨by simpa using hy.1,by simpa using hy.2⟩
  ·rw [g]
   have : cat (v.map (gmul (ginv x)),d.map (gmul (ginv x))) = (cat (v,d)).map (gmul (ginv x)) := by simp [cat]
   rw [this,vf_scale]
def keepF (K : List Rw) (x : Rw) : List Rw := if leadS (restF K x).1 < 0 then K else K ++ [normS (restF K x)]
structure Kept (n t : Nat) (K : List Rw) : Prop where
 rows : ∀ k,k ∈ K → Fit n t k ∧ Led k
 tri : Tri (tri K)
theorem Kept.nil (n t : Nat) : Kept n t [] := ⟨by simp,trivial⟩
theorem tri_append (K L : List Rw) : tri (K ++ L) = tri K ++ tri L := by simp [tri]
theorem leadN_of {r : Rw} {l : Nat} (h : LeadAt r l) : leadN r = l := by unfold leadN; rw [h.1]; rfl
theorem vf_lead {n t l : Nat} {r : Rw} (h : LeadAt r l) (hf : Fit n t r) : vf (cat r) l = 1 := by
 rw [vf_at hf (h.lt hf),at_of h.2.1]
theorem Kept.step {n t : Nat} {K : List Rw} {x : Rw} (h : Kept n t K) (hx : Fit n t x) : Kept n t (keepF K x) := by
 unfold keepF
 split
 ·exact h
 ·rename_i hn
  have hr := hx.rest (fun k hk => (h.rows k hk).1)
  obtain ⟨l,c,hc,hl,hL,hF,hv⟩ := norm_row hr hn
  refine ⟨?_,?_⟩
  ·intro k hk
   rcases List.mem_append.1 hk with h' | h'
   ·exact h.rows k h'
   ·simp at h'; subst h'; exact ⟨hF,l,hL⟩
  ·rw [tri_append]
   show Tri (Go.Proofs.YtfbmdlfkipipfaaGreatDoor.tri K ++ [(vf (cat (normS (restF K x))),leadN (normS (restF K x)))])
   refine h.tri.snoc ?_ ?_
   ·intro p hp
    rw [hv]
    show gmul c (vf (cat (restF K x)) p.2) = 0
    rw [rest_red h.rows hx,red_at h.tri p hp,gmul_zero]
   ·rw [leadN_of hL]; exact vf_lead hL hF
theorem kept_span {n : Nat} : ∀ {K : List Rw} {x : Rw},Kept n 0 K → Fit n 0 x → (∀ k,k ∈ keepF K x → Sp (vf (cat x) :: K.map fun k => vf (cat k)) (vf (cat k))) ∧ Sp ((keepF K x).map fun k => vf (cat k)) (vf (cat x)) ∧ (∀ k,k ∈ K → Sp ((keepF K x).map fun k => vf (cat k)) (vf (cat k))) := by
 intro K x h hx
 have hr := hx.rest (fun k hk => (h.rows k hk).1)
 have hred := rest_red h.rows hx
 have hspan := red_span (tri K) (vf (cat x))
 rw [tri_fst] at hspan
 unfold keepF
 split
 ·rename_i hn
  have hz : ∀ j,red (tri K) (vf (cat x)) j = 0 := by
   intro j
   rw [← hred]
   have e : cat (restF K x) = (restF K x).1 := by unfold cat; rw [List.length_eq_zero_iff.1 hr.2,List.append_nil]
   rw [e]
   exact vf_zero (leadS_neg hn) j
  refine ⟨fun k hk => Sp.mem (List.mem_cons_of_mem _ (List.mem_map.2 ⟨k,hk,rfl⟩)),?_,fun k hk => Sp.mem (List.mem_map.2 ⟨k,hk,rfl⟩)⟩
  have := (red_zero h.tri).1 hz
  rwa [tri_fst] at this
 ·rename_i hn
  obtain ⟨l,c,hc,hl,hL,hF,hv⟩ := norm_row hr hn
  refine ⟨?_,?_,fun k hk => Sp.mem (List.mem_map.2 ⟨k,by simp [hk],rfl⟩)⟩
  ·intro k hk
   rcases List.mem_append.1 hk with h' | h'
   ·exact Sp.mem (List.mem_cons_of_mem _ (List.mem_map.2 ⟨k,h',rfl⟩))
   ·simp at h'; subst h'
    rw [hv,hred]
    refine Sp.scale c ?_
    have e : red (tri K) (vf (cat x)) = fun j => vf (cat x) j ^^^ (vf (cat x) j ^^^ red (tri K) (vf (cat x)) j) := by funext j; rw [← xor_assoc,xor_self,zero_xor]
    rw [e]
    exact Sp.add (Sp.mem (by simp)) (hspan.cons _)
  ·have e : vf (cat x) = fun j => gmul (ginv c) (vf (cat (normS (restF K x))) j) ^^^ (vf (cat x) j ^^^ red (tri K) (vf (cat x)) j) := by
    funext j
    rw [hv,hred]
    show _ = gmul (ginv c) (gmul c _) ^^^ _
    rw [← gmul_assoc,ginv_gmul c hc,one_gmul,xor_comm (red _ _ _),xor_cancel]
   rw [e]
   refine Sp.add (Sp.scale _ (Sp.mem (by simp))) (Sp.sub (fun a ha => ?_) hspan)
   simp only [List.mem_map] at ha ⊢
   obtain ⟨k,hk,rfl⟩ := ha
   exact ⟨k,by simp [hk],rfl⟩
theorem fold_rank {n : Nat} (Inv : List Rw → Prop) (f : List Rw → Rw → List Rw) (h0 : Inv []) (hK : ∀ K,Inv K → Kept n 0 K) (hf : ∀ K x,Inv K → Fit n 0 x → Inv (f K x) ∧ (f K x).Perm (keepF K x)) (rows : List (List UInt8)) (hrows : ∀ r,r ∈ rows → r.length = n) :
  Rk (rows.map vf) (rows.foldl (fun K r => f K (r,[])) []).length := by
 have key : ∀ (todo : List (List UInt8)) (K : List Rw) (done : List V),(∀ r,r ∈ todo → r.length = n) → Inv K → (∀ k,k ∈ K → Sp done (vf (cat k))) → (∀ v,v ∈ done → Sp (K.map fun k => vf (cat k)) v) →
   Inv (todo.foldl (fun K r => f K (r,[])) K) ∧ (∀ k,k ∈ todo.foldl (fun K r => f K (r,[])) K → Sp (done ++ todo.map vf) (vf (cat k))) ∧ (∀ v,v ∈ done ++ todo.map vf → Sp ((todo.foldl (fun K r => f K (r,[])) K).map fun k => vf (cat k)) v) := by
  intro todo
  induction todo with
  | nil => intro K done _ h1 h2 h3; exact ⟨h1,fun k hk => by simpa using h2 k hk,fun v hv => h3 v (by simpa using hv)⟩
  | cons r todo ih =>
   intro K done hl h1 h2 h3
   have hx : Fit n 0 (r,[]) := ⟨hl r (by simp),rfl⟩
   have ec : cat (r,[]) = r := by simp [cat]
   obtain ⟨s1,s2,s3⟩ := kept_span (hK K h1) hx
   obtain ⟨i1,hp⟩ := hf K (r,[]) h1 hx
   have hm : ∀ {v : V},Sp ((keepF K (r,[])).map fun k => vf (cat k)) v → Sp ((f K (r,[])).map fun k => vf (cat k)) v := fun h => Sp.sub (fun a ha => by
    obtain ⟨k,hk,rfl⟩ := List.mem_map.1 ha
    exact List.mem_map.2 ⟨k,hp.mem_iff.2 hk,rfl⟩) h
   rw [ec] at s1 s2
   have := ih (f K (r,[])) (done ++ [vf r]) (fun a ha => hl a (by simp [ha])) i1 (fun k hk => by
    refine Sp.trans ?_ (s1 k (hp.mem_iff.1 hk))
    intro a ha
    rcases List.mem_cons.1 ha with rfl | ha
    ·exact Sp.mem (by simp)
    ·obtain ⟨k',hk',rfl⟩ := List.mem_map.1 ha
     exact Sp.sub (fun b hb => by simp [hb]) (h2 k' hk')) (fun v hv => by
    rcases List.mem_append.1 hv with hv | hv
    ·refine Sp.trans ?_ (h3 v hv)
     intro a ha
     obtain ⟨k',hk',rfl⟩ := List.mem_map.1 ha
     exact hm (s3 k' hk')
    ·simp at hv; subst hv; exact hm s2)
   simpa using this
 obtain ⟨k1,k2,k3⟩ := key rows [] [] hrows h0 (by simp) (by simp)
 simp only [List.nil_append] at k2 k3
 refine ⟨_,(hK _ k1).tri.ind,?_,?_,?_⟩
 ·rw [tri_fst,List.length_map]
 ·intro b hb
  rw [tri_fst] at hb
  obtain ⟨k,hk,rfl⟩ := List.mem_map.1 hb
  exact k2 k hk
 ·intro a ha
  rw [tri_fst]
  exact k3 a ha
def insF (K : List Rw) (x : Rw) : List Rw :=
 if leadS (normS (restF K x)).1 < 0 then K else K.takeWhile (fun r => decide (leadS r.1 < leadS (normS (restF K x)).1)) ++ normS (restF K x) :: K.dropWhile (fun r => decide (leadS r.1 < leadS (normS (restF K x)).1))
theorem norm_leadS (r : Rw) : leadS (normS r).1 = leadS r.1 := by obtain ⟨v,d⟩ := r; exact norm_lead v d
theorem ins_perm (K : List Rw) (x : Rw) : (insF K x).Perm (keepF K x) := by
 unfold insF keepF
 rw [norm_leadS]
 split
 ·exact List.Perm.refl _
 ·refine (List.perm_middle).trans ?_
  rw [List.takeWhile_append_dropWhile]
  exact (List.perm_append_singleton _ _).symm
structure KeptS (n t : Nat) (K : List Rw) : Prop where
 rows : ∀ k,k ∈ K → Fit n t k ∧ Led k
 sorted : K.Pairwise (fun a b => leadN a < leadN b)
theorem vf_before {n t l : Nat} {r : Rw} (hf : Fit n t r) (h : Led r) (hl : l < leadN r) : vf (cat r) l = 0 := by
 have hL := h.at
 have := hL.lt hf
 rw [vf_at hf (by omega)]
 have hz := hL.2.2 l
 simp only [atS,Int.toNat_natCast,Int.natCast_nonneg,if_true,List.getD_eq_getElem?_getD]
 cases e : r.1[l]? with
 | none => rfl
 | some y => exact hz y hl e
theorem tri_of_sorted {n t : Nat} : ∀ {K : List Rw},(∀ k,k ∈ K → Fit n t k ∧ Led k) → K.Pairwise (fun a b => leadN a < leadN b) → Tri (tri K)
 | [],_,_ => trivial
 | k :: K,h1,h2 => by
  obtain ⟨g1,g2⟩ := List.pairwise_cons.1 h2
  obtain ⟨hf,hl⟩ := h1 k (by simp)
  refine ⟨vf_lead hl.at hf,?_,tri_of_sorted (fun a ha => h1 a (by simp [ha])) g2⟩
  intro p hp
  obtain ⟨k',hk',rfl⟩ := tri_mem hp
  exact vf_before (h1 k' (by simp [hk'])).1 (h1 k' (by simp [hk'])).2 (g1 k' hk')
theorem KeptS.kept {n t : Nat} {K : List Rw} (h : KeptS n t K) : Kept n t K := ⟨h.rows,tri_of_sorted h.rows h.sorted⟩
theorem KeptS.nil (n t : Nat) : KeptS n t [] := ⟨by simp,List.Pairwise.nil⟩
theorem mem_take {α : Type} {p : α → Bool} : ∀ {l : List α} {a : α},a ∈ l.takeWhile p → p a = true
 | b :: l,a,h => by
  rw [List.takeWhile_cons] at h
  split at h
  ·rename_i hb
   rcases List.mem_cons.1 h with rfl | h
   ·exact hb
   ·exact mem_take h
  ·simp at h
theorem drop_head {α : Type} {p : α → Bool} : ∀ {l : List α} {a : α} {r : List α},l.dropWhile p = a :: r → p a = false
 | b :: l,a,r,h => by
  rw [List.dropWhile_cons] at h
  split at h
  ·exact drop_head h
  ·rename_i hb
   simp at h
   rw [← h.1]; simpa using hb
theorem KeptS.step {n t : Nat} {K : List Rw} {x : Rw} (h : KeptS n t K) (hx : Fit n t x) : KeptS n t (insF K x) := by
 have hkk := h.kept.step hx
 have hp := ins_perm K x
 refine ⟨fun k hk => hkk.rows k (hp.mem_iff.1 hk),?_⟩
 unfold insF
 split
 ·exact h.sorted
 ·rename_i hn
  rw [norm_leadS] at hn
  have hr := hx.rest (fun k hk => (h.rows k hk).1)
  obtain ⟨l,c,hc,hl,hL,hF,hv⟩ := norm_row hr hn
  have hln := leadN_of hL
  rw [hL.1]
  have hne : ∀ k,k ∈ K → leadN k ≠ l := by
   intro k hk e
   have h1 : vf (cat (normS (restF K x))) l = 1 := vf_lead hL hF
   have h2 : vf (cat (normS (restF K x))) (leadN k) = 0 := by
    rw [hv]
    show gmul c (vf (cat (restF K x)) (leadN k)) = 0
    rw [rest_red h.rows hx,red_at h.kept.tri (vf (cat k),leadN k) (List.mem_map.2 ⟨k,hk,rfl⟩),gmul_zero]
   rw [e,h1] at h2
   exact absurd h2 (by decide)
  have hlead : ∀ k,k ∈ K → leadS k.1 = (leadN k : Int) := fun k hk => (h.rows k hk).2.at.1
  have hs : (K.takeWhile (fun r => decide (leadS r.1 < (l : Int))) ++ K.dropWhile (fun r => decide (leadS r.1 < (l : Int)))).Pairwise (fun a b => leadN a < leadN b) := by
   rw [List.takeWhile_append_dropWhile]; exact h.sorted
  have mT : ∀ k,k ∈ K.takeWhile (fun r => decide (leadS r.1 < (l : Int))) → k ∈ K ∧ leadN k < l := by
   intro k hk
   have h1 := (List.takeWhile_sublist _).mem hk
   refine ⟨h1,?_⟩
   have := mem_take hk
   rw [decide_eq_true_eq,hlead k h1] at this
   omega
  have mD : ∀ k,k ∈ K.dropWhile (fun r => decide (leadS r.1 < (l : Int))) → l < leadN k := by
   obtain ⟨h1,h2,h3⟩ := List.pairwise_append.1 hs
   cases e : K.dropWhile (fun r => decide (leadS r.1 < (l : Int))) with
   | nil => intro k hk; simp at hk
   | cons a r =>
    have ha : a ∈ K := (List.dropWhile_sublist _).mem (by rw [e]; simp)
    have hd := drop_head e
    rw [decide_eq_false_iff_not,hlead a ha] at hd
    have hla : l < leadN a := by have := hne a ha; omega
    rw [e] at h2
    intro k hk
    rcases List.mem_cons.1 hk with rfl | hk
    ·exact hla
    ·exact Nat.lt_trans hla ((List.pairwise_cons.1 h2).1 k hk)
  obtain ⟨h1,h2,h3⟩ := List.pairwise_append.1 hs
  refine List.pairwise_append.2 ⟨h1,List.pairwise_cons.2 ⟨fun k hk => by rw [hln]; exact mD k hk,h2⟩,?_⟩
  intro a ha b hb
  rcases List.mem_cons.1 hb with rfl | hb
  ·rw [hln]; exact (mT a ha).2
  ·exact h3 a ha b hb
theorem ins_rank {n : Nat} (rows : List (List UInt8)) (hrows : ∀ r,r ∈ rows → r.length = n) : Rk (rows.map vf) (rows.foldl (fun K r => insF K (r,[])) []).length :=
 fold_rank (KeptS n 0) insF (KeptS.nil n 0) (fun _ h => h.kept) (fun K x h hx => ⟨h.step hx,ins_perm K x⟩) rows hrows
end Go.Proofs.YtfbmdlfkipipfaaGreatDoor
namespace Go.By
open Go.RowKit
def lateB (ops : Array Oper) (m e : Nat) : Bool := decide (ops.size = m + 1) && decide (e < m) && match ops[m]? with
 | some o => o.guard.isNone && o.dst.isNone && (List.range m).all fun i => i == e || (preds o).contains i
 | none => false
theorem wpAny_one {P : Program} {ops : Array Oper} {Q : Exit → Act → World → Prop} {listed : Array Bool} {a : Act} {w : World} {e : Nat} {oe : Oper} (fuel : Nat) (he : ops[e]? = some oe) (hall : ∀ j,j < ops.size → j ≠ e → listed.getD j true = true) (hle : listed.getD e true = false) (hpe : ∀ k,k ∈ preds oe → listed.getD k false = true)
  (hu : unl ops.size listed ≤ fuel) (hg : oe.guard = none) (h : oe.wp P a w (fun a' w' => Q .normal a' w') Q) : wpAny P .any ops Q fuel listed a w := by
 have hes : e < ops.size := (Array.getElem?_eq_some_iff.1 he).1
 have hin : e ∈ Region.ready .any ops listed := mem_ready.2 ⟨hes,hle,oe,he,hpe⟩
 cases fuel with
 | zero =>
  exfalso
  have h0 : unl ops.size listed = 0 := by omega
  unfold unl at h0
  have := List.countP_eq_zero.1 h0 e (List.mem_range.2 hes)
  simp [hle] at this
 | succ n =>
  refine ⟨fun hr => by rw [hr] at hin; simp at hin,fun i hi => ?_⟩
  have hie : i = e := by
   apply Classical.byContradiction
   intro hne
   obtain ⟨h1,h2,_⟩ := mem_ready.1 hi
   rw [hall i h1 hne] at h2; cases h2
  subst hie
  unfold wpOp
  rw [he]
  show if Region.wanted oe (yielded ops a.tmps) = true then _ else _
  rw [if_pos (by simp [Region.wanted,hg])]
  have his : i < listed.size := by
   rcases Nat.lt_or_ge i listed.size with h | h
   ·exact h
   ·simp [Array.getD_eq_getD_getElem?,Array.getElem?_eq_none h] at hle
  refine .inl (Oper.wp_mono (fun a' w' hq => wpAny_done _ (fun j hj => ?_) hq) h)
  simp only [Array.getD_eq_getD_getElem?,Array.getElem?_setIfInBounds]
  by_cases e2 : i = j
  ·subst e2; simp [his]
  ·rw [if_neg e2]
   have := hall j hj (fun h => e2 h.symm)
   simpa [Array.getD_eq_getD_getElem?] using this
theorem wp_region_late {P : Program} {ops : Array Oper} {Q : Exit → Act → World → Prop} {id : Nat} {a0 : Act} {w0 : World} (sh : Nat → Shp) (n m e t d : Nat) (hn : a0.tmps.size = n) (hm : P.follows .mixedOrders = true) (hback : backB ops = true) (hdist : distB ops = true)
  (hlast : lateB ops m e = true) (oe : Oper) (hoe : ops[e]? = some oe) (hge : oe.guard = none) (hde : oe.dst = some d) (hdn : d < n)
  (hrun : ∀ (a : Act) (u x : Value) (w : World),sl a t = .tuple #[u,x] → ∃ v,(execOp a.eval oe).run P w = .ok (.value v) w) (hdsts : dstsB (ops.extract 0 m) n = true)
  (each : EachS P ops Q a0 w0.drew sh (ops.toList.take m) 0)
  (fin : ∀ a w o,ops[m]? = some o → Below w0.heap.size w0 w → a.tmps.size = a0.tmps.size → a.defers = a0.defers → (∀ j,j < m → j ≠ e → InvS ops sh j (sl a) w) → (∀ t,(ops.toList.all fun o => o.dst != some t) = true → sl a t = sl a0 t) →
   (∃ u x,sl a t = .tuple #[u,x]) ∧ o.wp P a w (fun a' w' => a' = a ∧ ∀ b : Act,b.tmps.size = a0.tmps.size → b.defers = a0.defers → (∀ t',t' ≠ d → sl b t' = sl a t') → Q .normal b w') Q) :
  (Code.region id ops true).wp P Q a0 w0 := by
 unfold lateB at hlast
 rw [Bool.and_eq_true,Bool.and_eq_true] at hlast
 have hsz : ops.size = m + 1 := of_decide_eq_true hlast.1.1
 have hem : e < m := of_decide_eq_true hlast.1.2
 have hm' : m < ops.size := by omega
 obtain ⟨ol,hol⟩ : ∃ ol,ops[m]? = some ol := ⟨_,Array.getElem?_eq_getElem hm'⟩
 have hl2 := hlast.2
 rw [hol] at hl2
 simp only [Bool.and_eq_true] at hl2
 have hguard : ol.guard = none := by cases hg : ol.guard <;> simp [hg] at hl2 ⊢
 have hdst : ol.dst = none := by cases hg : ol.dst <;> simp [hg] at hl2 ⊢
 have hpl : ∀ i,i < m → i ≠ e → i ∈ preds ol := fun i hi hne => by
  have := List.all_eq_true.1 hl2.2 i (List.mem_range.2 hi)
  simpa [hne] using this
 have hE := each_of (Q := Q) (P := P) (a0 := a0) (W0 := w0.drew) (sh := sh) hn (ops.toList.take m) 0 (fun j o hj => by
   rw [List.getElem?_take] at hj; split at hj
   ·simpa using hj
   ·cases hj) (by
   unfold dstsB at hdsts
   have e : (ops.extract 0 m).toList = ops.toList.take m := by simp
   rw [e] at hdsts; exact hdsts) each
 have stepAt : ∀ i o,i < m → ops[i]? = some o → StepOf P ops Q a0 w0.drew (fun W w => Below W.heap.size W w) (fun _ w w' => Below w.heap.size w w') (InvS ops sh) i o := fun i o hi ho => by
  have := Each.get _ 0 hE i o (by rw [List.getElem?_take,if_pos hi]; simpa using ho)
  rwa [Nat.zero_add] at this
 have stable : ∀ i j oi oj (σ σ' : Nat → Value) w w',i ≠ j → ops[i]? = some oi → ops[j]? = some oj → InvS ops sh j σ w → Below w.heap.size w w' → (∀ t,oi.dst ≠ some t → σ' t = σ t) → InvS ops sh j σ' w' := by
  intro i j oi oj σ σ' w w' hij hoi hoj hI hR hσ
  unfold InvS at hI ⊢
  cases hdj : dstOf ops j with
  | none => trivial
  | some d =>
   rw [hdj] at hI
   show (sh j).ok (σ' d) w'
   have hne : oi.dst ≠ some d := by
    intro e
    have hi' : i < ops.size := (Array.getElem?_eq_some_iff.1 hoi).1
    have hj' : j < ops.size := (Array.getElem?_eq_some_iff.1 hoj).1
    have := List.all_eq_true.1 (List.all_eq_true.1 hdist i (List.mem_range.2 hi')) j (List.mem_range.2 hj')
    rw [hoi,hoj] at this
    have hdj' : oj.dst = some d := by simpa [dstOf,hoj] using hdj
    simp [e,hdj',hij] at this
   rw [hσ d hne]
   exact (sh j).keep _ _ _ hI hR
 refine wp_region_any hm ?_
 show wpAny P .any ops Q ops.size (Array.replicate ops.size false) a0 w0.drew
 have main : ∀ (fuel : Nat) (listed : Array Bool) (a : Act) (w : World),unl ops.size listed ≤ fuel → listed.getD m true = false → Below w0.heap.size w0 w → a.tmps.size = a0.tmps.size → a.defers = a0.defers →
   (∀ j o,listed.getD j false = true → ops[j]? = some o → ∀ k,k ∈ preds o → listed.getD k false = true) →
   (∀ j,j < ops.size → listed.getD j true = true → listed.getD j false = true) →
   (∀ j,j < m → listed.getD j false = true → InvS ops sh j (sl a) w) →
   (∀ t,(∀ j o,j < m → listed.getD j false = true → ops[j]? = some o → o.dst ≠ some t) → sl a t = sl a0 t) → wpAny P .any ops Q fuel listed a w := by
  intro fuel
  induction fuel with
  | zero =>
   intro listed a w hu hlm
   exfalso
   have h0 : unl ops.size listed = 0 := by omega
   unfold unl at h0
   have := List.countP_eq_zero.1 h0 m (List.mem_range.2 hm')
   simp [hlm] at this
  | succ fuel ih =>
   intro listed a w hu hlm hEw hs hd hcl hlt hI ht
   refine ⟨fun hr => ?_,fun i hi => ?_⟩
   ·exfalso
    have hall : ∀ k j,j < k → j < ops.size → listed.getD j false = true := by
     intro k
     induction k with
     | zero => intro j hj; omega
     | succ k ihk =>
      intro j hj hjs
      refine hlt j hjs ?_
      cases hb : listed.getD j true with
      | true => rfl
      | false =>
       exfalso
       have ho : ops[j]? = some ops[j] := Array.getElem?_eq_getElem hjs
       have : j ∈ Region.ready .any ops listed := mem_ready.2 ⟨hjs,hb,_,ho,fun q hq => by
        have hbk := List.all_eq_true.1 hback j (List.mem_range.2 hjs)
        rw [ho] at hbk
        have hkj := of_decide_eq_true (List.all_eq_true.1 hbk q hq)
        exact ihk q (by omega) (by omega)⟩
       rw [hr] at this; cases this
    have hx := hall (m + 1) m (by omega) hm'
    rcases Nat.lt_or_ge m listed.size with h | h
    ·simp [Array.getD_eq_getD_getElem?,h] at hlm hx; rw [hlm] at hx; cases hx
    ·simp [Array.getD_eq_getD_getElem?,Array.getElem?_eq_none h] at hx
   ·obtain ⟨h1,h2,o,ho,h3⟩ := mem_ready.1 hi
    have hnl : listed.getD i false ≠ true := by
     intro hx
     rcases Nat.lt_or_ge i listed.size with h | h
     ·simp [Array.getD_eq_getD_getElem?,h] at h2 hx; rw [h2] at hx; cases hx
     ·simp [Array.getD_eq_getD_getElem?,Array.getElem?_eq_none h] at hx
    have his : i < listed.size := by
     rcases Nat.lt_or_ge i listed.size with h | h
     ·exact h
     ·simp [Array.getD_eq_getD_getElem?,Array.getElem?_eq_none h] at h2
    have gset : ∀ j (d : Bool),(listed.setIfInBounds i true).getD j d = if i = j then true else listed.getD j d := by
     intro j d
     simp only [Array.getD_eq_getD_getElem?,Array.getElem?_setIfInBounds]
     by_cases e : i = j
     ·subst e; simp [his]
     ·simp [e]
    by_cases him : i = m
    ·subst him
     rw [hol] at ho; cases ho
     obtain ⟨⟨u,x,htu⟩,hf⟩ := fin a w ol hol hEw hs hd (fun j hj hje => hI j hj (h3 j (hpl j hj hje))) (fun t htt => ht t (fun j oj hj _ hoj => by
      have := List.all_eq_true.1 htt oj (by rw [Array.mem_toList_iff]; exact Array.mem_of_getElem? hoj)
      simpa using this))
     unfold wpOp
     rw [hol]
     show if Region.wanted ol (yielded ops a.tmps) = true then _ else _
     rw [if_pos (by simp [Region.wanted,hguard])]
     have toT : ∀ j,listed.getD j false = true → listed.getD j true = true := fun j hjl => by
      rcases Nat.lt_or_ge j listed.size with h | h
      ·simp [Array.getD_eq_getD_getElem?,h] at hjl ⊢; exact hjl
      ·simp [Array.getD_eq_getD_getElem?,Array.getElem?_eq_none h] at hjl
     refine .inl (Oper.wp_mono (fun a' w' hq => ?_) hf)
     obtain ⟨rfl,hq⟩ := hq
     cases hle : listed.getD e true with
     | true =>
      refine wpAny_done _ (fun j hj => ?_) (hq a' hs hd (fun _ _ => rfl))
      rw [gset]
      by_cases e2 : i = j
      ·rw [if_pos e2]
      ·rw [if_neg e2]
       by_cases e3 : j = e
       ·subst e3; exact hle
       ·exact toT j (h3 j (hpl j (by omega) e3))
     | false =>
      obtain ⟨v,hv⟩ := hrun a' u x w' htu
      refine wpAny_one _ hoe (fun j hj hje => ?_) (by rw [gset,if_neg (by omega)]; exact hle) (fun k hk => ?_) (by have := unl_set (n := ops.size) h1 h2; omega) hge ?_
      ·rw [gset]
       by_cases e2 : i = j
       ·rw [if_pos e2]
       ·rw [if_neg e2]; exact toT j (h3 j (hpl j (by omega) hje))
      ·have hbk := List.all_eq_true.1 hback e (List.mem_range.2 (by omega))
       rw [hoe] at hbk
       have hke := of_decide_eq_true (List.all_eq_true.1 hbk k hk)
       rw [gset,if_neg (by omega)]
       exact h3 k (hpl k (by omega) (by omega))
      ·refine wp_val v hv ?_
       refine hq _ ((put_size _ _ _).trans hs) ((put_defers _ _ _).trans hd) (fun t' ht' => ?_)
       rw [hde,put_sl _ _ _ _ (fun h => ht' (by injection h with h; exact h.symm))]
    ·have him' : i < m := by omega
     have hst := stepAt i o him' ho
     have hst' := hst a w ⟨hEw.os,hEw.tape,hEw.output,hEw.size,hEw.block⟩ hs (fun k hk => hI k (by
       have hbk := List.all_eq_true.1 hback i (List.mem_range.2 h1)
       rw [ho] at hbk
       have := of_decide_eq_true (List.all_eq_true.1 hbk k hk); omega) (h3 k hk)) (fun t hti => by
      refine ht t (fun j oj hj hlj hoj hdj => ?_)
      have := List.all_eq_true.1 hti j (List.mem_range.2 (by omega))
      rw [hoj] at this
      by_cases e : j = i
      ·subst e; exact hnl hlj
      ·simp [e,hdj] at this
       exact hnl (hcl j oj hlj hoj i this))
     have next : ∀ (v : Value) (w' : World),Below w.heap.size w w' → InvS ops sh i (sl (a.put o.dst v)) w' → wpAny P .any ops Q fuel (listed.setIfInBounds i true) (a.put o.dst v) w' := by
      intro v w' hR hIi
      refine ih _ _ _ (by have := unl_set (n := ops.size) h1 h2; omega) (by rw [gset,if_neg him]; exact hlm) (hEw.trans (hR.mono hEw.size)) ((put_size _ _ _).trans hs) ((put_defers _ _ _).trans hd) ?_ ?_ ?_ ?_
      ·intro j oj hj hoj k hk
       rw [gset] at hj ⊢
       by_cases e : i = k
       ·rw [if_pos e]
       ·rw [if_neg e]
        by_cases e' : i = j
        ·subst e'; rw [ho] at hoj; cases hoj; exact h3 k hk
        ·rw [if_neg e'] at hj; exact hcl j oj hj hoj k hk
      ·intro j hj hl
       rw [gset] at hl ⊢
       by_cases e : i = j
       ·rw [if_pos e]
       ·rw [if_neg e] at hl ⊢; exact hlt j hj hl
      ·intro j hj hl
       rw [gset] at hl
       by_cases e : i = j
       ·subst e; exact hIi
       ·rw [if_neg e] at hl
        have hoj : ops[j]? = some ops[j] := Array.getElem?_eq_getElem (by omega)
        exact stable i j o _ (sl a) _ w w' e ho hoj (hI j hj hl) hR (fun t h => put_sl _ _ _ _ h)
      ·intro t htt
       have hdt : o.dst ≠ some t := htt i o him' (by rw [gset,if_pos rfl]) ho
       rw [put_sl _ _ _ _ hdt]
       exact ht t (fun j oj hj hl hoj => htt j oj hj (by rw [gset]; split <;> simp [hl]) hoj)
     unfold wpOp
     rw [ho]
     show if Region.wanted o (yielded ops a.tmps) = true then _ else _
     split
     ·rename_i hw
      rw [if_pos hw] at hst'
      exact .inl (Oper.wp_mono (fun a' w' ⟨v,e,hR,hIi⟩ => by rw [e] at hIi ⊢; exact next v w' hR hIi) hst')
     ·rename_i hw
      rw [if_neg hw] at hst'
      exact next undef w hst'.1 hst'.2
 refine main ops.size _ a0 w0.drew ?_ ?_ ⟨rfl,rfl,rfl,Nat.le_refl _,fun _ _ => rfl⟩ rfl rfl ?_ ?_ ?_ ?_
 ·unfold unl; exact Nat.le_trans List.countP_le_length (by simp)
 ·simp [Array.getD_eq_getD_getElem?,Array.getElem?_replicate,hm']
 ·intro j o hj; simp [Array.getD_eq_getD_getElem?,Array.getElem?_replicate] at hj
  split at hj <;> simp at hj
 ·intro j hj hl; simp [Array.getD_eq_getD_getElem?,Array.getElem?_replicate,hj] at hl
 ·intro j hj hl; simp [Array.getD_eq_getD_getElem?,Array.getElem?_replicate,show j < ops.size by omega] at hl
 ·intro t _; rfl
def RowN (B : Nat) (r : List UInt8 × List UInt8) (v : Value) (w : World) : Prop := ∃ p1 n1 c1 p2 n2 c2,v = .agg #[.slice p1 n1 c1,.slice p2 n2 c2] ∧ Sl B8 w p1 n1 c1 r.1 ∧ Sl B8 w p2 n2 c2 r.2 ∧ (∀ a,p1 = some a → B ≤ a.block) ∧ ∀ a,p2 = some a → B ≤ a.block
def Shp.rowN (B : Nat) (r : List UInt8 × List UInt8) : Shp := ⟨RowN B r,fun _ _ _ ⟨p1,n1,c1,p2,n2,c2,e,h1,h2,h3,h4⟩ hb => ⟨p1,n1,c1,p2,n2,c2,e,h1.keep hb,h2.keep hb,h3,h4⟩⟩
def RowTN (B : Nat) (r : List UInt8 × List UInt8) (code : Int) (v : Value) (w : World) : Prop := ∃ u,v = .tuple #[u,.int .i64 code] ∧ RowN B r u w
def Shp.rowTN (B : Nat) (r : List UInt8 × List UInt8) (code : Int) : Shp := ⟨RowTN B r code,fun _ _ _ ⟨u,e,h⟩ hb => ⟨u,e,(Shp.rowN B r).keep _ _ _ h hb⟩⟩
theorem grownBy_setCell' (w : World) (g o : Nat) (v : Value) : w.grownBy (w.setCell ⟨g,o,none⟩ v) (some g) :=
 ⟨rfl,rfl,rfl,by simp,fun b hb hne => Below.heap_setCell _ _ _ _ (fun e => hne (by rw [e]))⟩
theorem Sl.set {α : Type} {enc : α → Value} {w : World} {p : Option Addr} {n c g o : Nat} {v : Value} {xs : List α} (h : Sl enc w p n c xs) (hne : ∀ a,p = some a → a.block ≠ g) : Sl enc (w.setCell ⟨g,o,none⟩ v) p n c xs :=
 h.grown (grownBy_setCell' w g o v) (fun a ha e => hne a ha (by injection e))
theorem run_extract1 {P : Program} {a : Act} {u x : Value} {w : World} {t : Nat} (oe : Oper) (hop : oe.op = .extract (.tmp t) 1) (h : sl a t = .tuple #[u,x]) : ∃ v,(execOp a.eval oe).run P w = .ok (.value v) w :=
 ⟨x,by unfold execOp; rw [hop]; simp only [eval_tmp,h]; rfl⟩
end Go.By
namespace Go.Proofs.YtfbmdlfkipipfaaGreatDoor
open Go.RowKit Go.By
theorem info_vrow : (Tryz.prog.info? 139).map (fun i => (i.zero,i.size,i.bytes)) = some (some (.agg #[.slice none 0 0,.slice none 0 0]),2,48) := by kernel_rfl
theorem keepF_len (K : List Rw) (x : Rw) : (keepF K x).length ≤ K.length + 1 := by unfold keepF; split <;> simp
theorem restF_snoc (K : List Rw) (k x : Rw) : restF (K ++ [k]) x = lessF (restF K x) (atS (restF K x).1 (leadS k.1)) k := by unfold restF; rw [List.foldl_append]; rfl
theorem restF_take {K : List Rw} {j : Nat} {k x : Rw} (h : K[j]? = some k) : restF (K.take (j + 1)) x = lessF (restF (K.take j) x) (atS (restF (K.take j) x).1 (leadS k.1)) k := by
 have e : K.take (j + 1) = K.take j ++ [k] := by
  rw [List.take_add_one,h]; rfl
 rw [e,restF_snoc]
theorem lessS_fit {n t : Nat} {x k : Rw} {c : UInt8} (hx : Fit n t x) (hk : Fit n t k) : lessS x c k = (lessF x c k,0) := by
 unfold lessS lessF
 rw [if_pos ⟨by rw [hx.1,hk.1],by rw [hx.2,hk.2]⟩]
end Go.Proofs.YtfbmdlfkipipfaaGreatDoor
namespace Go.By
open Go.RowKit
structure RwS (w : World) (p : Option Addr) (n c : Nat) (K : List (List UInt8 × List UInt8)) : Prop where
 len : K.length = n
 le : n ≤ c
 max : c ≤ maxLen
 nil : p = none → n = 0 ∧ c = 0
 row : ∀ (j : Nat) (k : List UInt8 × List UInt8),K[j]? = some k → ∃ b o q1 m1 c1 q2 m2 c2,p = some ⟨b,o,none⟩ ∧ w.cell? ⟨b,o + j * 2,none⟩ = some (.slice q1 m1 c1) ∧ w.cell? ⟨b,o + j * 2 + 1,none⟩ = some (.slice q2 m2 c2) ∧ Sl B8 w q1 m1 c1 k.1 ∧ Sl B8 w q2 m2 c2 k.2
theorem RwS.keep {w w' : World} {p : Option Addr} {n c : Nat} {K : List (List UInt8 × List UInt8)} (h : RwS w p n c K) (hb : Below w.heap.size w w') : RwS w' p n c K :=
 ⟨h.len,h.le,h.max,h.nil,fun j k hj => by
  obtain ⟨b,o,q1,m1,c1,q2,m2,c2,e,h1,h2,h3,h4⟩ := h.row j k hj
  exact ⟨b,o,q1,m1,c1,q2,m2,c2,e,(hb.cell (p := ⟨b,o + j * 2,none⟩) (lt_of_cell h1)).trans h1,(hb.cell (p := ⟨b,o + j * 2 + 1,none⟩) (lt_of_cell h2)).trans h2,h3.keep hb,h4.keep hb⟩⟩
theorem RwS.nil0 (w : World) : RwS w none 0 0 [] := ⟨rfl,Nat.le_refl _,by simp [maxLen],fun _ => ⟨rfl,rfl⟩,fun j k h => by simp at h⟩
theorem Sl.set2 {α : Type} {enc : α → Value} {w : World} {p : Option Addr} {n c g o : Nat} {v : Value} {xs : List α} (h : Sl enc w p n c xs) (hne : 0 < n → ∀ a,p = some a → a.block ≠ g) : Sl enc (w.setCell ⟨g,o,none⟩ v) p n c xs := by
 rcases Nat.eq_zero_or_pos n with h0 | h0
 ·have hx : xs = [] := List.length_eq_zero_iff.1 (by rw [h.len,h0])
  subst hx
  exact ⟨h.len,h.le,h.max,h.nil,Rs.nil⟩
 ·exact h.set (hne h0)
end Go.By
namespace Go.Proofs.YtfbmdlfkipipfaaGreatDoor
open Go.RowKit Go.By
set_option maxRecDepth 100000 in
set_option maxHeartbeats 4000000 in
theorem Rest_any (wd t : Nat) (pk : Option Addr) (nk ck : Nat) (K : List Rw) (p1 p2 : Option Addr) (n1 c1 n2 c2 : Nat) (x : Rw) (w : World) (hK : RwS w pk nk ck K) (s1 : Sl B8 w p1 n1 c1 x.1) (s2 : Sl B8 w p2 n2 c2 x.2)
  (hfit : ∀ k,k ∈ K → Fit wd t k ∧ Led k) (hx : Fit wd t x) (hr1 : Room wd) (hr2 : Room t) (hnk : nk ≤ 65536) :
  Calls Tryz.prog 162 #[.slice pk nk ck,.agg #[.slice p1 n1 c1,.slice p2 n2 c2]] w (RetS w (restF K x)) := by
 have hinfo := info_ref
 have HK := Lib.hid hK; have HFIT := Lib.hid hfit; have HX := Lib.hid hx; have HR1 := Lib.hid hr1; have HR2 := Lib.hid hr2; have HLEN := Lib.hid hK.len
 have S1 := Lib.hid s1; have S2 := Lib.hid s2
 have a1 : Hid (0 < n1 → ∀ a,p1 = some a → a.block ≠ w.heap.size ∧ a.block ≠ w.heap.size + 1) := fun h0 a ha => by
  obtain ⟨b,o,hp,hb⟩ := s1.rs.lt (by rw [s1.len]; exact h0)
  rw [hp] at ha; cases ha; show b ≠ _ ∧ b ≠ _; omega
 have a2 : Hid (0 < n2 → ∀ a,p2 = some a → a.block ≠ w.heap.size ∧ a.block ≠ w.heap.size + 1) := fun h0 a ha => by
  obtain ⟨b,o,hp,hb⟩ := s2.rs.lt (by rw [s2.len]; exact h0)
  rw [hp] at ha; cases ha; show b ≠ _ ∧ b ≠ _; omega
 have HB0 : Hid (∀ o1 o2,Below w.heap.size w ((w.alloc o1).alloc o2)) := fun o1 o2 => al (al (Below.refl _ _) (Nat.le_refl _)) (by simp)
 clear hK hfit hx hr1 hr2 s1 s2
 go_enter Tryz.func162,Tryz.ntmps162
 go_wp2
 go_loopw [10] (fun i wq => ∃ (j : Nat) (q1 : Option Addr) (m1 g1 : Nat) (q2 : Option Addr) (m2 g2 : Nat),j ≤ nk ∧ i = .int .i64 j ∧ Hid (wq.heap[w.heap.size]? = some (.cells #[.slice q1 m1 g1,.slice q2 m2 g2] 187 (0,0))) ∧
  Hid (Sl B8 wq q1 m1 g1 (restF (K.take j) x).1) ∧ Hid (Sl B8 wq q2 m2 g2 (restF (K.take j) x).2) ∧ Hid (0 < m1 → ∀ a,q1 = some a → a.block ≠ w.heap.size ∧ a.block ≠ w.heap.size + 1) ∧ Hid (0 < m2 → ∀ a,q2 = some a → a.block ≠ w.heap.size ∧ a.block ≠ w.heap.size + 1) ∧
  Hid (Below w.heap.size w wq) ∧ Hid (wq.heap[w.heap.size + 1]? = some (.cells #[.slice none 0 0,.slice none 0 0] 187 (0,0)))) (fun i _ => nk - (intOf i).toNat)
 case atStart => exact ⟨0,p1,n1,c1,p2,n2,c2,Nat.zero_le _,rfl,hal (hnew rfl),S1.out.keep (HB0.out _ _),S2.out.keep (HB0.out _ _),a1.out,a2.out,HB0.out _ _,hnew (by simp)⟩
 case round =>
  clear S1 S2 a1 a2
  obtain ⟨j,q1,m1,g1,q2,m2,g2,hj,rfl,hL,hS1,hS2,hA1,hA2,hBw,hZ⟩ := hrel
  by_cases hjl : j < nk
  ·obtain ⟨kk,hkk⟩ : ∃ kk,K[j]? = some kk := ⟨_,List.getElem?_eq_getElem (by rw [HLEN.out]; exact hjl)⟩
   obtain ⟨bk,ok,a1,b1,d1,a2,b2,d2,rfl,e1,e2,t1,t2⟩ := HK.out.row j kk hkk
   have E1 := (hBw.out.cell (p := ⟨bk,ok + j * 2,none⟩) (lt_of_cell e1)).trans e1
   have E2 := (hBw.out.cell (p := ⟨bk,ok + j * 2 + 1,none⟩) (lt_of_cell e2)).trans e2
   have T1 := Lib.hid (t1.keep hBw.out); have T2 := Lib.hid (t2.keep hBw.out)
   have HKK := Lib.hid hkk
   have jn : (j : Int) < (nk : Int) := by omega
   have fk := HFIT.out kk (List.mem_of_getElem? hkk)
   obtain ⟨XJ,hXJ⟩ : ∃ XJ,XJ = restF (K.take j) x := ⟨_,rfl⟩
   have fitX : Fit wd t XJ := by rw [hXJ]; exact HX.out.rest (fun a ha => (HFIT.out a (List.mem_of_mem_take ha)).1)
   rw [← hXJ] at hS1 hS2
   obtain ⟨l,hl⟩ : ∃ l,l = leadN kk := ⟨_,rfl⟩
   have hLJ : leadS kk.1 = (l : Int) := by rw [hl]; exact fk.2.at.1
   have hlw : l < wd := by rw [hl]; exact fk.2.at.lt fk.1
   have lm1 : m1 = wd := by have := hS1.out.len; rw [fitX.1] at this; exact this.symm
   have lm2 : m2 = t := by have := hS2.out.len; rw [fitX.2] at this; exact this.symm
   have lb1 : b1 = wd := by have := t1.len; rw [fk.1.1] at this; exact this.symm
   have lb2 : b2 = t := by have := t2.len; rw [fk.1.2] at this; exact this.symm
   subst lm1
   obtain ⟨bx,ox,c,rfl,hcx,hxx⟩ := hS1.out.at l hlw
   have hcA : atS XJ.1 (leadS kk.1) = c := by rw [hLJ]; exact at_of hxx.out
   obtain ⟨YJ,hYJ⟩ : ∃ YJ,YJ = lessF XJ c kk := ⟨_,rfl⟩
   have hnext : Hid (restF (K.take (j + 1)) x = YJ) := by show _ = _; rw [restF_take hkk,← hXJ,hYJ,hcA]
   have HLD : Hid (∀ W,Sl B8 W a1 b1 d1 kk.1 → Calls Tryz.prog 105 #[.slice a1 b1 d1] W fun e w' => e = .returned (.int .i64 (l : Nat)) ∧ W = w') := fun W h => by have := RLead_any _ _ _ _ W h; rwa [hLJ] at this
   have HLS : Hid (∀ W,Sl B8 W (some ⟨bx,ox,none⟩) m1 g1 XJ.1 → Sl B8 W q2 m2 g2 XJ.2 → Sl B8 W a1 b1 d1 kk.1 → Sl B8 W a2 b2 d2 kk.2 → Calls Tryz.prog 104 #[.agg #[.slice (some ⟨bx,ox,none⟩) m1 g1,.slice q2 m2 g2],B8 c,.agg #[.slice a1 b1 d1,.slice a2 b2 d2]] W (RetR2 5 W YJ 0)) := fun W h1 h2 h3 h4 => by
    have := RLess_any (some ⟨bx,ox,none⟩) q2 a1 a2 m1 g1 m2 g2 b1 d1 b2 d2 XJ.1 XJ.2 kk.1 kk.2 c W h1 h2 h3 h4 HR1.out (by rw [lm2]; exact HR2.out) (by rw [lb1]; exact HR1.out) (by rw [lb2]; exact HR2.out)
    rw [lessS_fit (n := m1) (t := t) (x := XJ) (k := kk) fitX fk.1,← hYJ] at this
    exact this
   have hl1 := blk_lt hL.out; have hl2 := blk_lt hZ.out
   have hNX : Hid (∀ (w9 : World) (q5 : Option Addr) (m5 g5 : Nat) (q6 : Option Addr) (m6 g6 : Nat),Below wr.heap.size wr w9 → Sl B8 w9 q5 m5 g5 YJ.1 → Sl B8 w9 q6 m6 g6 YJ.2 → (∀ a,q5 = some a → wr.heap.size ≤ a.block) → (∀ a,q6 = some a → wr.heap.size ≤ a.block) →
     ((w9.setCell ⟨w.heap.size,0,none⟩ (.slice q5 m5 g5)).setCell ⟨w.heap.size,1,none⟩ (.slice q6 m6 g6)).heap[w.heap.size]? = some (.cells #[.slice q5 m5 g5,.slice q6 m6 g6] 187 (0,0)) ∧
     Sl B8 ((w9.setCell ⟨w.heap.size,0,none⟩ (.slice q5 m5 g5)).setCell ⟨w.heap.size,1,none⟩ (.slice q6 m6 g6)) q5 m5 g5 (restF (K.take (j + 1)) x).1 ∧
     Sl B8 ((w9.setCell ⟨w.heap.size,0,none⟩ (.slice q5 m5 g5)).setCell ⟨w.heap.size,1,none⟩ (.slice q6 m6 g6)) q6 m6 g6 (restF (K.take (j + 1)) x).2 ∧
     (0 < m5 → ∀ a,q5 = some a → a.block ≠ w.heap.size ∧ a.block ≠ w.heap.size + 1) ∧ (0 < m6 → ∀ a,q6 = some a → a.block ≠ w.heap.size ∧ a.block ≠ w.heap.size + 1) ∧
     Below w.heap.size w ((w9.setCell ⟨w.heap.size,0,none⟩ (.slice q5 m5 g5)).setCell ⟨w.heap.size,1,none⟩ (.slice q6 m6 g6)) ∧
     ((w9.setCell ⟨w.heap.size,0,none⟩ (.slice q5 m5 g5)).setCell ⟨w.heap.size,1,none⟩ (.slice q6 m6 g6)).heap[w.heap.size + 1]? = some (.cells #[.slice none 0 0,.slice none 0 0] 187 (0,0))) := by
    intro w9 q5 m5 g5 q6 m6 g6 b9 s5 s6 s7 s8
    have L9 := (b9.block _ hl1).trans hL.out
    have Z9 := (b9.block _ hl2).trans hZ.out
    rw [hnext.out]
    have ne5 : ∀ a,q5 = some a → a.block ≠ w.heap.size := fun a ha => by have := s7 a ha; omega
    have ne6 : ∀ a,q6 = some a → a.block ≠ w.heap.size := fun a ha => by have := s8 a ha; omega
    exact ⟨hss (hss L9),(s5.set ne5).set ne5,(s6.set ne6).set ne6,fun _ a ha => ⟨ne5 a ha,by have := s7 a ha; omega⟩,fun _ a ha => ⟨ne6 a ha,by have := s8 a ha; omega⟩,((bl hBw.out b9 hBw.out.size).setCell (Nat.le_refl _) _).setCell (Nat.le_refl _) _,hsc (hsc Z9 (by show w.heap.size + 1 ≠ w.heap.size; omega)) (by show w.heap.size + 1 ≠ w.heap.size; omega)⟩
   have HCX := Lib.hid hcx
   have AL : Hid (Below wr.heap.size wr (wr.alloc (.cells #[.slice a1 b1 d1,.slice a2 b2 d2] 187))) := al (Below.refl _ _) (Nat.le_refl _)
   have lw : (l : Int) < (m1 : Int) := by omega
   clear hXJ hYJ fitX fk hkk e1 e2 t1 t2 hl hLJ hcA hxx hcx lm2 lb1 lb2 hl1 hl2
   go_wp2_with fail
   refine Calls.mono (HLD.out _ (T1.out.keep AL.out)) ?_
   rintro e w' ⟨rfl,rfl⟩
   have z0 : (wr.alloc (.cells #[.slice a1 b1 d1,.slice a2 b2 d2] 187)).cell? ⟨wr.heap.size,0,none⟩ = some (.slice a1 b1 d1) := cell_of_row _ _ 0 _ _ _ (hnew rfl)
   have z1 : (wr.alloc (.cells #[.slice a1 b1 d1,.slice a2 b2 d2] 187)).cell? ⟨wr.heap.size,1,none⟩ = some (.slice a2 b2 d2) := cell_of_row _ _ 1 _ _ _ (hnew rfl)
   obtain ⟨y0,y1⟩ := cells2 (hal (o := .cells #[.slice a1 b1 d1,.slice a2 b2 d2] 187) hL.out)
   have cl : (wr.alloc (.cells #[.slice a1 b1 d1,.slice a2 b2 d2] 187)).cell? ⟨bx,ox + l,none⟩ = some (B8 c) := (AL.out.cell (p := ⟨bx,ox + l,none⟩) (lt_of_cell HCX.out)).trans HCX.out
   clear E1 E2
   go_wp2
   refine wp_region_late (fun ix => ([.val (.agg #[.slice (some ⟨bx,ox,none⟩) m1 g1,.slice q2 m2 g2]),.val (.pointer (some ⟨w.heap.size,0,none⟩)),.val (.slice (some ⟨bx,ox,none⟩) m1 g1),.val (.int .i64 (l : Nat)),.val (.pointer (some ⟨bx,ox + l,none⟩)),.val (B8 c),.val (.agg #[.slice a1 b1 d1,.slice a2 b2 d2]),.rowTN (wr.heap.size) (YJ) (0),.rowTN (wr.heap.size) (YJ) (0),.rowN (wr.heap.size) (YJ),.val (.int .i64 0),.any][ix]?).getD (.any)) 30 11 10 17 27 rfl (by kernel_rfl) (by decide) (by decide) (by decide) _ rfl rfl rfl (by decide) (fun a u x w h => run_extract1 _ rfl h) (by decide) ?_ ?_
   ·refine ⟨?_,?_,?_,?_,?_,?_,?_,?_,?_,?_,?_,trivial⟩
    ·intro a W hb0 hs hp hi; have hb := undrew hb0; clear hb0
     have tt : sl a 3 = .pointer (some ⟨w.heap.size,0,none⟩) := hi 3 (by decide)
     have dd0 := (hb.cell (p := ⟨w.heap.size,0,none⟩) (lt_of_cell y0)).trans y0
     have dd1 := (hb.cell (p := ⟨w.heap.size,1,none⟩) (lt_of_cell y1)).trans y1
     refine ite_y rfl (wp_val (.agg #[.slice (some ⟨bx,ox,none⟩) m1 g1,.slice q2 m2 g2]) ?_ ?_)
     ·simp only [execOp,eval_tmp,tt]; simp [go_sem,dd0,dd1]
     ·exact ⟨_,rfl,Below.refl _ _,rfl⟩
    ·intro a W hb0 hs hp hi; have hb := undrew hb0; clear hb0
     have t3 : sl a 3 = .pointer (some ⟨w.heap.size,0,none⟩) := hi 3 (by decide)
     refine ite_y rfl (wp_val (.pointer (some ⟨w.heap.size,0,none⟩)) ?_ ?_)
     ·simp only [execOp,eval_tmp,eval_const,t3]; simp [go_sem]
     ·exact ⟨_,rfl,Below.refl _ _,rfl⟩
    ·intro a W hb0 hs hp hi; have hb := undrew hb0; clear hb0
     have tt : sl a 19 = .pointer (some ⟨w.heap.size,0,none⟩) := hp 1 (by decide)
     have dd0 := (hb.cell (p := ⟨w.heap.size,0,none⟩) (lt_of_cell y0)).trans y0
     refine ite_y rfl (wp_val (.slice (some ⟨bx,ox,none⟩) m1 g1) ?_ ?_)
     ·simp only [execOp,eval_tmp,tt]; simp [go_sem,dd0]
     ·exact ⟨_,rfl,Below.refl _ _,rfl⟩
    ·intro a W hb0 hs hp hi; have hb := undrew hb0; clear hb0
     have t7 : sl a 7 = .int .i64 (l : Nat) := hi 7 (by decide)
     exact ite_y rfl (wp_val (sl a 7) rfl ⟨_,rfl,Below.refl _ _,t7⟩)
    ·intro a W hb0 hs hp hi; have hb := undrew hb0; clear hb0
     have ti0 : sl a 20 = .slice (some ⟨bx,ox,none⟩) m1 g1 := hp 2 (by decide)
     have ti1 : sl a 21 = .int .i64 (l : Nat) := hp 3 (by decide)
     refine ite_y rfl (wp_val (.pointer (some ⟨bx,ox + l,none⟩)) ?_ ?_)
     ·simp only [execOp,eval_tmp,eval_const,ti0,ti1]; simp [go_sem,lw,hlw]
     ·exact ⟨_,rfl,Below.refl _ _,rfl⟩
    ·intro a W hb0 hs hp hi; have hb := undrew hb0; clear hb0
     have tt : sl a 22 = .pointer (some ⟨bx,ox + l,none⟩) := hp 4 (by decide)
     have dd0 := (hb.cell (p := ⟨bx,ox + l,none⟩) (lt_of_cell cl)).trans cl
     refine ite_y rfl (wp_val (B8 c) ?_ ?_)
     ·simp only [execOp,eval_tmp,tt]; simp [go_sem,dd0]
     ·exact ⟨_,rfl,Below.refl _ _,rfl⟩
    ·intro a W hb0 hs hp hi; have hb := undrew hb0; clear hb0
     have tt : sl a 6 = .pointer (some ⟨wr.heap.size,0,none⟩) := hi 6 (by decide)
     have dd0 := (hb.cell (p := ⟨wr.heap.size,0,none⟩) (lt_of_cell z0)).trans z0
     have dd1 := (hb.cell (p := ⟨wr.heap.size,1,none⟩) (lt_of_cell z1)).trans z1
     refine ite_y rfl (wp_val (.agg #[.slice a1 b1 d1,.slice a2 b2 d2]) ?_ ?_)
     ·simp only [execOp,eval_tmp,tt]; simp [go_sem,dd0,dd1]
     ·exact ⟨_,rfl,Below.refl _ _,rfl⟩
    ·intro a W hb0 hs hp hi; have hb := undrew hb0; clear hb0
     have t18 : sl a 18 = .agg #[.slice (some ⟨bx,ox,none⟩) m1 g1,.slice q2 m2 g2] := hp 0 (by decide)
     have t23 : sl a 23 = B8 c := hp 5 (by decide)
     have t24 : sl a 24 = .agg #[.slice a1 b1 d1,.slice a2 b2 d2] := hp 6 (by decide)
     refine ite_y rfl (wp_enter 104 #[.agg #[.slice (some ⟨bx,ox,none⟩) m1 g1,.slice q2 m2 g2],B8 c,.agg #[.slice a1 b1 d1,.slice a2 b2 d2]] ?_ (HLS.out _ (hS1.out.keep (AL.out.trans (hb.mono AL.out.size))) (hS2.out.keep (AL.out.trans (hb.mono AL.out.size))) (T1.out.keep (AL.out.trans (hb.mono AL.out.size))) (T2.out.keep (AL.out.trans (hb.mono AL.out.size)))) ?_)
     ·simp only [execOp,resolve,List.map_toArray,List.map,eval_tmp,eval_func,eval_const,t18,t23,t24]; simp [go_sem]
     ·rintro e W' ⟨q5,m5,g5,q6,m6,g6,e5,e6,rfl,o5,o6,hw⟩; have hbs := hb.size; simp at hbs; exact ⟨_,rfl,_,rfl,hw,_,rfl,q5,m5,g5,q6,m6,g6,rfl,Sl.of_owns o5,Sl.of_owns o6,fun a ha => Nat.le_trans (by omega) (owns_new o5 a ha).1,fun a ha => Nat.le_trans (by omega) (owns_new o6 a ha).1⟩
    ·intro a W hb0 hs hp hi; have hb := undrew hb0; clear hb0
     have tt : RowTN (wr.heap.size) (YJ) (0) (sl a 25) W := hp 7 (by decide)
     exact ite_y rfl (wp_val (sl a 25) rfl ⟨_,rfl,Below.refl _ _,tt⟩)
    ·intro a W hb0 hs hp hi; have hb := undrew hb0; clear hb0
     have tt : RowTN (wr.heap.size) (YJ) (0) (sl a 17) W := hp 8 (by decide)
     obtain ⟨u,tt,hr⟩ := tt
     exact ite_y rfl (wp_val u (by simp only [execOp,eval_tmp,tt]; rfl) ⟨_,rfl,Below.refl _ _,hr⟩)
    ·intro a W hb0 hs hp hi; have hb := undrew hb0; clear hb0
     have tt : RowTN (wr.heap.size) (YJ) (0) (sl a 17) W := hp 8 (by decide)
     obtain ⟨u,tt,hr⟩ := tt
     exact ite_y rfl (wp_val (.int .i64 0) (by simp only [execOp,eval_tmp,tt]; rfl) ⟨_,rfl,Below.refl _ _,rfl⟩)
   ·intro a w9 o ho hb hs hd hI ht
    simp at ho; subst ho
    have t3 : sl a 3 = .pointer (some ⟨w.heap.size,0,none⟩) := ht 3 (by decide)
    have t17 : RowTN (wr.heap.size) (YJ) (0) (sl a 17) w9 := hI 8 (by decide) (by decide)
    have t26 : RowN (wr.heap.size) (YJ) (sl a 26) w9 := hI 9 (by decide) (by decide)
    obtain ⟨uu,t17,-⟩ := t17
    obtain ⟨q5,m5,g5,q6,m6,g6,t26,s5,s6,s7,s8⟩ := t26
    have b9 : Below wr.heap.size wr w9 := AL.out.trans (hb.mono AL.out.size)
    have L9 : w9.heap[w.heap.size]? = some (.cells #[.slice (some ⟨bx,ox,none⟩) m1 g1,.slice q2 m2 g2] 187 (0,0)) := (b9.block _ (blk_lt hL.out)).trans hL.out
    obtain ⟨d0,d1'⟩ := cells2 L9
    have f0 : w9.frozen? ⟨w.heap.size,0,none⟩ = false := frozen_of_row _ _ 0 _ _ L9
    have f1 : w9.frozen? ⟨w.heap.size,1,none⟩ = false := frozen_of_row _ _ 1 _ _ L9
    refine ⟨⟨_,_,t17⟩,wp_skipX (w' := (w9.setCell ⟨w.heap.size,0,none⟩ (.slice q5 m5 g5)).setCell ⟨w.heap.size,1,none⟩ (.slice q6 m6 g6)) ?_ ⟨rfl,fun b hbs hbd hbt => ?_⟩⟩
    ·simp only [execOp,eval_tmp,t26,t3]; simp [go_sem,d0,d1',f0,f1]
    have ha := act_is [18,19,20,21,22,23,24,25,17,26,27] hbs hbd (fun t h => (hbt t (fun e => by subst e; revert h; decide)).trans (ht t h)) (by decide)
    simp only [List.foldl] at ha
    generalize sl b 18 = u18 at ha
    generalize sl b 19 = u19 at ha
    generalize sl b 20 = u20 at ha
    generalize sl b 21 = u21 at ha
    generalize sl b 22 = u22 at ha
    generalize sl b 23 = u23 at ha
    generalize sl b 24 = u24 at ha
    generalize sl b 25 = u25 at ha
    generalize sl b 17 = u17 at ha
    generalize sl b 26 = u26 at ha
    generalize sl b 27 = u27 at ha
    simp only [Act.put,List.setIfInBounds_toArray,List.set_cons_zero,List.set_cons_succ] at ha
    rw [ha]; clear ha
    have NX := hNX.out w9 q5 m5 g5 q6 m6 g6 b9 s5 s6 s7 s8
    generalize (w9.setCell ⟨w.heap.size,0,none⟩ (.slice q5 m5 g5)).setCell ⟨w.heap.size,1,none⟩ (.slice q6 m6 g6) = wn at NX ⊢
    have NXH := Lib.hid NX
    clear NX s5 s6 s7 s8 hI ht hbt L9 d0 d1' f0 f1 b9 hb
    go_wp2
    go_roundw
    case rel => exact ⟨j + 1,q5,m5,g5,q6,m6,g6,by omega,by go_num,NXH.out.1,NXH.out.2.1,NXH.out.2.2.1,NXH.out.2.2.2.1,NXH.out.2.2.2.2.1,NXH.out.2.2.2.2.2.1,NXH.out.2.2.2.2.2.2⟩
    case measure => simp [intOf]; omega
  ·have hjn : j = nk := by omega
   have hge : (nk : Int) ≤ (j : Int) := by omega
   rw [List.take_of_length_le (by rw [HLEN.out,hjn]; exact Nat.le_refl _)] at hS1 hS2
   obtain ⟨y0,y1⟩ := cells2 hL.out
   obtain ⟨f0,f1⟩ := cells2 hZ.out
   have z0 := frozen_of_row _ _ 0 _ _ hZ.out
   have z1 := frozen_of_row _ _ 1 _ _ hZ.out
   have hne1 : Hid (Sl B8 ((wr.setCell ⟨w.heap.size + 1,0,none⟩ (.slice q1 m1 g1)).setCell ⟨w.heap.size + 1,1,none⟩ (.slice q2 m2 g2)) q1 m1 g1 (restF K x).1) := (hS1.out.set2 (fun h a ha => (hA1.out h a ha).2)).set2 (fun h a ha => (hA1.out h a ha).2)
   have hne2 : Hid (Sl B8 ((wr.setCell ⟨w.heap.size + 1,0,none⟩ (.slice q1 m1 g1)).setCell ⟨w.heap.size + 1,1,none⟩ (.slice q2 m2 g2)) q2 m2 g2 (restF K x).2) := (hS2.out.set2 (fun h a ha => (hA2.out h a ha).2)).set2 (fun h a ha => (hA2.out h a ha).2)
   clear hjn hS1 hS2 hA1 hA2 hL
   go_wp2
   refine bodyPost_ret (results_cell_row rfl _ _ _ 187 #[.slice q1 m1 g1,.slice q2 m2 g2] (0,0) _ rfl (hss (hss hZ.out)) Tryz.underlying187 rfl hinfo) rfl ⟨q1,m1,g1,q2,m2,g2,rfl,hne1.out,hne2.out,(hBw.out.setCell (by simp) _).setCell (by simp) _⟩
end Go.Proofs.YtfbmdlfkipipfaaGreatDoor
namespace Go.By
open Go.RowKit
def RwP (w : World) (u : Value × Value) (k : List UInt8 × List UInt8) : Prop := ∃ q1 m1 c1 q2 m2 c2,u = (.slice q1 m1 c1,.slice q2 m2 c2) ∧ Sl B8 w q1 m1 c1 k.1 ∧ Sl B8 w q2 m2 c2 k.2
theorem RwP.keep {w w' : World} {u : Value × Value} {k : List UInt8 × List UInt8} (h : RwP w u k) (hb : Below w.heap.size w w') : RwP w' u k := by
 obtain ⟨q1,m1,c1,q2,m2,c2,e,h1,h2⟩ := h; exact ⟨q1,m1,c1,q2,m2,c2,e,h1.keep hb,h2.keep hb⟩
structure RwV (w : World) (p : Option Addr) (n c : Nat) (vs : List (Value × Value)) : Prop where
 len : vs.length = n
 le : n ≤ c
 max : c ≤ maxLen
 nil : p = none → n = 0 ∧ c = 0
 cell : ∀ (j : Nat) (u : Value),(fl2 vs)[j]? = some u → ∃ b o,p = some ⟨b,o,none⟩ ∧ w.cell? ⟨b,o + j,none⟩ = some u
 one : ∀ u,u ∈ fl2 vs → u.oneCell' = true
theorem RwS.vals {w : World} {p : Option Addr} {n c : Nat} {K : List (List UInt8 × List UInt8)} (h : RwS w p n c K) : ∃ vs,RwV w p n c vs ∧ ∀ (j : Nat) (u : Value × Value),vs[j]? = some u → ∃ k,K[j]? = some k ∧ RwP w u k := by
 have each : ∀ j,j < n → ∃ (u : Value × Value),∃ b o,p = some ⟨b,o,none⟩ ∧ w.cell? ⟨b,o + j * 2,none⟩ = some u.1 ∧ w.cell? ⟨b,o + j * 2 + 1,none⟩ = some u.2 ∧ (∃ k,K[j]? = some k ∧ RwP w u k) ∧ u.1.oneCell' = true ∧ u.2.oneCell' = true := by
  intro j hj
  obtain ⟨k,hk⟩ : ∃ k,K[j]? = some k := ⟨_,List.getElem?_eq_getElem (by rw [h.len]; exact hj)⟩
  obtain ⟨b,o,q1,m1,c1,q2,m2,c2,e,h1,h2,h3,h4⟩ := h.row j k hk
  exact ⟨(.slice q1 m1 c1,.slice q2 m2 c2),b,o,e,h1,h2,⟨k,hk,q1,m1,c1,q2,m2,c2,rfl,h3,h4⟩,rfl,rfl⟩
 obtain ⟨f,hf⟩ : ∃ f : Nat → Value × Value,∀ j,j < n → ∃ b o,p = some ⟨b,o,none⟩ ∧ w.cell? ⟨b,o + j * 2,none⟩ = some (f j).1 ∧ w.cell? ⟨b,o + j * 2 + 1,none⟩ = some (f j).2 ∧ (∃ k,K[j]? = some k ∧ RwP w (f j) k) ∧ (f j).1.oneCell' = true ∧ (f j).2.oneCell' = true :=
  ⟨fun j => if hj : j < n then Classical.choose (each j hj) else (undef,undef),fun j hj => by simp only [dif_pos hj]; exact Classical.choose_spec (each j hj)⟩
 have hat : ∀ (j : Nat) (u : Value × Value),((List.range n).map f)[j]? = some u → j < n ∧ u = f j := by
  intro j u hj
  have hj' := (List.getElem?_eq_some_iff.1 hj).1
  simp at hj'
  rw [List.getElem?_map,List.getElem?_range hj'] at hj
  exact ⟨hj',by simpa using hj.symm⟩
 refine ⟨(List.range n).map f,⟨by simp,h.le,h.max,h.nil,?_,?_⟩,?_⟩
 ·intro i u hi
  have hlen := (List.getElem?_eq_some_iff.1 hi).1
  rw [fl2_length] at hlen
  have hj : i / 2 < n := by simp at hlen; omega
  obtain ⟨b,o,e,h1,h2,_⟩ := hf (i / 2) hj
  have hv : ((List.range n).map f)[i / 2]? = some (f (i / 2)) := by rw [List.getElem?_map,List.getElem?_range hj]; rfl
  obtain ⟨g1,g2⟩ := fl2_at hv
  refine ⟨b,o,e,?_⟩
  rcases Nat.mod_two_eq_zero_or_one i with hm | hm
  ·have : i / 2 * 2 = i := by omega
   rw [this] at g1 h1
   rw [g1] at hi; rw [h1,← hi]
  ·have : i / 2 * 2 + 1 = i := by omega
   rw [this] at g2
   rw [g2] at hi
   rw [show o + i = o + i / 2 * 2 + 1 by omega,h2,← hi]
 ·intro u hu
  obtain ⟨i,hi,rfl⟩ := List.getElem_of_mem hu
  rw [fl2_length] at hi
  have hj : i / 2 < n := by simp at hi; omega
  obtain ⟨b,o,e,_,_,_,o1,o2⟩ := hf (i / 2) hj
  have hv : ((List.range n).map f)[i / 2]? = some (f (i / 2)) := by rw [List.getElem?_map,List.getElem?_range hj]; rfl
  obtain ⟨g1,g2⟩ := fl2_at hv
  rcases Nat.mod_two_eq_zero_or_one i with hm | hm
  ·have : i / 2 * 2 = i := by omega
   rw [this] at g1
   have : (fl2 ((List.range n).map f))[i] = (f (i / 2)).1 := by
    rw [List.getElem?_eq_getElem (by rw [fl2_length]; exact hi)] at g1; injection g1
   rw [this]; exact o1
  ·have : i / 2 * 2 + 1 = i := by omega
   rw [this] at g2
   have : (fl2 ((List.range n).map f))[i] = (f (i / 2)).2 := by
    rw [List.getElem?_eq_getElem (by rw [fl2_length]; exact hi)] at g2; injection g2
   rw [this]; exact o2
 ·intro j u hj
  obtain ⟨hjn,rfl⟩ := hat j u hj
  obtain ⟨b,o,_,_,_,hk,_⟩ := hf j hjn
  exact hk
theorem RwV.keep {w w' : World} {p : Option Addr} {n c : Nat} {vs : List (Value × Value)} (h : RwV w p n c vs) (hb : Below w.heap.size w w') : RwV w' p n c vs :=
 ⟨h.len,h.le,h.max,h.nil,fun j u hj => by
  obtain ⟨b,o,e,h1⟩ := h.cell j u hj
  exact ⟨b,o,e,(hb.cell (p := ⟨b,o + j,none⟩) (lt_of_cell h1)).trans h1⟩,h.one⟩
theorem wpList_append_two {P : Program} (w : World) {ops : Array Oper} {rest : List Oper} {o : Oper} {a : Act} {Q : Exit → Act → World → Prop} (hgd : o.guard = none) (s x : Operand) (t : TypeId)
  (ho : o.op = .call { callee := .builtin .append,args := #[s,x],argTypes := #[t,t] })
  (base : Nat) (e : TypeId) (i : TypeInfo) (z : Value) (bytes : Nat) (ht : P.underlying t = some (.slice e)) (hi : P.info? e = some i) (hz : i.zero = some z)
  (hsize : i.size = 2) (hby : i.bytes = bytes) (hzs : z.cells.size = 2)
  (v : Value) (n : Nat) (ys : List Value) (hs : a.eval s = v) (hown : w.ownsRow base e 2 v n ys)
  (p : Option Addr) (m c : Nat) (us : List (Value × Value)) (hx : a.eval x = .slice p m c) (hrs : RwV w p m c us)
  (h63 : n + m ≤ maxLen) (hbytes : (n + m) * bytes ≤ 140737488355328) (hbase : base ≤ w.heap.size)
  (h : ∀ v' w',w'.ownsRow base e 2 v' (n + m) (ys ++ fl2 us) → w.grownBy w' v.ownBlock → wpList P ops Q rest (a.put o.dst v') w') : wpList P ops Q (o :: rest) a w := by
 cases p with
 | none =>
  obtain ⟨rfl,rfl⟩ := hrs.nil rfl
  have : us = [] := List.eq_nil_of_length_eq_zero hrs.len
  subst this
  refine wpList_append_own_none hgd s x t ho base e i 2 ht hi v n ys hs hown hx (h v w (by simpa [fl2] using hown) (World.grownBy.refl _ _))
 | some ad =>
  refine wpList_append_own w hgd s x t ho base e i z 2 bytes ht hi hz hsize hby hzs (by omega) v n ys hs hown ad m c (fl2 us) hx (by rw [fl2_length,hrs.len]) ?_ hrs.one h63 hbytes hbase (fun v' w' h1 h2 _ => h v' w' h1 h2)
  intro j u hj
  obtain ⟨b,o',e',hc⟩ := hrs.cell j u hj
  cases e'
  rw [Addr.add_lit]; exact hc
end Go.By
namespace Go.By
open Go.RowKit
theorem fl2_take (vs : List (Value × Value)) : ∀ k,fl2 (vs.take k) = (fl2 vs).take (k * 2) := by
 induction vs with
 | nil => intro k; simp [fl2]
 | cons v vs ih =>
  intro k
  cases k with
  | zero => simp [fl2]
  | succ k =>
   rw [List.take_succ_cons,show (k + 1) * 2 = k * 2 + 2 by omega]
   show v.1 :: v.2 :: fl2 (vs.take k) = (v.1 :: v.2 :: fl2 vs).take (k * 2 + 2)
   rw [List.take_succ_cons,List.take_succ_cons,ih k]
theorem fl2_drop (vs : List (Value × Value)) : ∀ k,fl2 (vs.drop k) = (fl2 vs).drop (k * 2) := by
 induction vs with
 | nil => intro k; simp [fl2]
 | cons v vs ih =>
  intro k
  cases k with
  | zero => simp [fl2]
  | succ k =>
   rw [List.drop_succ_cons,show (k + 1) * 2 = k * 2 + 2 by omega]
   show fl2 (vs.drop k) = (v.1 :: v.2 :: fl2 vs).drop (k * 2 + 2)
   rw [List.drop_succ_cons,List.drop_succ_cons,ih k]
section
variable {w : World} {p : Option Addr} {n c j : Nat} {vs : List (Value × Value)}
theorem RwV.take (h : RwV w p n c vs) (hj : j ≤ n) : RwV w p j c (vs.take j) := by
 refine ⟨by rw [List.length_take,h.len]; omega,by have := h.le; omega,h.max,fun e => by have := h.nil e; omega,fun i u hi => ?_,fun u hu => ?_⟩
 ·rw [fl2_take,List.getElem?_take] at hi
  split at hi
  ·exact h.cell i u hi
  ·cases hi
 ·rw [fl2_take] at hu; exact h.one u (List.mem_of_mem_take hu)
theorem RwV.drop {b o : Nat} (h : RwV w (some ⟨b,o,none⟩) n c vs) (hj : j ≤ n) : RwV w (some ⟨b,o + j * 2,none⟩) (n - j) (c - j) (vs.drop j) := by
 refine ⟨by rw [List.length_drop,h.len],by have := h.le; omega,by have := h.max; omega,fun e => (by cases e),fun i u hi => ?_,fun u hu => ?_⟩
 ·rw [fl2_drop,List.getElem?_drop] at hi
  obtain ⟨b',o',e,hc⟩ := h.cell (j * 2 + i) u hi
  cases e
  exact ⟨b,o + j * 2,rfl,by rw [show o + j * 2 + i = o + (j * 2 + i) by omega]; exact hc⟩
 ·rw [fl2_drop] at hu; exact h.one u (List.mem_of_mem_drop hu)
theorem RwV.none (hp : p = none → c = 0) (hm : c ≤ maxLen) : RwV w p 0 c [] := ⟨rfl,Nat.zero_le _,hm,fun e => ⟨rfl,hp e⟩,fun i u h => by simp [fl2] at h,fun u h => by simp [fl2] at h⟩
theorem Sl.away {g T : Nat} {fr : Nat × Nat} {p1 p2 q : Option Addr} {n1 c1 n2 c2 m k : Nat} {xs : List UInt8} (h : Sl B8 w q m k xs) (hg : w.heap[g]? = some (.cells #[.slice p1 n1 c1,.slice p2 n2 c2] T fr)) (h0 : 0 < m) : ∀ a,q = some a → a.block ≠ g := by
 intro a ha e
 obtain ⟨b,o,hp,hc⟩ := h.rs 0 (by rw [h.len]; exact h0)
 rw [hp] at ha; cases ha
 have e' : b = g := e
 subst e'
 rw [cell_of_row _ _ _ _ _ _ hg] at hc
 rcases ho : o + 0 with _ | _ | x
 ·rw [ho] at hc; simp at hc
 ·rw [ho] at hc; simp at hc
 ·rw [ho] at hc; simp at hc
theorem two_cells {W : World} {u v : Value} {T g : Nat} (hg : g = W.heap.size) : ∀ (j : Nat) (y : Value),[u,v][j]? = some y → (W.alloc (.cells #[u,v] T)).cell? ((⟨g,0,none⟩ : Addr).add j) = some y := by
 intro j y hj
 rw [Addr.add_lit,Nat.zero_add,cell_of_row _ _ j _ _ _ (hnew hg)]
 match j with
 | 0 => simpa using hj
 | 1 => simpa using hj
 | j + 2 => simp at hj
theorem two_ones (q1 q2 : Option Addr) (n1 c1 n2 c2 : Nat) : ∀ u,u ∈ [Value.slice q1 n1 c1,Value.slice q2 n2 c2] → u.oneCell' = true := by
 intro u hu; simp at hu; rcases hu with rfl | rfl <;> rfl
theorem RwS.of_owns {base T n c : Nat} {q : Option Addr} {vs : List (Value × Value)} {K : List (List UInt8 × List UInt8)} (h : w.ownsRow base T 2 (.slice q n c) n (fl2 vs)) (hl : K.length = n) (hv : ∀ (j : Nat) (k : List UInt8 × List UInt8),K[j]? = some k → ∃ u,vs[j]? = some u ∧ RwP w u k) : RwS w q n c K := by
 rcases h.2 with ⟨h1,h2⟩ | ⟨g,cap,cur,h1,_,_,h3,h4,_⟩
 ·cases h1
  have : K = [] := List.length_eq_zero_iff.1 (by omega)
  subst this
  exact ⟨hl,Nat.le_of_eq h2,by simp [maxLen],fun _ => ⟨h2,rfl⟩,fun j k hk => by simp at hk⟩
 ·cases h1
  refine ⟨hl,h3,h4,fun e => (by cases e),fun j k hk => ?_⟩
  obtain ⟨u,hu,q1,m1,c1,q2,m2,c2,rfl,s1,s2⟩ := hv j k hk
  have hj := (List.getElem?_eq_some_iff.1 hk).1
  obtain ⟨g1,g2⟩ := fl2_at hu
  refine ⟨g,0,q1,m1,c1,q2,m2,c2,rfl,?_,?_,s1,s2⟩
  ·rw [Nat.zero_add,h.cellAt _ (by omega),g1]
  ·rw [Nat.zero_add,h.cellAt _ (by omega),g2]
def RwN (W w : World) (T : TypeId) (q : Option Addr) (n c : Nat) (K : List (List UInt8 × List UInt8)) : Prop :=
 Below W.heap.size W w ∧ K.length = n ∧ ∃ vs : List (Value × Value),w.ownsRow W.heap.size T 2 (.slice q n c) n (fl2 vs) ∧ ∀ (j : Nat) (k : List UInt8 × List UInt8),K[j]? = some k → ∃ u,vs[j]? = some u ∧ RwP W u k
theorem RwN.rwS {W : World} {T n c : Nat} {q : Option Addr} {K : List (List UInt8 × List UInt8)} (h : RwN W w T q n c K) : RwS w q n c K := by
 obtain ⟨hb,hl,vs,ho,hv⟩ := h
 exact RwS.of_owns ho hl fun j k hk => by obtain ⟨u,hu,hp⟩ := hv j k hk; exact ⟨u,hu,hp.keep hb⟩
end
end Go.By
namespace Go.Proofs.YtfbmdlfkipipfaaGreatDoor
open Go.RowKit Go.By
def RetK (w : World) (K : List Rw) (e : Ending) (w' : World) : Prop := ∃ q n c,n = K.length ∧ e = .returned (.slice q n c) ∧ RwS w' q n c K ∧ Below w.heap.size w w'
def RetKO (w : World) (v0 : Value) (K : List Rw) (e : Ending) (w' : World) : Prop := ∃ q n c,n = K.length ∧ e = .returned (.slice q n c) ∧ RwS w' q n c K ∧ Below w.heap.size w w' ∧ (Value.slice q n c = v0 ∨ ∃ W,w.heap.size ≤ W.heap.size ∧ RwN W w' 187 q n c K)
theorem info_rrow : (Tryz.prog.info? 187).map (fun i => (i.zero,i.size,i.bytes)) = some (some (.agg #[.slice none 0 0,.slice none 0 0]),2,48) := by kernel_rfl
theorem take_while_at {α : Type} {p : α → Bool} : ∀ {l : List α} {j : Nat},j ≤ l.length → (∀ i a,i < j → l[i]? = some a → p a = true) → (∀ a,l[j]? = some a → p a = false) → l.takeWhile p = l.take j ∧ l.dropWhile p = l.drop j
 | [],0,_,_,_ => ⟨rfl,rfl⟩
 | b :: l,0,_,_,h => by
  have := h b rfl
  simp [List.takeWhile_cons,List.dropWhile_cons,this]
 | b :: l,j + 1,hl,h1,h2 => by
  have hb := h1 0 b (by omega) rfl
  obtain ⟨g1,g2⟩ := take_while_at (l := l) (j := j) (by simpa using hl) (fun i a hi ha => h1 (i + 1) a (by omega) (by simpa using ha)) (fun a ha => h2 a (by simpa using ha))
  simp [List.takeWhile_cons,List.dropWhile_cons,hb,g1,g2]
set_option maxRecDepth 100000 in
set_option maxHeartbeats 4000000 in
theorem Insert_own (wd t : Nat) (pk : Option Addr) (nk ck : Nat) (K : List Rw) (p1 p2 : Option Addr) (n1 c1 n2 c2 : Nat) (x : Rw) (w : World) (hK : RwS w pk nk ck K) (s1 : Sl B8 w p1 n1 c1 x.1) (s2 : Sl B8 w p2 n2 c2 x.2)
  (hfit : ∀ k,k ∈ K → Fit wd t k ∧ Led k) (hx : Fit wd t x) (hr1 : Room wd) (hr2 : Room t) (hnk : nk ≤ 65535) :
  Calls Tryz.prog 103 #[.slice pk nk ck,.agg #[.slice p1 n1 c1,.slice p2 n2 c2]] w (RetKO w (.slice pk nk ck) (insF K x)) := by
 obtain ⟨r0,hr0,hrz,hr1',hr2'⟩ := info_parts info_rrow
 have HRS := Lib.hid (fun W a b c => Rest_any wd t pk nk ck K p1 p2 n1 c1 n2 c2 x W a b c hfit hx hr1 hr2 (by omega))
 have fitR := hx.rest (fun k hk => (hfit k hk).1)
 obtain ⟨XR,hXR⟩ : ∃ XR,XR = restF K x := ⟨_,rfl⟩
 rw [← hXR] at HRS fitR
 obtain ⟨Y,hY⟩ : ∃ Y,Y = normS XR := ⟨_,rfl⟩
 have HNM : Hid (∀ W q1 m1 g1 q2 m2 g2,Sl B8 W q1 m1 g1 XR.1 → Sl B8 W q2 m2 g2 XR.2 → Calls Tryz.prog 161 #[.agg #[.slice q1 m1 g1,.slice q2 m2 g2]] W (RetS W Y)) := fun W q1 m1 g1 q2 m2 g2 a b => by
  rw [hY]
  exact RNorm_any q1 q2 m1 g1 m2 g2 XR.1 XR.2 W a b (by rw [← a.len,fitR.1]; exact hr1) (by rw [← b.len,fitR.2]; exact hr2)
 have HINS : Hid (insF K x = if leadS Y.1 < 0 then K else K.takeWhile (fun r => decide (leadS r.1 < leadS Y.1)) ++ Y :: K.dropWhile (fun r => decide (leadS r.1 < leadS Y.1))) := by show _ = _; rw [hY,hXR]; rfl
 have HK := Lib.hid hK; have S1 := Lib.hid s1; have S2 := Lib.hid s2; have HLEN := Lib.hid hK.len
 have HB0 : Hid (∀ o1,Below w.heap.size w (w.alloc o1)) := fun o1 => al (Below.refl _ _) (Nat.le_refl _)
 obtain ⟨LY,hLY⟩ : ∃ LY,LY = leadS Y.1 := ⟨_,rfl⟩
 have HLY := Lib.hid hLY
 rw [← hLY] at HINS
 clear hK s1 s2 hfit hx hr1 hr2 hXR hY fitR hLY
 go_enter Tryz.func103,Tryz.ntmps103
 go_wp2_with fail
 refine Calls.mono (HRS.out _ (HK.out.keep (HB0.out _)) (S1.out.keep (HB0.out _)) (S2.out.keep (HB0.out _))) ?_
 rintro e w1 ⟨q1,m1,g1,q2,m2,g2,rfl,sA,sB,hb1⟩
 have X1 : Hid (w1.heap[w.heap.size]? = some (.cells #[.slice p1 n1 c1,.slice p2 n2 c2] 187 (0,0))) := (hb1.block _ (by simp)).trans (hnew rfl)
 have B1 : Hid (Below w.heap.size w w1) := bl (HB0.out _) hb1 (by simp)
 have SA := Lib.hid sA; have SB := Lib.hid sB
 clear sA sB hb1 HB0 HRS
 go_wp2_with fail
 refine Calls.mono (HNM.out _ _ _ _ _ _ _ SA.out SB.out) ?_
 rintro e w2 ⟨q5,m5,g5,q6,m6,g6,rfl,s5,s6,hb2⟩
 have X2 : Hid (w2.heap[w.heap.size]? = some (.cells #[.slice p1 n1 c1,.slice p2 n2 c2] 187 (0,0))) := (hb2.block _ (blk_lt X1.out)).trans X1.out
 have B2 : Hid (Below w.heap.size w w2) := bl B1.out hb2 B1.out.size
 have a5 := fun h => s5.away X2.out h
 have a6 := fun h => s6.away X2.out h
 have N3 : Hid (((w2.setCell ⟨w.heap.size,0,none⟩ (.slice q5 m5 g5)).setCell ⟨w.heap.size,1,none⟩ (.slice q6 m6 g6)).heap[w.heap.size]? = some (.cells #[.slice q5 m5 g5,.slice q6 m6 g6] 187 (0,0)) ∧
   Sl B8 ((w2.setCell ⟨w.heap.size,0,none⟩ (.slice q5 m5 g5)).setCell ⟨w.heap.size,1,none⟩ (.slice q6 m6 g6)) q5 m5 g5 Y.1 ∧ Sl B8 ((w2.setCell ⟨w.heap.size,0,none⟩ (.slice q5 m5 g5)).setCell ⟨w.heap.size,1,none⟩ (.slice q6 m6 g6)) q6 m6 g6 Y.2 ∧
   Below w.heap.size w ((w2.setCell ⟨w.heap.size,0,none⟩ (.slice q5 m5 g5)).setCell ⟨w.heap.size,1,none⟩ (.slice q6 m6 g6))) :=
  ⟨hss (hss X2.out),(s5.set2 a5).set2 a5,(s6.set2 a6).set2 a6,(B2.out.setCell (Nat.le_refl _) _).setCell (Nat.le_refl _) _⟩
 obtain ⟨d0,d1⟩ := cells2 X2.out
 have f0 : w2.frozen? ⟨w.heap.size,0,none⟩ = false := frozen_of_row _ _ 0 _ _ X2.out
 have f1 : w2.frozen? ⟨w.heap.size,1,none⟩ = false := frozen_of_row _ _ 1 _ _ X2.out
 clear s5 s6 hb2 a5 a6 X1 B1 SA SB HNM B2
 go_wp2_with fail
 generalize (w2.setCell ⟨w.heap.size,0,none⟩ (.slice q5 m5 g5)).setCell ⟨w.heap.size,1,none⟩ (.slice q6 m6 g6) = w3 at N3 ⊢
 have HLD : Hid (∀ W,Sl B8 W q5 m5 g5 Y.1 → Calls Tryz.prog 105 #[.slice q5 m5 g5] W fun e w' => e = .returned (.int .i64 LY) ∧ W = w') := fun W h => by rw [HLY.out]; exact RLead_any _ _ _ _ W h
 refine Calls.mono (HLD.out _ N3.out.2.1) ?_
 rintro e w' ⟨rfl,rfl⟩
 clear d0 d1 f0 f1 X2 w2
 by_cases hneg : LY < 0
 ·have HRK : Hid (RetKO w (.slice pk nk ck) (insF K x) (.returned (.slice pk nk ck)) w3) := by
   show RetKO _ _ _ _ _
   rw [HINS.out,if_pos hneg]
   exact ⟨pk,nk,ck,HLEN.out.symm,rfl,HK.out.keep N3.out.2.2.2,N3.out.2.2.2,.inl rfl⟩
  go_wp2
  go_ret
  exact HRK.out
 ·have hpos : 0 ≤ LY := by omega
  clear hneg
  go_wp2
  go_loopw [5] (fun i wr => ∃ j : Nat,j ≤ nk ∧ i = .int .i64 j ∧ Hid (Below w3.heap.size w3 wr) ∧ Hid (∀ (i : Nat) (k : Rw),i < j → K[i]? = some k → leadS k.1 < LY)) (fun i _ => nk - (intOf i).toNat)
  case atStart => exact ⟨0,Nat.zero_le _,rfl,Below.refl _ _,fun i k hi => by omega⟩
  case round =>
   obtain ⟨j,hj,rfl,HQ,HP⟩ := hrel
   by_cases hjl : j < nk
   ·obtain ⟨kk,hkk⟩ : ∃ kk,K[j]? = some kk := ⟨_,List.getElem?_eq_getElem (by rw [HLEN.out]; exact hjl)⟩
    obtain ⟨bk,ok,a1,b1,d1,a2,b2,d2,rfl,e1,e2,t1,t2⟩ := HK.out.row j kk hkk
    have hwr : Below w.heap.size w wr := bl N3.out.2.2.2 HQ.out N3.out.2.2.2.size
    have E1 := (hwr.cell (p := ⟨bk,ok + j * 2,none⟩) (lt_of_cell e1)).trans e1
    have T1 := Lib.hid (t1.keep hwr)
    have YQ := Lib.hid (N3.out.2.1.keep HQ.out)
    obtain ⟨y0,y1⟩ := cells2 ((HQ.out.block _ (blk_lt N3.out.1)).trans N3.out.1)
    obtain ⟨LK,hLK⟩ : ∃ LK,LK = leadS kk.1 := ⟨_,rfl⟩
    have jn : (j : Int) < (nk : Int) := by omega
    have L1 : Hid (∀ W,Sl B8 W a1 b1 d1 kk.1 → Calls Tryz.prog 105 #[.slice a1 b1 d1] W fun e w' => e = .returned (.int .i64 LK) ∧ W = w') := fun W h => by rw [hLK]; exact RLead_any _ _ _ _ W h
    have size68 := info_rrow
    have HKK := Lib.hid hkk; have HLK := Lib.hid hLK
    clear hkk hLK e1 e2 t1 t2 y1 hwr
    by_cases hcmp : LK < LY
    ·have HP2 : Hid (∀ (i : Nat) (k : Rw),i < j + 1 → K[i]? = some k → leadS k.1 < LY) := fun i k hi hk => by
      by_cases h : i < j
      ·exact HP.out i k h hk
      ·obtain rfl : i = j := by omega
       rw [HKK.out] at hk; cases hk
       rw [← HLK.out]; exact hcmp
     go_wp2_with fail
     refine wp_region_shapes (fun ix => ([.val (.int .i64 (j : Nat)),.val (.slice (some ⟨bk,ok,none⟩) nk ck),.val (.int .i64 (nk : Nat)),.val (.bool true),.val (.bool true),.val (.slice (some ⟨bk,ok,none⟩) nk ck),.val (.int .i64 (j : Nat)),.val (.pointer (some ⟨bk,ok + j * 2,none⟩)),.val (.pointer (some ⟨bk,ok + j * 2,none⟩)),.val (.slice a1 b1 d1),.val (.int .i64 LK),.val (.pointer (some ⟨w.heap.size,0,none⟩)),.val (.slice q5 m5 g5),.val (.int .i64 LY),.val (.bool true),.val (.bool true)][ix]?).getD (.any)) 48 rfl (by kernel_rfl) (by decide) (by decide) (by decide) ?_ ?_
     ·refine ⟨?_,?_,?_,?_,?_,?_,?_,?_,?_,?_,?_,?_,?_,?_,?_,?_,trivial⟩
      ·intro a W hb0 hs hp hi; have hb := undrew hb0; clear hb0
       have t5 : sl a 5 = .int .i64 (j : Nat) := hi 5 (by decide)
       exact ite_y rfl (wp_val (sl a 5) rfl ⟨_,rfl,Below.refl _ _,t5⟩)
      ·intro a W hb0 hs hp hi; have hb := undrew hb0; clear hb0
       have t0 : sl a 0 = .slice (some ⟨bk,ok,none⟩) nk ck := hi 0 (by decide)
       exact ite_y rfl (wp_val (sl a 0) rfl ⟨_,rfl,Below.refl _ _,t0⟩)
      ·intro a W hb0 hs hp hi; have hb := undrew hb0; clear hb0
       have t17 : sl a 17 = .slice (some ⟨bk,ok,none⟩) nk ck := hp 1 (by decide)
       refine ite_y rfl (wp_val (.int .i64 (nk : Nat)) ?_ ?_)
       ·simp only [execOp,resolve,List.map_toArray,List.map,eval_tmp,eval_func,eval_const,t17]; simp [go_sem]
       ·exact ⟨_,rfl,Below.refl _ _,rfl⟩
      ·intro a W hb0 hs hp hi; have hb := undrew hb0; clear hb0
       have t16 : sl a 16 = .int .i64 (j : Nat) := hp 0 (by decide)
       have t18 : sl a 18 = .int .i64 (nk : Nat) := hp 2 (by decide)
       refine ite_y rfl (wp_val (.bool true) ?_ ?_)
       ·simp only [execOp,eval_tmp,eval_const,t16,t18]; simp [go_sem,jn,hjl]
       ·exact ⟨_,rfl,Below.refl _ _,rfl⟩
      ·intro a W hb0 hs hp hi; have hb := undrew hb0; clear hb0
       have t19 : sl a 19 = .bool true := hp 3 (by decide)
       exact ite_y rfl (wp_val (sl a 19) rfl ⟨_,rfl,Below.refl _ _,t19⟩)
      ·intro a W hb0 hs hp hi; have hb := undrew hb0; clear hb0
       have tg : sl a 20 = .bool true := hp 4 (by decide)
       have t0 : sl a 0 = .slice (some ⟨bk,ok,none⟩) nk ck := hi 0 (by decide)
       exact ite_y (wanted_yes rfl rfl (by have hz : a.tmps.size = 48 := hs; rw [hz]; decide) tg) (wp_val (sl a 0) rfl ⟨_,rfl,Below.refl _ _,t0⟩)
      ·intro a W hb0 hs hp hi; have hb := undrew hb0; clear hb0
       have tg : sl a 20 = .bool true := hp 4 (by decide)
       have t5 : sl a 5 = .int .i64 (j : Nat) := hi 5 (by decide)
       exact ite_y (wanted_yes rfl rfl (by have hz : a.tmps.size = 48 := hs; rw [hz]; decide) tg) (wp_val (sl a 5) rfl ⟨_,rfl,Below.refl _ _,t5⟩)
      ·intro a W hb0 hs hp hi; have hb := undrew hb0; clear hb0
       have tg : sl a 20 = .bool true := hp 4 (by decide)
       have ti0 : sl a 21 = .slice (some ⟨bk,ok,none⟩) nk ck := hp 5 (by decide)
       have ti1 : sl a 22 = .int .i64 (j : Nat) := hp 6 (by decide)
       refine ite_y (wanted_yes rfl rfl (by have hz : a.tmps.size = 48 := hs; rw [hz]; decide) tg) (wp_val (.pointer (some ⟨bk,ok + j * 2,none⟩)) ?_ ?_)
       ·simp only [execOp,eval_tmp,eval_const,ti0,ti1]; simp [go_sem,jn,hjl,size68]
       ·exact ⟨_,rfl,Below.refl _ _,rfl⟩
      ·intro a W hb0 hs hp hi; have hb := undrew hb0; clear hb0
       have tg : sl a 20 = .bool true := hp 4 (by decide)
       have t23 : sl a 23 = .pointer (some ⟨bk,ok + j * 2,none⟩) := hp 7 (by decide)
       refine ite_y (wanted_yes rfl rfl (by have hz : a.tmps.size = 48 := hs; rw [hz]; decide) tg) (wp_val (.pointer (some ⟨bk,ok + j * 2,none⟩)) ?_ ?_)
       ·simp only [execOp,eval_tmp,eval_const,t23]; simp [go_sem]
       ·exact ⟨_,rfl,Below.refl _ _,rfl⟩
      ·intro a W hb0 hs hp hi; have hb := undrew hb0; clear hb0
       have tg : sl a 20 = .bool true := hp 4 (by decide)
       have tt : sl a 24 = .pointer (some ⟨bk,ok + j * 2,none⟩) := hp 8 (by decide)
       have dd := (hb.cell (p := ⟨bk,ok + j * 2,none⟩) (lt_of_cell E1)).trans E1
       refine ite_y (wanted_yes rfl rfl (by have hz : a.tmps.size = 48 := hs; rw [hz]; decide) tg) (wp_val (.slice a1 b1 d1) ?_ ?_)
       ·simp only [execOp,eval_tmp,tt]; simp [go_sem,dd]
       ·exact ⟨_,rfl,Below.refl _ _,rfl⟩
      ·intro a W hb0 hs hp hi; have hb := undrew hb0; clear hb0
       have tg : sl a 20 = .bool true := hp 4 (by decide)
       have t25 : sl a 25 = .slice a1 b1 d1 := hp 9 (by decide)
       refine ite_y (wanted_yes rfl rfl (by have hz : a.tmps.size = 48 := hs; rw [hz]; decide) tg) (wp_enter 105 #[.slice a1 b1 d1] ?_ (L1.out _ (T1.out.keep hb)) ?_)
       ·simp only [execOp,resolve,List.map_toArray,List.map,eval_tmp,eval_func,eval_const,t25]; simp [go_sem]
       ·rintro e W' ⟨rfl,rfl⟩; exact ⟨_,rfl,_,rfl,Below.refl _ _,rfl⟩
      ·intro a W hb0 hs hp hi; have hb := undrew hb0; clear hb0
       have tg : sl a 20 = .bool true := hp 4 (by decide)
       have t3 : sl a 3 = .pointer (some ⟨w.heap.size,0,none⟩) := hi 3 (by decide)
       refine ite_y (wanted_yes rfl rfl (by have hz : a.tmps.size = 48 := hs; rw [hz]; decide) tg) (wp_val (.pointer (some ⟨w.heap.size,0,none⟩)) ?_ ?_)
       ·simp only [execOp,eval_tmp,eval_const,t3]; simp [go_sem]
       ·exact ⟨_,rfl,Below.refl _ _,rfl⟩
      ·intro a W hb0 hs hp hi; have hb := undrew hb0; clear hb0
       have tg : sl a 20 = .bool true := hp 4 (by decide)
       have tt : sl a 27 = .pointer (some ⟨w.heap.size,0,none⟩) := hp 11 (by decide)
       have dd := (hb.cell (p := ⟨w.heap.size,0,none⟩) (lt_of_cell y0)).trans y0
       refine ite_y (wanted_yes rfl rfl (by have hz : a.tmps.size = 48 := hs; rw [hz]; decide) tg) (wp_val (.slice q5 m5 g5) ?_ ?_)
       ·simp only [execOp,eval_tmp,tt]; simp [go_sem,dd]
       ·exact ⟨_,rfl,Below.refl _ _,rfl⟩
      ·intro a W hb0 hs hp hi; have hb := undrew hb0; clear hb0
       have tg : sl a 20 = .bool true := hp 4 (by decide)
       have t28 : sl a 28 = .slice q5 m5 g5 := hp 12 (by decide)
       refine ite_y (wanted_yes rfl rfl (by have hz : a.tmps.size = 48 := hs; rw [hz]; decide) tg) (wp_enter 105 #[.slice q5 m5 g5] ?_ (HLD.out _ (YQ.out.keep hb)) ?_)
       ·simp only [execOp,resolve,List.map_toArray,List.map,eval_tmp,eval_func,eval_const,t28]; simp [go_sem]
       ·rintro e W' ⟨rfl,rfl⟩; exact ⟨_,rfl,_,rfl,Below.refl _ _,rfl⟩
      ·intro a W hb0 hs hp hi; have hb := undrew hb0; clear hb0
       have tg : sl a 20 = .bool true := hp 4 (by decide)
       have t26 : sl a 26 = .int .i64 LK := hp 10 (by decide)
       have t29 : sl a 29 = .int .i64 LY := hp 13 (by decide)
       refine ite_y (wanted_yes rfl rfl (by have hz : a.tmps.size = 48 := hs; rw [hz]; decide) tg) (wp_val (.bool true) ?_ ?_)
       ·simp only [execOp,eval_tmp,eval_const,t26,t29]; simp [go_sem,hcmp]
       ·exact ⟨_,rfl,Below.refl _ _,rfl⟩
      ·intro a W hb0 hs hp hi; have hb := undrew hb0; clear hb0
       have t20 : sl a 20 = .bool true := hp 4 (by decide)
       have t30 : sl a 30 = .bool true := hp 14 (by decide)
       refine ite_y rfl (wp_val (.bool true) ?_ ?_)
       ·simp only [execOp,eval_tmp,eval_const,t20,t30]; simp [go_sem]
       ·exact ⟨_,rfl,Below.refl _ _,rfl⟩
     ·intro a w9 hb hs hd hI ht
      have ha := act_is [16,17,18,19,20,21,22,23,24,25,26,27,28,29,30,31] hs hd ht (by decide)
      have t31 : sl a 31 = .bool true := hI 15 (by decide)
      simp only [List.foldl,t31] at ha
      generalize sl a 16 = u16 at ha
      generalize sl a 17 = u17 at ha
      generalize sl a 18 = u18 at ha
      generalize sl a 19 = u19 at ha
      generalize sl a 20 = u20 at ha
      generalize sl a 21 = u21 at ha
      generalize sl a 22 = u22 at ha
      generalize sl a 23 = u23 at ha
      generalize sl a 24 = u24 at ha
      generalize sl a 25 = u25 at ha
      generalize sl a 26 = u26 at ha
      generalize sl a 27 = u27 at ha
      generalize sl a 28 = u28 at ha
      generalize sl a 29 = u29 at ha
      generalize sl a 30 = u30 at ha
      simp only [Act.put,List.setIfInBounds_toArray,List.set_cons_zero,List.set_cons_succ] at ha
      rw [ha]; clear ha
      have HQ2 : Hid (Below w3.heap.size w3 w9) := bl HQ.out hb HQ.out.size
      clear hb hI E1 y0 T1 L1 YQ jn hcmp HP HQ
      go_wp2
      go_roundw
      case rel => exact ⟨j + 1,by omega,by go_num,HQ2.out,HP2.out⟩
      case measure => simp [intOf]; omega
    ·have HSTOP : Hid (∀ a,K[j]? = some a → ¬ leadS a.1 < LY) := fun a ha => by rw [HKK.out] at ha; cases ha; rw [← HLK.out]; omega
     go_wp2_with fail
     refine wp_region_shapes (fun ix => ([.val (.int .i64 (j : Nat)),.val (.slice (some ⟨bk,ok,none⟩) nk ck),.val (.int .i64 (nk : Nat)),.val (.bool true),.val (.bool true),.val (.slice (some ⟨bk,ok,none⟩) nk ck),.val (.int .i64 (j : Nat)),.val (.pointer (some ⟨bk,ok + j * 2,none⟩)),.val (.pointer (some ⟨bk,ok + j * 2,none⟩)),.val (.slice a1 b1 d1),.val (.int .i64 LK),.val (.pointer (some ⟨w.heap.size,0,none⟩)),.val (.slice q5 m5 g5),.val (.int .i64 LY),.val (.bool false),.val (.bool false)][ix]?).getD (.any)) 48 rfl (by kernel_rfl) (by decide) (by decide) (by decide) ?_ ?_
     ·refine ⟨?_,?_,?_,?_,?_,?_,?_,?_,?_,?_,?_,?_,?_,?_,?_,?_,trivial⟩
      ·intro a W hb0 hs hp hi; have hb := undrew hb0; clear hb0
       have t5 : sl a 5 = .int .i64 (j : Nat) := hi 5 (by decide)
       exact ite_y rfl (wp_val (sl a 5) rfl ⟨_,rfl,Below.refl _ _,t5⟩)
      ·intro a W hb0 hs hp hi; have hb := undrew hb0; clear hb0
       have t0 : sl a 0 = .slice (some ⟨bk,ok,none⟩) nk ck := hi 0 (by decide)
       exact ite_y rfl (wp_val (sl a 0) rfl ⟨_,rfl,Below.refl _ _,t0⟩)
      ·intro a W hb0 hs hp hi; have hb := undrew hb0; clear hb0
       have t17 : sl a 17 = .slice (some ⟨bk,ok,none⟩) nk ck := hp 1 (by decide)
       refine ite_y rfl (wp_val (.int .i64 (nk : Nat)) ?_ ?_)
       ·simp only [execOp,resolve,List.map_toArray,List.map,eval_tmp,eval_func,eval_const,t17]; simp [go_sem]
       ·exact ⟨_,rfl,Below.refl _ _,rfl⟩
      ·intro a W hb0 hs hp hi; have hb := undrew hb0; clear hb0
       have t16 : sl a 16 = .int .i64 (j : Nat) := hp 0 (by decide)
       have t18 : sl a 18 = .int .i64 (nk : Nat) := hp 2 (by decide)
       refine ite_y rfl (wp_val (.bool true) ?_ ?_)
       ·simp only [execOp,eval_tmp,eval_const,t16,t18]; simp [go_sem,jn,hjl]
       ·exact ⟨_,rfl,Below.refl _ _,rfl⟩
      ·intro a W hb0 hs hp hi; have hb := undrew hb0; clear hb0
       have t19 : sl a 19 = .bool true := hp 3 (by decide)
       exact ite_y rfl (wp_val (sl a 19) rfl ⟨_,rfl,Below.refl _ _,t19⟩)
      ·intro a W hb0 hs hp hi; have hb := undrew hb0; clear hb0
       have tg : sl a 20 = .bool true := hp 4 (by decide)
       have t0 : sl a 0 = .slice (some ⟨bk,ok,none⟩) nk ck := hi 0 (by decide)
       exact ite_y (wanted_yes rfl rfl (by have hz : a.tmps.size = 48 := hs; rw [hz]; decide) tg) (wp_val (sl a 0) rfl ⟨_,rfl,Below.refl _ _,t0⟩)
      ·intro a W hb0 hs hp hi; have hb := undrew hb0; clear hb0
       have tg : sl a 20 = .bool true := hp 4 (by decide)
       have t5 : sl a 5 = .int .i64 (j : Nat) := hi 5 (by decide)
       exact ite_y (wanted_yes rfl rfl (by have hz : a.tmps.size = 48 := hs; rw [hz]; decide) tg) (wp_val (sl a 5) rfl ⟨_,rfl,Below.refl _ _,t5⟩)
      ·intro a W hb0 hs hp hi; have hb := undrew hb0; clear hb0
       have tg : sl a 20 = .bool true := hp 4 (by decide)
       have ti0 : sl a 21 = .slice (some ⟨bk,ok,none⟩) nk ck := hp 5 (by decide)
       have ti1 : sl a 22 = .int .i64 (j : Nat) := hp 6 (by decide)
       refine ite_y (wanted_yes rfl rfl (by have hz : a.tmps.size = 48 := hs; rw [hz]; decide) tg) (wp_val (.pointer (some ⟨bk,ok + j * 2,none⟩)) ?_ ?_)
       ·simp only [execOp,eval_tmp,eval_const,ti0,ti1]; simp [go_sem,jn,hjl,size68]
       ·exact ⟨_,rfl,Below.refl _ _,rfl⟩
      ·intro a W hb0 hs hp hi; have hb := undrew hb0; clear hb0
       have tg : sl a 20 = .bool true := hp 4 (by decide)
       have t23 : sl a 23 = .pointer (some ⟨bk,ok + j * 2,none⟩) := hp 7 (by decide)
       refine ite_y (wanted_yes rfl rfl (by have hz : a.tmps.size = 48 := hs; rw [hz]; decide) tg) (wp_val (.pointer (some ⟨bk,ok + j * 2,none⟩)) ?_ ?_)
       ·simp only [execOp,eval_tmp,eval_const,t23]; simp [go_sem]
       ·exact ⟨_,rfl,Below.refl _ _,rfl⟩
      ·intro a W hb0 hs hp hi; have hb := undrew hb0; clear hb0
       have tg : sl a 20 = .bool true := hp 4 (by decide)
       have tt : sl a 24 = .pointer (some ⟨bk,ok + j * 2,none⟩) := hp 8 (by decide)
       have dd := (hb.cell (p := ⟨bk,ok + j * 2,none⟩) (lt_of_cell E1)).trans E1
       refine ite_y (wanted_yes rfl rfl (by have hz : a.tmps.size = 48 := hs; rw [hz]; decide) tg) (wp_val (.slice a1 b1 d1) ?_ ?_)
       ·simp only [execOp,eval_tmp,tt]; simp [go_sem,dd]
       ·exact ⟨_,rfl,Below.refl _ _,rfl⟩
      ·intro a W hb0 hs hp hi; have hb := undrew hb0; clear hb0
       have tg : sl a 20 = .bool true := hp 4 (by decide)
       have t25 : sl a 25 = .slice a1 b1 d1 := hp 9 (by decide)
       refine ite_y (wanted_yes rfl rfl (by have hz : a.tmps.size = 48 := hs; rw [hz]; decide) tg) (wp_enter 105 #[.slice a1 b1 d1] ?_ (L1.out _ (T1.out.keep hb)) ?_)
       ·simp only [execOp,resolve,List.map_toArray,List.map,eval_tmp,eval_func,eval_const,t25]; simp [go_sem]
       ·rintro e W' ⟨rfl,rfl⟩; exact ⟨_,rfl,_,rfl,Below.refl _ _,rfl⟩
      ·intro a W hb0 hs hp hi; have hb := undrew hb0; clear hb0
       have tg : sl a 20 = .bool true := hp 4 (by decide)
       have t3 : sl a 3 = .pointer (some ⟨w.heap.size,0,none⟩) := hi 3 (by decide)
       refine ite_y (wanted_yes rfl rfl (by have hz : a.tmps.size = 48 := hs; rw [hz]; decide) tg) (wp_val (.pointer (some ⟨w.heap.size,0,none⟩)) ?_ ?_)
       ·simp only [execOp,eval_tmp,eval_const,t3]; simp [go_sem]
       ·exact ⟨_,rfl,Below.refl _ _,rfl⟩
      ·intro a W hb0 hs hp hi; have hb := undrew hb0; clear hb0
       have tg : sl a 20 = .bool true := hp 4 (by decide)
       have tt : sl a 27 = .pointer (some ⟨w.heap.size,0,none⟩) := hp 11 (by decide)
       have dd := (hb.cell (p := ⟨w.heap.size,0,none⟩) (lt_of_cell y0)).trans y0
       refine ite_y (wanted_yes rfl rfl (by have hz : a.tmps.size = 48 := hs; rw [hz]; decide) tg) (wp_val (.slice q5 m5 g5) ?_ ?_)
       ·simp only [execOp,eval_tmp,tt]; simp [go_sem,dd]
       ·exact ⟨_,rfl,Below.refl _ _,rfl⟩
      ·intro a W hb0 hs hp hi; have hb := undrew hb0; clear hb0
       have tg : sl a 20 = .bool true := hp 4 (by decide)
       have t28 : sl a 28 = .slice q5 m5 g5 := hp 12 (by decide)
       refine ite_y (wanted_yes rfl rfl (by have hz : a.tmps.size = 48 := hs; rw [hz]; decide) tg) (wp_enter 105 #[.slice q5 m5 g5] ?_ (HLD.out _ (YQ.out.keep hb)) ?_)
       ·simp only [execOp,resolve,List.map_toArray,List.map,eval_tmp,eval_func,eval_const,t28]; simp [go_sem]
       ·rintro e W' ⟨rfl,rfl⟩; exact ⟨_,rfl,_,rfl,Below.refl _ _,rfl⟩
      ·intro a W hb0 hs hp hi; have hb := undrew hb0; clear hb0
       have tg : sl a 20 = .bool true := hp 4 (by decide)
       have t26 : sl a 26 = .int .i64 LK := hp 10 (by decide)
       have t29 : sl a 29 = .int .i64 LY := hp 13 (by decide)
       refine ite_y (wanted_yes rfl rfl (by have hz : a.tmps.size = 48 := hs; rw [hz]; decide) tg) (wp_val (.bool false) ?_ ?_)
       ·simp only [execOp,eval_tmp,eval_const,t26,t29]; simp [go_sem,hcmp]
       ·exact ⟨_,rfl,Below.refl _ _,rfl⟩
      ·intro a W hb0 hs hp hi; have hb := undrew hb0; clear hb0
       have t20 : sl a 20 = .bool true := hp 4 (by decide)
       have t30 : sl a 30 = .bool false := hp 14 (by decide)
       refine ite_y rfl (wp_val (.bool false) ?_ ?_)
       ·simp only [execOp,eval_tmp,eval_const,t20,t30]; simp [go_sem]
       ·exact ⟨_,rfl,Below.refl _ _,rfl⟩
     ·intro a w9 hb hs hd hI ht
      have ha := act_is [16,17,18,19,20,21,22,23,24,25,26,27,28,29,30,31] hs hd ht (by decide)
      have t31 : sl a 31 = .bool false := hI 15 (by decide)
      simp only [List.foldl,t31] at ha
      generalize sl a 16 = u16 at ha
      generalize sl a 17 = u17 at ha
      generalize sl a 18 = u18 at ha
      generalize sl a 19 = u19 at ha
      generalize sl a 20 = u20 at ha
      generalize sl a 21 = u21 at ha
      generalize sl a 22 = u22 at ha
      generalize sl a 23 = u23 at ha
      generalize sl a 24 = u24 at ha
      generalize sl a 25 = u25 at ha
      generalize sl a 26 = u26 at ha
      generalize sl a 27 = u27 at ha
      generalize sl a 28 = u28 at ha
      generalize sl a 29 = u29 at ha
      generalize sl a 30 = u30 at ha
      simp only [Act.put,List.setIfInBounds_toArray,List.set_cons_zero,List.set_cons_succ] at ha
      rw [ha]; clear ha
      obtain ⟨w4,hw4⟩ : ∃ w4,w4 = w9 := ⟨_,rfl⟩
      have h34 : Below w3.heap.size w3 w4 := by rw [hw4]; exact bl HQ.out hb HQ.out.size
      rw [← hw4]
      have X4 : Hid (w4.heap[w.heap.size]? = some (.cells #[.slice q5 m5 g5,.slice q6 m6 g6] 187 (0,0))) := (h34.block _ (blk_lt N3.out.1)).trans N3.out.1
      have Y5 : Hid (Sl B8 w4 q5 m5 g5 Y.1) := N3.out.2.1.keep h34
      have Y6 : Hid (Sl B8 w4 q6 m6 g6 Y.2) := N3.out.2.2.1.keep h34
      have B4 : Hid (Below w.heap.size w w4) := bl N3.out.2.2.2 h34 N3.out.2.2.2.size
      obtain ⟨vs,hvs,hvk⟩ := (HK.out.keep B4.out).vals
      have VS := Lib.hid hvs; have VK := Lib.hid hvk
      have HRES : Hid (insF K x = K.take j ++ Y :: K.drop j) := by
       show _ = _
       obtain ⟨g1',g2'⟩ := take_while_at (p := fun r => decide (leadS r.1 < LY)) (l := K) (j := j) (by rw [HLEN.out]; exact hj) (fun i a hi ha => decide_eq_true (HP.out i a hi ha)) (fun a ha => decide_eq_false (by have := HSTOP.out a ha; omega))
       rw [HINS.out,if_neg (by omega),g1',g2']
      clear h34 hb hI hvs hvk N3 HP HSTOP HQ
      try clear E1 y0 T1 L1 YQ jn hcmp
      clear hw4
      have HT := Lib.hid (VS.out.take hj)
      have HD := Lib.hid (VS.out.drop hj)
      have hjc : j < ck := by have := HK.out.le; omega
      have hnc : nk ≤ ck := HK.out.le
      have hjj : j * 2 < ck * 2 := by omega
      have HUS : Hid (vs.drop j = vs.drop j) := rfl
      go_wp2_with (at_builtin; refine wpList_append_two w4 rfl (.tmp 34) (.tmp 37) 99 rfl w4.heap.size 187 r0 _ 48 Tryz.underlying99 hr0 hrz hr1' hr2' rfl (.slice none 0 0) 0 [] rfl (World.ownsRow_nil _ _ _ _) (some ⟨bk,ok,none⟩) j ck (vs.take j) rfl HT.out (by unfold maxLen; omega) (by omega) (Nat.le_refl _) ?_)
      intro v5 w5 ho5 hg5
      obtain ⟨qa,ca,rfl⟩ := owns_shape ho5
      try simp only [Nat.zero_add,List.nil_append] at ho5
      have BA : Hid (Below w4.heap.size w4 w5) := (Below.refl _ _).grown hg5 (Nat.le_refl _) (by simp [Value.ownBlock])
      have OA := Lib.hid ho5
      have X5 : Hid (w5.heap[w.heap.size]? = some (.cells #[.slice q5 m5 g5,.slice q6 m6 g6] 187 (0,0))) := (BA.out.block _ (blk_lt X4.out)).trans X4.out
      obtain ⟨x0,x1⟩ := cells2 X5.out
      have OA2 : Hid (∀ o,(w5.alloc o).ownsRow w4.heap.size 187 2 (.slice qa j ca) j (fl2 (vs.take j))) := fun o => owns_keep OA.out (al (Below.refl _ _) (Nat.le_refl _))
      have sA := BA.out.size
      clear ho5 hg5
      try rw [Nat.zero_add]
      go_wp2_with (at_builtin; refine wpList_append_own _ rfl (.tmp 39) (.tmp 41) 99 rfl w4.heap.size 187 r0 _ 2 48 Tryz.underlying99 hr0 hrz hr1' hr2' rfl (by omega) _ j (fl2 (vs.take j)) rfl (OA2.out _) ⟨w5.heap.size,0,none⟩ 1 1 [.slice q5 m5 g5,.slice q6 m6 g6] rfl rfl ?_ ?_ ?_ ?_ ?_ ?_)
      ·intro j' y hj'
       rw [Addr.add_lit,Nat.zero_add,cell_of_row _ _ j' _ _ _ (hnew rfl)]
       match j' with
       | 0 => simpa using hj'
       | 1 => simpa using hj'
       | j' + 2 => simp at hj'
      ·intro y hy; simp at hy; rcases hy with rfl | rfl <;> rfl
      ·unfold maxLen; omega
      ·omega
      ·simp; omega
      intro v6 w6 ho6 hg6 _
      obtain ⟨qb,cb,rfl⟩ := owns_shape ho6
      have BB : Hid (Below w4.heap.size w4 w6) := (al BA.out sA).grown hg6 (by simp; omega) (fun kk hk => (OA.out.lt kk hk).1)
      have OB := Lib.hid ho6
      have HD6 := Lib.hid (HD.out.keep BB.out)
      have sB := BB.out.size
      clear ho6 hg6 x0 x1 OA2
      go_wp2_with (at_builtin; refine wpList_append_two w6 rfl (.tmp 43) (.tmp 46) 99 rfl w4.heap.size 187 r0 _ 48 Tryz.underlying99 hr0 hrz hr1' hr2' rfl (.slice qb (j + 1) cb) (j + 1) _ rfl OB.out (some ⟨bk,ok + j * 2,none⟩) (nk - j) (ck - j) (vs.drop j) rfl HD6.out (by unfold maxLen; omega) (by omega) sB ?_)
      intro v7 w7 ho7 hg7
      obtain ⟨qc,cc,rfl⟩ := owns_shape ho7
      have BC : Hid (Below w4.heap.size w4 w7) := BB.out.grown hg7 sB (fun kk hk => (OB.out.lt kk hk).1)
      have FIN : Hid (RwN w4 w7 187 qc (j + 1 + (nk - j)) cc (K.take j ++ Y :: K.drop j)) := by
       have ho7' : w7.ownsRow w4.heap.size 187 2 (.slice qc (j + 1 + (nk - j)) cc) (j + 1 + (nk - j)) (fl2 (vs.take j ++ (Value.slice q5 m5 g5,Value.slice q6 m6 g6) :: vs.drop j)) := by
        have e : fl2 (vs.take j ++ (Value.slice q5 m5 g5,Value.slice q6 m6 g6) :: vs.drop j) = fl2 (vs.take j) ++ [Value.slice q5 m5 g5,Value.slice q6 m6 g6] ++ fl2 (vs.drop j) := by
         rw [fl2_append,List.append_assoc]; rfl
        rw [e]
        try rw [← HUS.out]
        first | exact ho7 | simpa [fl2] using ho7
       have hvl := VS.out.len
       refine ⟨BC.out,by rw [List.length_append,List.length_cons,List.length_take,List.length_drop,HLEN.out]; omega,_,ho7',?_⟩
       intro i k' hi
       have hkl := HLEN.out
       by_cases h1 : i < j
       ·rw [List.getElem?_append_left (by rw [List.length_take]; omega),List.getElem?_take,if_pos h1] at hi
        obtain ⟨u,hu⟩ : ∃ u,vs[i]? = some u := ⟨_,List.getElem?_eq_getElem (by omega)⟩
        obtain ⟨k2,hk2,hp⟩ := VK.out i u hu
        rw [hi] at hk2; cases hk2
        exact ⟨u,by rw [List.getElem?_append_left (by rw [List.length_take]; omega),List.getElem?_take,if_pos h1]; exact hu,hp⟩
       ·have lt1 : (K.take j).length = j := by rw [List.length_take]; omega
        have lt2 : (vs.take j).length = j := by rw [List.length_take]; omega
        by_cases h2 : i = j
        ·subst h2
         rw [List.getElem?_append_right (by omega),lt1,Nat.sub_self,List.getElem?_cons_zero] at hi
         cases hi
         exact ⟨_,by rw [List.getElem?_append_right (by omega),lt2,Nat.sub_self,List.getElem?_cons_zero],q5,m5,g5,q6,m6,g6,rfl,Y5.out,Y6.out⟩
        ·obtain ⟨d,hd⟩ : ∃ d,i - j = d + 1 := ⟨i - j - 1,by omega⟩
         rw [List.getElem?_append_right (by omega),lt1,hd,List.getElem?_cons_succ,List.getElem?_drop] at hi
         obtain ⟨u,hu⟩ : ∃ u,vs[j + d]? = some u := by
          have := (List.getElem?_eq_some_iff.1 hi).1
          exact ⟨_,List.getElem?_eq_getElem (by omega)⟩
         obtain ⟨k2,hk2,hp⟩ := VK.out (j + d) u hu
         rw [hi] at hk2; cases hk2
         exact ⟨u,by rw [List.getElem?_append_right (by omega),lt2,hd,List.getElem?_cons_succ,List.getElem?_drop]; exact hu,hp⟩
      have BF : Hid (Below w.heap.size w w7) := bl B4.out BC.out B4.out.size
      clear ho7 hg7
      go_wp2
      go_ret
      refine ⟨qc,_,cc,?_,rfl,by rw [HRES.out]; exact FIN.out.rwS,BF.out,.inr ⟨w4,B4.out.size,by rw [HRES.out]; exact FIN.out⟩⟩
      rw [HRES.out,List.length_append,List.length_cons,List.length_take,List.length_drop,HLEN.out]; omega
   ·have hjn : j = nk := by omega
    subst hjn
    have HSTOP : Hid (∀ a,K[j]? = some a → ¬ leadS a.1 < LY) := fun a ha => by
     have := (List.getElem?_eq_some_iff.1 ha).1
     rw [HLEN.out] at this; omega
    have jn : (j : Int) ≤ (j : Int) := Int.le_refl _
    by_cases hj0 : j = 0
    ·subst hj0
     go_wp2_with fail
     refine wp_region_shapes (fun ix => ([.val (.int .i64 0),.val (.slice pk 0 ck),.val (.int .i64 0),.val (.bool false),.val (.bool false),.val (undef),.val (undef),.val (undef),.val (undef),.val (undef),.val (undef),.val (undef),.val (undef),.val (undef),.val (undef),.val (.bool false)][ix]?).getD (.any)) 48 rfl (by kernel_rfl) (by decide) (by decide) (by decide) ?_ ?_
     ·refine ⟨?_,?_,?_,?_,?_,?_,?_,?_,?_,?_,?_,?_,?_,?_,?_,?_,trivial⟩
      ·intro a W hb0 hs hp hi; have hb := undrew hb0; clear hb0
       have t5 : sl a 5 = .int .i64 0 := hi 5 (by decide)
       exact ite_y rfl (wp_val (sl a 5) rfl ⟨_,rfl,Below.refl _ _,t5⟩)
      ·intro a W hb0 hs hp hi; have hb := undrew hb0; clear hb0
       have t0 : sl a 0 = .slice pk 0 ck := hi 0 (by decide)
       exact ite_y rfl (wp_val (sl a 0) rfl ⟨_,rfl,Below.refl _ _,t0⟩)
      ·intro a W hb0 hs hp hi; have hb := undrew hb0; clear hb0
       have t17 : sl a 17 = .slice pk 0 ck := hp 1 (by decide)
       refine ite_y rfl (wp_val (.int .i64 0) ?_ ?_)
       ·simp only [execOp,resolve,List.map_toArray,List.map,eval_tmp,eval_func,eval_const,t17]; simp [go_sem]
       ·exact ⟨_,rfl,Below.refl _ _,rfl⟩
      ·intro a W hb0 hs hp hi; have hb := undrew hb0; clear hb0
       have t16 : sl a 16 = .int .i64 0 := hp 0 (by decide)
       have t18 : sl a 18 = .int .i64 0 := hp 2 (by decide)
       refine ite_y rfl (wp_val (.bool false) ?_ ?_)
       ·simp only [execOp,eval_tmp,eval_const,t16,t18]; simp [go_sem]
       ·exact ⟨_,rfl,Below.refl _ _,rfl⟩
      ·intro a W hb0 hs hp hi; have hb := undrew hb0; clear hb0
       have t19 : sl a 19 = .bool false := hp 3 (by decide)
       exact ite_y rfl (wp_val (sl a 19) rfl ⟨_,rfl,Below.refl _ _,t19⟩)
      ·intro a W hb0 hs hp hi; have hb := undrew hb0; clear hb0
       have tg : sl a 20 = .bool false := hp 4 (by decide)
       exact ite_n (wanted_no rfl rfl (by have hz : a.tmps.size = 48 := hs; rw [hz]; decide) tg (by decide)) rfl
      ·intro a W hb0 hs hp hi; have hb := undrew hb0; clear hb0
       have tg : sl a 20 = .bool false := hp 4 (by decide)
       exact ite_n (wanted_no rfl rfl (by have hz : a.tmps.size = 48 := hs; rw [hz]; decide) tg (by decide)) rfl
      ·intro a W hb0 hs hp hi; have hb := undrew hb0; clear hb0
       have tg : sl a 20 = .bool false := hp 4 (by decide)
       exact ite_n (wanted_no rfl rfl (by have hz : a.tmps.size = 48 := hs; rw [hz]; decide) tg (by decide)) rfl
      ·intro a W hb0 hs hp hi; have hb := undrew hb0; clear hb0
       have tg : sl a 20 = .bool false := hp 4 (by decide)
       exact ite_n (wanted_no rfl rfl (by have hz : a.tmps.size = 48 := hs; rw [hz]; decide) tg (by decide)) rfl
      ·intro a W hb0 hs hp hi; have hb := undrew hb0; clear hb0
       have tg : sl a 20 = .bool false := hp 4 (by decide)
       exact ite_n (wanted_no rfl rfl (by have hz : a.tmps.size = 48 := hs; rw [hz]; decide) tg (by decide)) rfl
      ·intro a W hb0 hs hp hi; have hb := undrew hb0; clear hb0
       have tg : sl a 20 = .bool false := hp 4 (by decide)
       exact ite_n (wanted_no rfl rfl (by have hz : a.tmps.size = 48 := hs; rw [hz]; decide) tg (by decide)) rfl
      ·intro a W hb0 hs hp hi; have hb := undrew hb0; clear hb0
       have tg : sl a 20 = .bool false := hp 4 (by decide)
       exact ite_n (wanted_no rfl rfl (by have hz : a.tmps.size = 48 := hs; rw [hz]; decide) tg (by decide)) rfl
      ·intro a W hb0 hs hp hi; have hb := undrew hb0; clear hb0
       have tg : sl a 20 = .bool false := hp 4 (by decide)
       exact ite_n (wanted_no rfl rfl (by have hz : a.tmps.size = 48 := hs; rw [hz]; decide) tg (by decide)) rfl
      ·intro a W hb0 hs hp hi; have hb := undrew hb0; clear hb0
       have tg : sl a 20 = .bool false := hp 4 (by decide)
       exact ite_n (wanted_no rfl rfl (by have hz : a.tmps.size = 48 := hs; rw [hz]; decide) tg (by decide)) rfl
      ·intro a W hb0 hs hp hi; have hb := undrew hb0; clear hb0
       have tg : sl a 20 = .bool false := hp 4 (by decide)
       exact ite_n (wanted_no rfl rfl (by have hz : a.tmps.size = 48 := hs; rw [hz]; decide) tg (by decide)) rfl
      ·intro a W hb0 hs hp hi; have hb := undrew hb0; clear hb0
       have t20 : sl a 20 = .bool false := hp 4 (by decide)
       have t30 : sl a 30 = undef := hp 14 (by decide)
       refine ite_y rfl (wp_val (.bool false) ?_ ?_)
       ·simp only [execOp,eval_tmp,eval_const,t20,t30]; simp [go_sem]
       ·exact ⟨_,rfl,Below.refl _ _,rfl⟩
     ·intro a w9 hb hs hd hI ht
      have ha := act_is [16,17,18,19,20,21,22,23,24,25,26,27,28,29,30,31] hs hd ht (by decide)
      have t31 : sl a 31 = .bool false := hI 15 (by decide)
      simp only [List.foldl,t31] at ha
      generalize sl a 16 = u16 at ha
      generalize sl a 17 = u17 at ha
      generalize sl a 18 = u18 at ha
      generalize sl a 19 = u19 at ha
      generalize sl a 20 = u20 at ha
      generalize sl a 21 = u21 at ha
      generalize sl a 22 = u22 at ha
      generalize sl a 23 = u23 at ha
      generalize sl a 24 = u24 at ha
      generalize sl a 25 = u25 at ha
      generalize sl a 26 = u26 at ha
      generalize sl a 27 = u27 at ha
      generalize sl a 28 = u28 at ha
      generalize sl a 29 = u29 at ha
      generalize sl a 30 = u30 at ha
      simp only [Act.put,List.setIfInBounds_toArray,List.set_cons_zero,List.set_cons_succ] at ha
      rw [ha]; clear ha
      obtain ⟨w4,hw4⟩ : ∃ w4,w4 = w9 := ⟨_,rfl⟩
      have h34 : Below w3.heap.size w3 w4 := by rw [hw4]; exact bl HQ.out hb HQ.out.size
      rw [← hw4]
      have X4 : Hid (w4.heap[w.heap.size]? = some (.cells #[.slice q5 m5 g5,.slice q6 m6 g6] 187 (0,0))) := (h34.block _ (blk_lt N3.out.1)).trans N3.out.1
      have Y5 : Hid (Sl B8 w4 q5 m5 g5 Y.1) := N3.out.2.1.keep h34
      have Y6 : Hid (Sl B8 w4 q6 m6 g6 Y.2) := N3.out.2.2.1.keep h34
      have B4 : Hid (Below w.heap.size w w4) := bl N3.out.2.2.2 h34 N3.out.2.2.2.size
      have hK0 : K = [] := List.length_eq_zero_iff.1 HLEN.out
      have HRES : Hid (insF K x = [Y]) := by show _ = _; rw [HINS.out,if_neg (by omega),hK0]; rfl
      clear h34 hb hI N3 HP HSTOP HQ jn hK0 hw4
      cases pk with
      | none =>
       obtain ⟨_,hc0⟩ := HK.out.nil rfl
       subst hc0
       have HT : Hid (RwV w4 none 0 0 []) := RwV.none (fun _ => rfl) (by simp [maxLen])
       have HD : Hid (RwV w4 none 0 0 []) := RwV.none (fun _ => rfl) (by simp [maxLen])
       go_wp2_with (at_builtin; refine wpList_append_two w4 rfl (.tmp 34) (.tmp 37) 99 rfl w4.heap.size 187 r0 _ 48 Tryz.underlying99 hr0 hrz hr1' hr2' rfl (.slice none 0 0) 0 [] rfl (World.ownsRow_nil _ _ _ _) none 0 0 [] rfl HT.out (by decide) (by decide) (Nat.le_refl _) ?_)
       intro v5 w5 ho5 hg5
       obtain ⟨qa,ca,rfl⟩ := owns_shape ho5
       have BA : Hid (Below w4.heap.size w4 w5) := (Below.refl _ _).grown hg5 (Nat.le_refl _) (by simp [Value.ownBlock])
       have OA : Hid (w5.ownsRow w4.heap.size 187 2 (.slice qa 0 ca) 0 []) := by show World.ownsRow _ _ _ _ _ _ _; simpa [fl2] using ho5
       have X5 : Hid (w5.heap[w.heap.size]? = some (.cells #[.slice q5 m5 g5,.slice q6 m6 g6] 187 (0,0))) := (BA.out.block _ (blk_lt X4.out)).trans X4.out
       obtain ⟨x0,x1⟩ := cells2 X5.out
       have OA2 : Hid (∀ o,(w5.alloc o).ownsRow w4.heap.size 187 2 (.slice qa 0 ca) 0 []) := fun o => owns_keep OA.out (al (Below.refl _ _) (Nat.le_refl _))
       have sA := BA.out.size
       clear ho5 hg5
       try simp only [Nat.add_zero]
       go_wp2_with (at_builtin; refine wpList_append_own _ rfl (.tmp 39) (.tmp 41) 99 rfl w4.heap.size 187 r0 _ 2 48 Tryz.underlying99 hr0 hrz hr1' hr2' rfl (by omega) _ 0 [] rfl (OA2.out _) ⟨w5.heap.size,0,none⟩ 1 1 [.slice q5 m5 g5,.slice q6 m6 g6] rfl rfl (two_cells rfl) (two_ones _ _ _ _ _ _) (by decide) (by decide) (by simp; omega) ?_)
       intro v6 w6 ho6 hg6 _
       obtain ⟨qb,cb,rfl⟩ := owns_shape ho6
       have BB : Hid (Below w4.heap.size w4 w6) := (al BA.out sA).grown hg6 (by simp; omega) (fun kk hk => (OA.out.lt kk hk).1)
       have OB : Hid (w6.ownsRow w4.heap.size 187 2 (.slice qb 1 cb) 1 [.slice q5 m5 g5,.slice q6 m6 g6]) := by show World.ownsRow _ _ _ _ _ _ _; simpa using ho6
       have HD6 := Lib.hid (HD.out.keep BB.out)
       have sB := BB.out.size
       clear ho6 hg6 x0 x1 OA2
       try simp only [Nat.zero_add]
       go_wp2_with (at_builtin; refine wpList_append_two w6 rfl (.tmp 43) (.tmp 46) 99 rfl w4.heap.size 187 r0 _ 48 Tryz.underlying99 hr0 hrz hr1' hr2' rfl (.slice qb 1 cb) 1 _ rfl OB.out none 0 0 [] rfl HD6.out (by decide) (by decide) sB ?_)
       intro v7 w7 ho7 hg7
       obtain ⟨qc,cc,rfl⟩ := owns_shape ho7
       have BC : Hid (Below w4.heap.size w4 w7) := BB.out.grown hg7 sB (fun kk hk => (OB.out.lt kk hk).1)
       have FIN : Hid (RwN w4 w7 187 qc 1 cc [Y]) := by
        have h7 : w7.ownsRow w4.heap.size 187 2 (.slice qc 1 cc) 1 (fl2 [(Value.slice q5 m5 g5,Value.slice q6 m6 g6)]) := by simpa [fl2] using ho7
        refine ⟨BC.out,rfl,_,h7,fun i k' hi => ?_⟩
        match i with
        | 0 =>
         obtain rfl : Y = k' := by simpa using hi
         exact ⟨_,rfl,q5,m5,g5,q6,m6,g6,rfl,Y5.out,Y6.out⟩
        | i + 1 => simp at hi
       have BF : Hid (Below w.heap.size w w7) := bl B4.out BC.out B4.out.size
       clear ho7 hg7
       try simp only [Nat.add_zero]
       go_wp2
       go_ret
       exact ⟨qc,1,cc,by rw [HRES.out]; rfl,rfl,by rw [HRES.out]; exact FIN.out.rwS,BF.out,.inr ⟨w4,B4.out.size,by rw [HRES.out]; exact FIN.out⟩⟩
      | some ad =>
       obtain ⟨ab,ao,asp⟩ := ad
       have hmax := HK.out.max
       have HT : Hid (RwV w4 (some ⟨ab,ao,asp⟩) 0 ck []) := RwV.none (fun e => (by cases e)) hmax
       by_cases hc0 : ck = 0
       ·subst hc0
        have HD : Hid (RwV w4 (some ⟨ab,ao,asp⟩) 0 0 []) := RwV.none (fun e => (by cases e)) (by simp [maxLen])
        go_wp2_with (at_builtin; refine wpList_append_two w4 rfl (.tmp 34) (.tmp 37) 99 rfl w4.heap.size 187 r0 _ 48 Tryz.underlying99 hr0 hrz hr1' hr2' rfl (.slice none 0 0) 0 [] rfl (World.ownsRow_nil _ _ _ _) (some ⟨ab,ao,asp⟩) 0 0 [] rfl HT.out (by decide) (by decide) (Nat.le_refl _) ?_)
        intro v5 w5 ho5 hg5
        obtain ⟨qa,ca,rfl⟩ := owns_shape ho5
        have BA : Hid (Below w4.heap.size w4 w5) := (Below.refl _ _).grown hg5 (Nat.le_refl _) (by simp [Value.ownBlock])
        have OA : Hid (w5.ownsRow w4.heap.size 187 2 (.slice qa 0 ca) 0 []) := by show World.ownsRow _ _ _ _ _ _ _; simpa [fl2] using ho5
        have X5 : Hid (w5.heap[w.heap.size]? = some (.cells #[.slice q5 m5 g5,.slice q6 m6 g6] 187 (0,0))) := (BA.out.block _ (blk_lt X4.out)).trans X4.out
        obtain ⟨x0,x1⟩ := cells2 X5.out
        have OA2 : Hid (∀ o,(w5.alloc o).ownsRow w4.heap.size 187 2 (.slice qa 0 ca) 0 []) := fun o => owns_keep OA.out (al (Below.refl _ _) (Nat.le_refl _))
        have sA := BA.out.size
        clear ho5 hg5
        try simp only [Nat.add_zero]
        go_wp2_with (at_builtin; refine wpList_append_own _ rfl (.tmp 39) (.tmp 41) 99 rfl w4.heap.size 187 r0 _ 2 48 Tryz.underlying99 hr0 hrz hr1' hr2' rfl (by omega) _ 0 [] rfl (OA2.out _) ⟨w5.heap.size,0,none⟩ 1 1 [.slice q5 m5 g5,.slice q6 m6 g6] rfl rfl (two_cells rfl) (two_ones _ _ _ _ _ _) (by decide) (by decide) (by simp; omega) ?_)
        intro v6 w6 ho6 hg6 _
        obtain ⟨qb,cb,rfl⟩ := owns_shape ho6
        have BB : Hid (Below w4.heap.size w4 w6) := (al BA.out sA).grown hg6 (by simp; omega) (fun kk hk => (OA.out.lt kk hk).1)
        have OB : Hid (w6.ownsRow w4.heap.size 187 2 (.slice qb 1 cb) 1 [.slice q5 m5 g5,.slice q6 m6 g6]) := by show World.ownsRow _ _ _ _ _ _ _; simpa using ho6
        have HD6 := Lib.hid (HD.out.keep BB.out)
        have sB := BB.out.size
        clear ho6 hg6 x0 x1 OA2
        try simp only [Nat.zero_add]
        go_wp2_with (at_builtin; refine wpList_append_two w6 rfl (.tmp 43) (.tmp 46) 99 rfl w4.heap.size 187 r0 _ 48 Tryz.underlying99 hr0 hrz hr1' hr2' rfl (.slice qb 1 cb) 1 _ rfl OB.out (some ⟨ab,ao,asp⟩) 0 0 [] rfl HD6.out (by decide) (by decide) sB ?_)
        intro v7 w7 ho7 hg7
        obtain ⟨qc,cc,rfl⟩ := owns_shape ho7
        have BC : Hid (Below w4.heap.size w4 w7) := BB.out.grown hg7 sB (fun kk hk => (OB.out.lt kk hk).1)
        have FIN : Hid (RwN w4 w7 187 qc 1 cc [Y]) := by
         have h7 : w7.ownsRow w4.heap.size 187 2 (.slice qc 1 cc) 1 (fl2 [(Value.slice q5 m5 g5,Value.slice q6 m6 g6)]) := by simpa [fl2] using ho7
         refine ⟨BC.out,rfl,_,h7,fun i k' hi => ?_⟩
         match i with
         | 0 =>
          obtain rfl : Y = k' := by simpa using hi
          exact ⟨_,rfl,q5,m5,g5,q6,m6,g6,rfl,Y5.out,Y6.out⟩
         | i + 1 => simp at hi
        have BF : Hid (Below w.heap.size w w7) := bl B4.out BC.out B4.out.size
        clear ho7 hg7
        try simp only [Nat.add_zero]
        go_wp2
        go_ret
        exact ⟨qc,1,cc,by rw [HRES.out]; rfl,rfl,by rw [HRES.out]; exact FIN.out.rwS,BF.out,.inr ⟨w4,B4.out.size,by rw [HRES.out]; exact FIN.out⟩⟩
       ·have hcp : 0 < ck := by omega
        have HD : Hid (RwV w4 (some ⟨ab,ao,asp⟩) 0 ck []) := RwV.none (fun e => (by cases e)) hmax
        go_wp2_with (at_builtin; refine wpList_append_two w4 rfl (.tmp 34) (.tmp 37) 99 rfl w4.heap.size 187 r0 _ 48 Tryz.underlying99 hr0 hrz hr1' hr2' rfl (.slice none 0 0) 0 [] rfl (World.ownsRow_nil _ _ _ _) (some ⟨ab,ao,asp⟩) 0 ck [] rfl HT.out (by decide) (by decide) (Nat.le_refl _) ?_)
        intro v5 w5 ho5 hg5
        obtain ⟨qa,ca,rfl⟩ := owns_shape ho5
        have BA : Hid (Below w4.heap.size w4 w5) := (Below.refl _ _).grown hg5 (Nat.le_refl _) (by simp [Value.ownBlock])
        have OA : Hid (w5.ownsRow w4.heap.size 187 2 (.slice qa 0 ca) 0 []) := by show World.ownsRow _ _ _ _ _ _ _; simpa [fl2] using ho5
        have X5 : Hid (w5.heap[w.heap.size]? = some (.cells #[.slice q5 m5 g5,.slice q6 m6 g6] 187 (0,0))) := (BA.out.block _ (blk_lt X4.out)).trans X4.out
        obtain ⟨x0,x1⟩ := cells2 X5.out
        have OA2 : Hid (∀ o,(w5.alloc o).ownsRow w4.heap.size 187 2 (.slice qa 0 ca) 0 []) := fun o => owns_keep OA.out (al (Below.refl _ _) (Nat.le_refl _))
        have sA := BA.out.size
        clear ho5 hg5
        try simp only [Nat.add_zero]
        go_wp2_with (at_builtin; refine wpList_append_own _ rfl (.tmp 39) (.tmp 41) 99 rfl w4.heap.size 187 r0 _ 2 48 Tryz.underlying99 hr0 hrz hr1' hr2' rfl (by omega) _ 0 [] rfl (OA2.out _) ⟨w5.heap.size,0,none⟩ 1 1 [.slice q5 m5 g5,.slice q6 m6 g6] rfl rfl (two_cells rfl) (two_ones _ _ _ _ _ _) (by decide) (by decide) (by simp; omega) ?_)
        intro v6 w6 ho6 hg6 _
        obtain ⟨qb,cb,rfl⟩ := owns_shape ho6
        have BB : Hid (Below w4.heap.size w4 w6) := (al BA.out sA).grown hg6 (by simp; omega) (fun kk hk => (OA.out.lt kk hk).1)
        have OB : Hid (w6.ownsRow w4.heap.size 187 2 (.slice qb 1 cb) 1 [.slice q5 m5 g5,.slice q6 m6 g6]) := by show World.ownsRow _ _ _ _ _ _ _; simpa using ho6
        have HD6 := Lib.hid (HD.out.keep BB.out)
        have sB := BB.out.size
        clear ho6 hg6 x0 x1 OA2
        try simp only [Nat.zero_add]
        go_wp2_with (at_builtin; refine wpList_append_two w6 rfl (.tmp 43) (.tmp 46) 99 rfl w4.heap.size 187 r0 _ 48 Tryz.underlying99 hr0 hrz hr1' hr2' rfl (.slice qb 1 cb) 1 _ rfl OB.out (some ⟨ab,ao,asp⟩) 0 ck [] rfl HD6.out (by decide) (by decide) sB ?_)
        intro v7 w7 ho7 hg7
        obtain ⟨qc,cc,rfl⟩ := owns_shape ho7
        have BC : Hid (Below w4.heap.size w4 w7) := BB.out.grown hg7 sB (fun kk hk => (OB.out.lt kk hk).1)
        have FIN : Hid (RwN w4 w7 187 qc 1 cc [Y]) := by
         have h7 : w7.ownsRow w4.heap.size 187 2 (.slice qc 1 cc) 1 (fl2 [(Value.slice q5 m5 g5,Value.slice q6 m6 g6)]) := by simpa [fl2] using ho7
         refine ⟨BC.out,rfl,_,h7,fun i k' hi => ?_⟩
         match i with
         | 0 =>
          obtain rfl : Y = k' := by simpa using hi
          exact ⟨_,rfl,q5,m5,g5,q6,m6,g6,rfl,Y5.out,Y6.out⟩
         | i + 1 => simp at hi
        have BF : Hid (Below w.heap.size w w7) := bl B4.out BC.out B4.out.size
        clear ho7 hg7
        try simp only [Nat.add_zero]
        go_wp2
        go_ret
        exact ⟨qc,1,cc,by rw [HRES.out]; rfl,rfl,by rw [HRES.out]; exact FIN.out.rwS,BF.out,.inr ⟨w4,B4.out.size,by rw [HRES.out]; exact FIN.out⟩⟩
    ·obtain ⟨bk,ok,rfl⟩ : ∃ b o,pk = some ⟨b,o,none⟩ := by
      obtain ⟨k0,hk0⟩ : ∃ k0,K[0]? = some k0 := ⟨_,List.getElem?_eq_getElem (by rw [HLEN.out]; omega)⟩
      obtain ⟨b,o,_,_,_,_,_,_,e,_⟩ := HK.out.row 0 k0 hk0
      exact ⟨b,o,e⟩
     go_wp2_with fail
     refine wp_region_shapes (fun ix => ([.val (.int .i64 (j : Nat)),.val (.slice (some ⟨bk,ok,none⟩) j ck),.val (.int .i64 (j : Nat)),.val (.bool false),.val (.bool false),.val (undef),.val (undef),.val (undef),.val (undef),.val (undef),.val (undef),.val (undef),.val (undef),.val (undef),.val (undef),.val (.bool false)][ix]?).getD (.any)) 48 rfl (by kernel_rfl) (by decide) (by decide) (by decide) ?_ ?_
     ·refine ⟨?_,?_,?_,?_,?_,?_,?_,?_,?_,?_,?_,?_,?_,?_,?_,?_,trivial⟩
      ·intro a W hb0 hs hp hi; have hb := undrew hb0; clear hb0
       have t5 : sl a 5 = .int .i64 (j : Nat) := hi 5 (by decide)
       exact ite_y rfl (wp_val (sl a 5) rfl ⟨_,rfl,Below.refl _ _,t5⟩)
      ·intro a W hb0 hs hp hi; have hb := undrew hb0; clear hb0
       have t0 : sl a 0 = .slice (some ⟨bk,ok,none⟩) j ck := hi 0 (by decide)
       exact ite_y rfl (wp_val (sl a 0) rfl ⟨_,rfl,Below.refl _ _,t0⟩)
      ·intro a W hb0 hs hp hi; have hb := undrew hb0; clear hb0
       have t17 : sl a 17 = .slice (some ⟨bk,ok,none⟩) j ck := hp 1 (by decide)
       refine ite_y rfl (wp_val (.int .i64 (j : Nat)) ?_ ?_)
       ·simp only [execOp,resolve,List.map_toArray,List.map,eval_tmp,eval_func,eval_const,t17]; simp [go_sem]
       ·exact ⟨_,rfl,Below.refl _ _,rfl⟩
      ·intro a W hb0 hs hp hi; have hb := undrew hb0; clear hb0
       have t16 : sl a 16 = .int .i64 (j : Nat) := hp 0 (by decide)
       have t18 : sl a 18 = .int .i64 (j : Nat) := hp 2 (by decide)
       refine ite_y rfl (wp_val (.bool false) ?_ ?_)
       ·simp only [execOp,eval_tmp,eval_const,t16,t18]; simp [go_sem]
       ·exact ⟨_,rfl,Below.refl _ _,rfl⟩
      ·intro a W hb0 hs hp hi; have hb := undrew hb0; clear hb0
       have t19 : sl a 19 = .bool false := hp 3 (by decide)
       exact ite_y rfl (wp_val (sl a 19) rfl ⟨_,rfl,Below.refl _ _,t19⟩)
      ·intro a W hb0 hs hp hi; have hb := undrew hb0; clear hb0
       have tg : sl a 20 = .bool false := hp 4 (by decide)
       exact ite_n (wanted_no rfl rfl (by have hz : a.tmps.size = 48 := hs; rw [hz]; decide) tg (by decide)) rfl
      ·intro a W hb0 hs hp hi; have hb := undrew hb0; clear hb0
       have tg : sl a 20 = .bool false := hp 4 (by decide)
       exact ite_n (wanted_no rfl rfl (by have hz : a.tmps.size = 48 := hs; rw [hz]; decide) tg (by decide)) rfl
      ·intro a W hb0 hs hp hi; have hb := undrew hb0; clear hb0
       have tg : sl a 20 = .bool false := hp 4 (by decide)
       exact ite_n (wanted_no rfl rfl (by have hz : a.tmps.size = 48 := hs; rw [hz]; decide) tg (by decide)) rfl
      ·intro a W hb0 hs hp hi; have hb := undrew hb0; clear hb0
       have tg : sl a 20 = .bool false := hp 4 (by decide)
       exact ite_n (wanted_no rfl rfl (by have hz : a.tmps.size = 48 := hs; rw [hz]; decide) tg (by decide)) rfl
      ·intro a W hb0 hs hp hi; have hb := undrew hb0; clear hb0
       have tg : sl a 20 = .bool false := hp 4 (by decide)
       exact ite_n (wanted_no rfl rfl (by have hz : a.tmps.size = 48 := hs; rw [hz]; decide) tg (by decide)) rfl
      ·intro a W hb0 hs hp hi; have hb := undrew hb0; clear hb0
       have tg : sl a 20 = .bool false := hp 4 (by decide)
       exact ite_n (wanted_no rfl rfl (by have hz : a.tmps.size = 48 := hs; rw [hz]; decide) tg (by decide)) rfl
      ·intro a W hb0 hs hp hi; have hb := undrew hb0; clear hb0
       have tg : sl a 20 = .bool false := hp 4 (by decide)
       exact ite_n (wanted_no rfl rfl (by have hz : a.tmps.size = 48 := hs; rw [hz]; decide) tg (by decide)) rfl
      ·intro a W hb0 hs hp hi; have hb := undrew hb0; clear hb0
       have tg : sl a 20 = .bool false := hp 4 (by decide)
       exact ite_n (wanted_no rfl rfl (by have hz : a.tmps.size = 48 := hs; rw [hz]; decide) tg (by decide)) rfl
      ·intro a W hb0 hs hp hi; have hb := undrew hb0; clear hb0
       have tg : sl a 20 = .bool false := hp 4 (by decide)
       exact ite_n (wanted_no rfl rfl (by have hz : a.tmps.size = 48 := hs; rw [hz]; decide) tg (by decide)) rfl
      ·intro a W hb0 hs hp hi; have hb := undrew hb0; clear hb0
       have tg : sl a 20 = .bool false := hp 4 (by decide)
       exact ite_n (wanted_no rfl rfl (by have hz : a.tmps.size = 48 := hs; rw [hz]; decide) tg (by decide)) rfl
      ·intro a W hb0 hs hp hi; have hb := undrew hb0; clear hb0
       have t20 : sl a 20 = .bool false := hp 4 (by decide)
       have t30 : sl a 30 = undef := hp 14 (by decide)
       refine ite_y rfl (wp_val (.bool false) ?_ ?_)
       ·simp only [execOp,eval_tmp,eval_const,t20,t30]; simp [go_sem]
       ·exact ⟨_,rfl,Below.refl _ _,rfl⟩
     ·intro a w9 hb hs hd hI ht
      have ha := act_is [16,17,18,19,20,21,22,23,24,25,26,27,28,29,30,31] hs hd ht (by decide)
      have t31 : sl a 31 = .bool false := hI 15 (by decide)
      simp only [List.foldl,t31] at ha
      generalize sl a 16 = u16 at ha
      generalize sl a 17 = u17 at ha
      generalize sl a 18 = u18 at ha
      generalize sl a 19 = u19 at ha
      generalize sl a 20 = u20 at ha
      generalize sl a 21 = u21 at ha
      generalize sl a 22 = u22 at ha
      generalize sl a 23 = u23 at ha
      generalize sl a 24 = u24 at ha
      generalize sl a 25 = u25 at ha
      generalize sl a 26 = u26 at ha
      generalize sl a 27 = u27 at ha
      generalize sl a 28 = u28 at ha
      generalize sl a 29 = u29 at ha
      generalize sl a 30 = u30 at ha
      simp only [Act.put,List.setIfInBounds_toArray,List.set_cons_zero,List.set_cons_succ] at ha
      rw [ha]; clear ha
      obtain ⟨w4,hw4⟩ : ∃ w4,w4 = w9 := ⟨_,rfl⟩
      have h34 : Below w3.heap.size w3 w4 := by rw [hw4]; exact bl HQ.out hb HQ.out.size
      rw [← hw4]
      have X4 : Hid (w4.heap[w.heap.size]? = some (.cells #[.slice q5 m5 g5,.slice q6 m6 g6] 187 (0,0))) := (h34.block _ (blk_lt N3.out.1)).trans N3.out.1
      have Y5 : Hid (Sl B8 w4 q5 m5 g5 Y.1) := N3.out.2.1.keep h34
      have Y6 : Hid (Sl B8 w4 q6 m6 g6 Y.2) := N3.out.2.2.1.keep h34
      have B4 : Hid (Below w.heap.size w w4) := bl N3.out.2.2.2 h34 N3.out.2.2.2.size
      obtain ⟨vs,hvs,hvk⟩ := (HK.out.keep B4.out).vals
      have VS := Lib.hid hvs; have VK := Lib.hid hvk
      have HRES : Hid (insF K x = K.take j ++ Y :: K.drop j) := by
       show _ = _
       obtain ⟨g1',g2'⟩ := take_while_at (p := fun r => decide (leadS r.1 < LY)) (l := K) (j := j) (by rw [HLEN.out]; exact hj) (fun i a hi ha => decide_eq_true (HP.out i a hi ha)) (fun a ha => decide_eq_false (by have := HSTOP.out a ha; omega))
       rw [HINS.out,if_neg (by omega),g1',g2']
      clear h34 hb hI hvs hvk N3 HP HSTOP HQ
      try clear E1 y0 T1 L1 YQ jn hcmp
      clear hw4
      have HT := Lib.hid (VS.out.take hj)
      have HUS : Hid (([] : List (Value × Value)) = vs.drop j) := (List.drop_eq_nil_of_le (by rw [VS.out.len]; exact Nat.le_refl _)).symm
      have hmax := HK.out.max
      by_cases hcj : j = ck
      ·have HD : Hid (RwV w4 (some ⟨bk,ok,none⟩) 0 0 []) := RwV.none (fun e => (by cases e)) (by simp [maxLen])
       subst hcj
       go_wp2_with (at_builtin; refine wpList_append_two w4 rfl (.tmp 34) (.tmp 37) 99 rfl w4.heap.size 187 r0 _ 48 Tryz.underlying99 hr0 hrz hr1' hr2' rfl (.slice none 0 0) 0 [] rfl (World.ownsRow_nil _ _ _ _) (some ⟨bk,ok,none⟩) j j (vs.take j) rfl HT.out (by unfold maxLen; omega) (by omega) (Nat.le_refl _) ?_)
       intro v5 w5 ho5 hg5
       obtain ⟨qa,ca,rfl⟩ := owns_shape ho5
       try simp only [Nat.zero_add,List.nil_append] at ho5
       have BA : Hid (Below w4.heap.size w4 w5) := (Below.refl _ _).grown hg5 (Nat.le_refl _) (by simp [Value.ownBlock])
       have OA := Lib.hid ho5
       have X5 : Hid (w5.heap[w.heap.size]? = some (.cells #[.slice q5 m5 g5,.slice q6 m6 g6] 187 (0,0))) := (BA.out.block _ (blk_lt X4.out)).trans X4.out
       obtain ⟨x0,x1⟩ := cells2 X5.out
       have OA2 : Hid (∀ o,(w5.alloc o).ownsRow w4.heap.size 187 2 (.slice qa j ca) j (fl2 (vs.take j))) := fun o => owns_keep OA.out (al (Below.refl _ _) (Nat.le_refl _))
       have sA := BA.out.size
       clear ho5 hg5
       try rw [Nat.zero_add]
       go_wp2_with (at_builtin; refine wpList_append_own _ rfl (.tmp 39) (.tmp 41) 99 rfl w4.heap.size 187 r0 _ 2 48 Tryz.underlying99 hr0 hrz hr1' hr2' rfl (by omega) _ j (fl2 (vs.take j)) rfl (OA2.out _) ⟨w5.heap.size,0,none⟩ 1 1 [.slice q5 m5 g5,.slice q6 m6 g6] rfl rfl ?_ ?_ ?_ ?_ ?_ ?_)
       ·intro j' y hj'
        rw [Addr.add_lit,Nat.zero_add,cell_of_row _ _ j' _ _ _ (hnew rfl)]
        match j' with
        | 0 => simpa using hj'
        | 1 => simpa using hj'
        | j' + 2 => simp at hj'
       ·intro y hy; simp at hy; rcases hy with rfl | rfl <;> rfl
       ·unfold maxLen; omega
       ·omega
       ·simp; omega
       intro v6 w6 ho6 hg6 _
       obtain ⟨qb,cb,rfl⟩ := owns_shape ho6
       have BB : Hid (Below w4.heap.size w4 w6) := (al BA.out sA).grown hg6 (by simp; omega) (fun kk hk => (OA.out.lt kk hk).1)
       have OB := Lib.hid ho6
       have HD6 := Lib.hid (HD.out.keep BB.out)
       have sB := BB.out.size
       clear ho6 hg6 x0 x1 OA2
       go_wp2_with (at_builtin; refine wpList_append_two w6 rfl (.tmp 43) (.tmp 46) 99 rfl w4.heap.size 187 r0 _ 48 Tryz.underlying99 hr0 hrz hr1' hr2' rfl (.slice qb (j + 1) cb) (j + 1) _ rfl OB.out (some ⟨bk,ok,none⟩) 0 0 [] rfl HD6.out (by unfold maxLen; omega) (by omega) sB ?_)
       intro v7 w7 ho7 hg7
       obtain ⟨qc,cc,rfl⟩ := owns_shape ho7
       have BC : Hid (Below w4.heap.size w4 w7) := BB.out.grown hg7 sB (fun kk hk => (OB.out.lt kk hk).1)
       have FIN : Hid (RwN w4 w7 187 qc (j + 1) cc (K.take j ++ Y :: K.drop j)) := by
        have ho7' : w7.ownsRow w4.heap.size 187 2 (.slice qc (j + 1) cc) (j + 1) (fl2 (vs.take j ++ (Value.slice q5 m5 g5,Value.slice q6 m6 g6) :: vs.drop j)) := by
         have e : fl2 (vs.take j ++ (Value.slice q5 m5 g5,Value.slice q6 m6 g6) :: vs.drop j) = fl2 (vs.take j) ++ [Value.slice q5 m5 g5,Value.slice q6 m6 g6] ++ fl2 (vs.drop j) := by
          rw [fl2_append,List.append_assoc]; rfl
         rw [e]
         try rw [← HUS.out]
         first | exact ho7 | simpa [fl2] using ho7
        have hvl := VS.out.len
        refine ⟨BC.out,by rw [List.length_append,List.length_cons,List.length_take,List.length_drop,HLEN.out]; omega,_,ho7',?_⟩
        intro i k' hi
        have hkl := HLEN.out
        by_cases h1 : i < j
        ·rw [List.getElem?_append_left (by rw [List.length_take]; omega),List.getElem?_take,if_pos h1] at hi
         obtain ⟨u,hu⟩ : ∃ u,vs[i]? = some u := ⟨_,List.getElem?_eq_getElem (by omega)⟩
         obtain ⟨k2,hk2,hp⟩ := VK.out i u hu
         rw [hi] at hk2; cases hk2
         exact ⟨u,by rw [List.getElem?_append_left (by rw [List.length_take]; omega),List.getElem?_take,if_pos h1]; exact hu,hp⟩
        ·have lt1 : (K.take j).length = j := by rw [List.length_take]; omega
         have lt2 : (vs.take j).length = j := by rw [List.length_take]; omega
         by_cases h2 : i = j
         ·subst h2
          rw [List.getElem?_append_right (by omega),lt1,Nat.sub_self,List.getElem?_cons_zero] at hi
          cases hi
          exact ⟨_,by rw [List.getElem?_append_right (by omega),lt2,Nat.sub_self,List.getElem?_cons_zero],q5,m5,g5,q6,m6,g6,rfl,Y5.out,Y6.out⟩
         ·obtain ⟨d,hd⟩ : ∃ d,i - j = d + 1 := ⟨i - j - 1,by omega⟩
          rw [List.getElem?_append_right (by omega),lt1,hd,List.getElem?_cons_succ,List.getElem?_drop] at hi
          obtain ⟨u,hu⟩ : ∃ u,vs[j + d]? = some u := by
           have := (List.getElem?_eq_some_iff.1 hi).1
           exact ⟨_,List.getElem?_eq_getElem (by omega)⟩
          obtain ⟨k2,hk2,hp⟩ := VK.out (j + d) u hu
          rw [hi] at hk2; cases hk2
          exact ⟨u,by rw [List.getElem?_append_right (by omega),lt2,hd,List.getElem?_cons_succ,List.getElem?_drop]; exact hu,hp⟩
       have BF : Hid (Below w.heap.size w w7) := bl B4.out BC.out B4.out.size
       clear ho7 hg7
       go_wp2
       go_ret
       refine ⟨qc,_,cc,?_,rfl,by rw [HRES.out]; exact FIN.out.rwS,BF.out,.inr ⟨w4,B4.out.size,by rw [HRES.out]; exact FIN.out⟩⟩
       rw [HRES.out,List.length_append,List.length_cons,List.length_take,List.length_drop,HLEN.out]; omega
      ·have HD : Hid (RwV w4 (some ⟨bk,ok + j * 2,none⟩) 0 (ck - j) []) := RwV.none (fun e => (by cases e)) (by omega)
       have hjc : j < ck := by have := HK.out.le; omega
       go_wp2_with (at_builtin; refine wpList_append_two w4 rfl (.tmp 34) (.tmp 37) 99 rfl w4.heap.size 187 r0 _ 48 Tryz.underlying99 hr0 hrz hr1' hr2' rfl (.slice none 0 0) 0 [] rfl (World.ownsRow_nil _ _ _ _) (some ⟨bk,ok,none⟩) j ck (vs.take j) rfl HT.out (by unfold maxLen; omega) (by omega) (Nat.le_refl _) ?_)
       intro v5 w5 ho5 hg5
       obtain ⟨qa,ca,rfl⟩ := owns_shape ho5
       try simp only [Nat.zero_add,List.nil_append] at ho5
       have BA : Hid (Below w4.heap.size w4 w5) := (Below.refl _ _).grown hg5 (Nat.le_refl _) (by simp [Value.ownBlock])
       have OA := Lib.hid ho5
       have X5 : Hid (w5.heap[w.heap.size]? = some (.cells #[.slice q5 m5 g5,.slice q6 m6 g6] 187 (0,0))) := (BA.out.block _ (blk_lt X4.out)).trans X4.out
       obtain ⟨x0,x1⟩ := cells2 X5.out
       have OA2 : Hid (∀ o,(w5.alloc o).ownsRow w4.heap.size 187 2 (.slice qa j ca) j (fl2 (vs.take j))) := fun o => owns_keep OA.out (al (Below.refl _ _) (Nat.le_refl _))
       have sA := BA.out.size
       clear ho5 hg5
       try rw [Nat.zero_add]
       go_wp2_with (at_builtin; refine wpList_append_own _ rfl (.tmp 39) (.tmp 41) 99 rfl w4.heap.size 187 r0 _ 2 48 Tryz.underlying99 hr0 hrz hr1' hr2' rfl (by omega) _ j (fl2 (vs.take j)) rfl (OA2.out _) ⟨w5.heap.size,0,none⟩ 1 1 [.slice q5 m5 g5,.slice q6 m6 g6] rfl rfl ?_ ?_ ?_ ?_ ?_ ?_)
       ·intro j' y hj'
        rw [Addr.add_lit,Nat.zero_add,cell_of_row _ _ j' _ _ _ (hnew rfl)]
        match j' with
        | 0 => simpa using hj'
        | 1 => simpa using hj'
        | j' + 2 => simp at hj'
       ·intro y hy; simp at hy; rcases hy with rfl | rfl <;> rfl
       ·unfold maxLen; omega
       ·omega
       ·simp; omega
       intro v6 w6 ho6 hg6 _
       obtain ⟨qb,cb,rfl⟩ := owns_shape ho6
       have BB : Hid (Below w4.heap.size w4 w6) := (al BA.out sA).grown hg6 (by simp; omega) (fun kk hk => (OA.out.lt kk hk).1)
       have OB := Lib.hid ho6
       have HD6 := Lib.hid (HD.out.keep BB.out)
       have sB := BB.out.size
       clear ho6 hg6 x0 x1 OA2
       go_wp2_with (at_builtin; refine wpList_append_two w6 rfl (.tmp 43) (.tmp 46) 99 rfl w4.heap.size 187 r0 _ 48 Tryz.underlying99 hr0 hrz hr1' hr2' rfl (.slice qb (j + 1) cb) (j + 1) _ rfl OB.out (some ⟨bk,ok + j * 2,none⟩) 0 (ck - j) [] rfl HD6.out (by unfold maxLen; omega) (by omega) sB ?_)
       intro v7 w7 ho7 hg7
       obtain ⟨qc,cc,rfl⟩ := owns_shape ho7
       have BC : Hid (Below w4.heap.size w4 w7) := BB.out.grown hg7 sB (fun kk hk => (OB.out.lt kk hk).1)
       have FIN : Hid (RwN w4 w7 187 qc (j + 1) cc (K.take j ++ Y :: K.drop j)) := by
        have ho7' : w7.ownsRow w4.heap.size 187 2 (.slice qc (j + 1) cc) (j + 1) (fl2 (vs.take j ++ (Value.slice q5 m5 g5,Value.slice q6 m6 g6) :: vs.drop j)) := by
         have e : fl2 (vs.take j ++ (Value.slice q5 m5 g5,Value.slice q6 m6 g6) :: vs.drop j) = fl2 (vs.take j) ++ [Value.slice q5 m5 g5,Value.slice q6 m6 g6] ++ fl2 (vs.drop j) := by
          rw [fl2_append,List.append_assoc]; rfl
         rw [e]
         try rw [← HUS.out]
         first | exact ho7 | simpa [fl2] using ho7
        have hvl := VS.out.len
        refine ⟨BC.out,by rw [List.length_append,List.length_cons,List.length_take,List.length_drop,HLEN.out]; omega,_,ho7',?_⟩
        intro i k' hi
        have hkl := HLEN.out
        by_cases h1 : i < j
        ·rw [List.getElem?_append_left (by rw [List.length_take]; omega),List.getElem?_take,if_pos h1] at hi
         obtain ⟨u,hu⟩ : ∃ u,vs[i]? = some u := ⟨_,List.getElem?_eq_getElem (by omega)⟩
         obtain ⟨k2,hk2,hp⟩ := VK.out i u hu
         rw [hi] at hk2; cases hk2
         exact ⟨u,by rw [List.getElem?_append_left (by rw [List.length_take]; omega),List.getElem?_take,if_pos h1]; exact hu,hp⟩
        ·have lt1 : (K.take j).length = j := by rw [List.length_take]; omega
         have lt2 : (vs.take j).length = j := by rw [List.length_take]; omega
         by_cases h2 : i = j
         ·subst h2
          rw [List.getElem?_append_right (by omega),lt1,Nat.sub_self,List.getElem?_cons_zero] at hi
          cases hi
          exact ⟨_,by rw [List.getElem?_append_right (by omega),lt2,Nat.sub_self,List.getElem?_cons_zero],q5,m5,g5,q6,m6,g6,rfl,Y5.out,Y6.out⟩
         ·obtain ⟨d,hd⟩ : ∃ d,i - j = d + 1 := ⟨i - j - 1,by omega⟩
          rw [List.getElem?_append_right (by omega),lt1,hd,List.getElem?_cons_succ,List.getElem?_drop] at hi
          obtain ⟨u,hu⟩ : ∃ u,vs[j + d]? = some u := by
           have := (List.getElem?_eq_some_iff.1 hi).1
           exact ⟨_,List.getElem?_eq_getElem (by omega)⟩
          obtain ⟨k2,hk2,hp⟩ := VK.out (j + d) u hu
          rw [hi] at hk2; cases hk2
          exact ⟨u,by rw [List.getElem?_append_right (by omega),lt2,hd,List.getElem?_cons_succ,List.getElem?_drop]; exact hu,hp⟩
       have BF : Hid (Below w.heap.size w w7) := bl B4.out BC.out B4.out.size
       clear ho7 hg7
       go_wp2
       go_ret
       refine ⟨qc,_,cc,?_,rfl,by rw [HRES.out]; exact FIN.out.rwS,BF.out,.inr ⟨w4,B4.out.size,by rw [HRES.out]; exact FIN.out⟩⟩
       rw [HRES.out,List.length_append,List.length_cons,List.length_take,List.length_drop,HLEN.out]; omega
theorem Insert_any (wd t : Nat) (pk : Option Addr) (nk ck : Nat) (K : List Rw) (p1 p2 : Option Addr) (n1 c1 n2 c2 : Nat) (x : Rw) (w : World) (hK : RwS w pk nk ck K) (s1 : Sl B8 w p1 n1 c1 x.1) (s2 : Sl B8 w p2 n2 c2 x.2)
  (hfit : ∀ k,k ∈ K → Fit wd t k ∧ Led k) (hx : Fit wd t x) (hr1 : Room wd) (hr2 : Room t) (hnk : nk ≤ 65535) :
  Calls Tryz.prog 103 #[.slice pk nk ck,.agg #[.slice p1 n1 c1,.slice p2 n2 c2]] w (RetK w (insF K x)) :=
 (Insert_own wd t pk nk ck K p1 p2 n1 c1 n2 c2 x w hK s1 s2 hfit hx hr1 hr2 hnk).mono fun _ _ ⟨q,n,c,h1,h2,h3,h4,_⟩ => ⟨q,n,c,h1,h2,h3,h4⟩
end Go.Proofs.YtfbmdlfkipipfaaGreatDoor
namespace Go.By
open Go.RowKit
theorem one_cell' {w : World} {v : Value} {T g : Nat} (hg : g = w.heap.size) : ∀ (j : Nat) (u : Value),[v][j]? = some u → (w.alloc (.cells #[v] T)).cell? ((⟨g,0,none⟩ : Addr).add j) = some u := by
 intro j u hj
 rw [Addr.add_lit,Nat.zero_add,cell_of_row _ _ j _ _ _ (hnew hg)]
 match j with
 | 0 => simpa using hj
 | j + 1 => simp at hj
end Go.By
namespace Go.Proofs.YtfbmdlfkipipfaaGreatDoor
open Go.RowKit Go.By
end Go.Proofs.YtfbmdlfkipipfaaGreatDoor
namespace Go.Proofs.YtfbmdlfkipipfaaGreatDoor
open Go.RowKit Go.By
def iK (rows : List (List UInt8)) : List Rw := rows.foldl (fun K r => insF K (r,[])) []
theorem iK_snoc (rows : List (List UInt8)) (r : List UInt8) : iK (rows ++ [r]) = insF (iK rows) (r,[]) := by unfold iK; rw [List.foldl_append]; rfl
theorem iK_take {rows : List (List UInt8)} {k : Nat} {r : List UInt8} (h : rows[k]? = some r) : iK (rows.take (k + 1)) = insF (iK (rows.take k)) (r,[]) := by
 have e : rows.take (k + 1) = rows.take k ++ [r] := by rw [List.take_add_one,h]; rfl
 rw [e,iK_snoc]
theorem insF_len (K : List Rw) (x : Rw) : (insF K x).length ≤ K.length + 1 := by rw [(ins_perm K x).length_eq]; exact keepF_len K x
theorem iK_len (rows : List (List UInt8)) : ∀ k,(iK (rows.take k)).length ≤ k
 | 0 => by simp [iK]
 | k + 1 => by
  by_cases h : k < rows.length
  ·rw [iK_take (List.getElem?_eq_getElem h)]; exact Nat.le_trans (insF_len _ _) (Nat.succ_le_succ (iK_len rows k))
  ·have e : rows.take (k + 1) = rows.take k := by rw [List.take_of_length_le (by omega),List.take_of_length_le (by omega)]
   rw [e]; exact Nat.le_succ_of_le (iK_len rows k)
theorem iK_kept {wd : Nat} {rows : List (List UInt8)} (hl : ∀ r,r ∈ rows → r.length = wd) : ∀ k,KeptS wd 0 (iK (rows.take k))
 | 0 => by simpa [iK] using KeptS.nil wd 0
 | k + 1 => by
  by_cases h : k < rows.length
  ·rw [iK_take (List.getElem?_eq_getElem h)]; exact (iK_kept hl k).step ⟨hl _ (List.getElem_mem h),rfl⟩
  ·have e : rows.take (k + 1) = rows.take k := by rw [List.take_of_length_le (by omega),List.take_of_length_le (by omega)]
   rw [e]; exact iK_kept hl k
set_option maxRecDepth 100000 in
set_option maxHeartbeats 4000000 in
theorem RRank_any (wd : Nat) (p : Option Addr) (m c : Nat) (rows : List (List UInt8)) (w : World) (h : Sl2 w p m c rows) (hall : ∀ x,x ∈ rows → x.length = wd) (hw : Room wd) (hm : m ≤ 65535) :
  Calls Tryz.prog 158 #[.slice p m c] w fun e w' => e = .returned (.int .i64 (iK rows).length) ∧ Below w.heap.size w w' := by
 have HKK : Hid (∀ k,KeptS wd 0 (iK (rows.take k))) := iK_kept hall
 have HALL := Lib.hid hall; have HW := Lib.hid hw; have HLEN := Lib.hid h.len; have H := Lib.hid h
 clear h hall hw
 go_enter Tryz.func158,Tryz.ntmps158
 go_wp2
 go_loopw [3,8] (fun l i wr => ∃ (k nk : Nat) (qk : Option Addr) (ck : Nat),k ≤ m ∧ nk ≤ k ∧ i = .int .i64 k ∧ l = .slice qk nk ck ∧ Hid (RwS wr qk nk ck (iK (rows.take k))) ∧ Hid (Below w.heap.size w wr)) (fun _ i _ => m - (intOf i).toNat)
 case atStart => exact ⟨0,0,none,0,Nat.zero_le _,Nat.zero_le _,rfl,rfl,Lib.hid (by simpa [iK] using RwS.nil0 w),Below.refl _ _⟩
 case round =>
  obtain ⟨k,nk,qk,ck,hk,hnk,rfl,rfl,hK,hB⟩ := hrel
  by_cases hlt : k < m
  ·have kn : (k : Int) < (m : Int) := by omega
   obtain ⟨b,o,q,mx,cx,row,rfl,hc,hs,hx⟩ := H.out.at k hlt
   have hcw := (hB.out.cell (p := ⟨b,o + k,none⟩) (lt_of_cell hc)).trans hc
   have HS : Hid (Sl B8 wr q mx cx row) := hs.keep hB.out
   have HX : Hid (iK (rows.take (k + 1)) = insF (iK (rows.take k)) (row,[])) := iK_take hx.out
   have hfit := Lib.hid (HKK.out k)
   have hrow : Hid (row.length = wd) := HALL.out row (List.mem_of_getElem? hx.out)
   have hln := Lib.hid (iK_len rows (k + 1))
   clear hc hs hx
   go_wp2_with fail
   refine Calls.mono (Insert_any wd 0 qk nk ck (iK (rows.take k)) q none mx cx 0 0 (row,[]) wr hK.out HS.out (Sl.nil0 _ _) hfit.out.rows ⟨hrow.out,rfl⟩ HW.out (by unfold Room; omega) (by omega)) ?_
   rintro e w2 ⟨q2,n2,c2,hn2,rfl,hK2,hb2⟩
   have P2 : Hid (RwS w2 q2 n2 c2 (iK (rows.take (k + 1))) ∧ Below w.heap.size w w2) := ⟨by rw [HX.out]; exact hK2,bl hB.out hb2 hB.out.size⟩
   have hle : n2 ≤ k + 1 := by rw [hn2,← HX.out]; exact hln.out
   clear hK2 hb2 hcw hK hB HX hn2
   go_wp2
   go_roundw
   case rel => exact ⟨k + 1,n2,q2,c2,by omega,hle,by go_num,rfl,P2.out.1,P2.out.2⟩
   case measure => simp [intOf]; omega
  ·have hkm : k = m := by omega
   have hge : (m : Int) ≤ (k : Int) := by omega
   have hz : rows.take k = rows := List.take_of_length_le (by rw [HLEN.out,hkm]; exact Nat.le_refl _)
   have HL : Hid ((iK rows).length = nk) := by have := hK.out.len; rw [hz] at this; exact this
   have BF := Lib.hid hB.out
   clear hK hB hz hkm
   go_wp2
   go_ret
   exact ⟨by rw [HL.out]; rfl,BF.out⟩
end Go.Proofs.YtfbmdlfkipipfaaGreatDoor
namespace Gf
def skip (i k : Nat) : Nat := if k < i then k else k + 1
end Gf
namespace Go.Proofs.YtfbmdlfkipipfaaGreatDoor
open Go.By Gf
def updF (F : Nat → Rw) (i : Nat) (r : Rw) : Nat → Rw := fun k => if k = i then r else F k
theorem updF_same (F : Nat → Rw) (i : Nat) (r : Rw) : updF F i r i = r := by simp [updF]
theorem updF_ne (F : Nat → Rw) {i k : Nat} (r : Rw) (h : k ≠ i) : updF F i r k = F k := by simp [updF,h]
end Go.Proofs.YtfbmdlfkipipfaaGreatDoor
