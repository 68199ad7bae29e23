/- Rows kept one by one, as the grid's rank and the document's keep them: as many as the rank says. A region that draws its order, whose last operation waits for all others (a store): shapes for the others, then the last one. A region that draws its order, whose last operation (a store) waits for all others but one extract. The contract of the grid's Rank. Slices of rows that read so; the contract of the reference's Rest. Appends of rows: any part of a slice of rows onto a slice that the call owns. -/
import Derived.Test.YtbfmdfbnhakolaaGreatDoorZq2
import Derived.Laws.AppendOwnNone
namespace Go.Proofs.YtbfmdfbnhakolaaGreatDoor
open Go.By Gf
abbrev Rw := List UInt8 × List UInt8
def vf (xs : List UInt8) : V := fun j => xs.getD j 0
def cat (r : Rw) : List UInt8 := r.1 ++ r.2
def Fit (n t : Nat) (r : Rw) : Prop := r.1.length = n ∧ r.2.length = t
def lessF (x : Rw) (c : UInt8) (o : Rw) : Rw := (axpy c o.1 x.1, axpy c o.2 x.2)
def restF (K : List Rw) (x : Rw) : Rw := K.foldl (fun x k => lessF x (atS x.1 (leadS k.1)) k) x
theorem vf_axpy {c : UInt8} {xs ys : List UInt8} (h : xs.length = ys.length) : vf (axpy c xs ys) = fun j => vf ys j ^^^ gmul c (vf xs j) := by
  funext j
  unfold vf axpy
  simp only [List.getD_eq_getElem?_getD, List.getElem?_zipWith]
  by_cases hj : j < xs.length
  · rw [List.getElem?_eq_getElem hj, List.getElem?_eq_getElem (by omega : j < ys.length)]; rfl
  · rw [List.getElem?_eq_none (by omega), List.getElem?_eq_none (by omega)]; simp [gmul_zero, xor_zero]
theorem vf_scale (c : UInt8) (xs : List UInt8) : vf (xs.map (gmul c)) = fun j => gmul c (vf xs j) := by
  funext j
  unfold vf
  simp only [List.getD_eq_getElem?_getD, List.getElem?_map]
  cases xs[j]? <;> simp [gmul_zero]
theorem vf_wide (xs : List UInt8) : Wide xs.length (vf xs) := fun j hj => by unfold vf; rw [List.getD_eq_getElem?_getD, List.getElem?_eq_none hj]; rfl
theorem vf_inj {xs ys : List UInt8} (h : xs.length = ys.length) (e : ∀ j, j < xs.length → vf xs j = vf ys j) : xs = ys := by
  apply List.ext_getElem h
  intro i h1 h2
  have := e i h1
  simpa [vf, List.getD_eq_getElem?_getD, h1, h2] using this
theorem vf_app_left {xs ys : List UInt8} {j : Nat} (h : j < xs.length) : vf (xs ++ ys) j = vf xs j := by
  unfold vf; rw [List.getD_eq_getElem?_getD, List.getElem?_append_left h, List.getD_eq_getElem?_getD]
theorem axpy_append (c : UInt8) : ∀ (xs ys us vs : List UInt8), xs.length = us.length → axpy c (xs ++ ys) (us ++ vs) = axpy c xs us ++ axpy c ys vs := by
  intro xs ys us vs h
  unfold axpy
  exact List.zipWith_append h
theorem cat_less {n t : Nat} {x o : Rw} (c : UInt8) (hx : Fit n t x) (ho : Fit n t o) : cat (lessF x c o) = axpy c (cat o) (cat x) := by
  unfold cat lessF
  rw [axpy_append]
  rw [ho.1, hx.1]
theorem Fit.less {n t : Nat} {x o : Rw} {c : UInt8} (hx : Fit n t x) (ho : Fit n t o) : Fit n t (lessF x c o) := by
  unfold Fit lessF
  exact ⟨by rw [axpy_length _ _ _ (by rw [ho.1, hx.1])]; exact hx.1, by rw [axpy_length _ _ _ (by rw [ho.2, hx.2])]; exact hx.2⟩
theorem Fit.rest {n t : Nat} : ∀ {K : List Rw} {x : Rw}, (∀ k, k ∈ K → Fit n t k) → Fit n t x → Fit n t (restF K x)
  | [], x, _, hx => hx
  | k :: K, x, hK, hx => Fit.rest (K := K) (fun a ha => hK a (by simp [ha])) (hx.less (hK k (by simp)))
theorem Fit.cat {n t : Nat} {x : Rw} (h : Fit n t x) : (cat x).length = n + t := by unfold Go.Proofs.YtbfmdfbnhakolaaGreatDoor.cat; rw [List.length_append, h.1, h.2]
/-- a row that leads with a 1 at a place -/
def LeadAt (r : Rw) (l : Nat) : Prop := leadS r.1 = (l : Int) ∧ r.1[l]? = some 1 ∧ ∀ (j : Nat) (y : UInt8), j < l → r.1[j]? = some y → y = 0
def Led (r : Rw) : Prop := ∃ l, LeadAt r l
def leadN (r : Rw) : Nat := (leadS r.1).toNat
theorem Led.at {r : Rw} (h : Led r) : LeadAt r (leadN r) := by
  obtain ⟨l, hl⟩ := h
  have : leadN r = l := by unfold leadN; rw [hl.1]; rfl
  rw [this]; exact hl
theorem LeadAt.lt {r : Rw} {l n t : Nat} (h : LeadAt r l) (hf : Fit n t r) : l < n := by
  have := (List.getElem?_eq_some_iff.1 h.2.1).1; rw [hf.1] at this; exact this
def tri (K : List Rw) : List (V × Nat) := K.map fun k => (vf (cat k), leadN k)
theorem tri_fst (K : List Rw) : (tri K).map (·.1) = K.map fun k => vf (cat k) := by simp [tri, List.map_map, Function.comp_def]
theorem tri_mem {K : List Rw} {p : V × Nat} (h : p ∈ tri K) : ∃ k, k ∈ K ∧ p = (vf (cat k), leadN k) := by
  simp only [tri, List.mem_map] at h
  obtain ⟨k, hk, rfl⟩ := h; exact ⟨k, hk, rfl⟩
theorem vf_at {n t l : Nat} {x : Rw} (hx : Fit n t x) (hl : l < n) : vf (cat x) l = atS x.1 (l : Int) := by
  unfold cat
  rw [vf_app_left (by rw [hx.1]; exact hl)]
  simp [vf, atS]
theorem rest_red {n t : Nat} : ∀ {K : List Rw} {x : Rw}, (∀ k, k ∈ K → Fit n t k ∧ Led k) → Fit n t x → vf (cat (restF K x)) = red (tri K) (vf (cat x))
  | [], x, _, _ => rfl
  | k :: K, x, hK, hx => by
    obtain ⟨hf, hl⟩ := hK k (by simp)
    have hL := hl.at
    have e : (restF (k :: K) x) = restF K (lessF x (atS x.1 (leadS k.1)) k) := rfl
    rw [e, rest_red (K := K) (fun a ha => hK a (by simp [ha])) (hx.less hf), cat_less _ hx hf, vf_axpy (by rw [hf.cat, hx.cat])]
    have e2 : atS x.1 (leadS k.1) = vf (cat x) (leadN k) := by rw [vf_at hx (hL.lt hf), hL.1]
    rw [e2]; rfl
theorem axpy_zero_of {c : UInt8} (h : c = 0) {xs ys : List UInt8} (hl : xs.length = ys.length) : axpy c xs ys = ys := by
  refine vf_inj (by rw [axpy_length _ _ _ hl]) (fun j _ => ?_)
  rw [vf_axpy hl]
  show vf ys j ^^^ gmul c _ = _
  rw [h, zero_gmul, xor_zero]
theorem leadS_neg {v : List UInt8} (h : leadS v < 0) : ∀ x, x ∈ v → x = 0 := by
  rcases leadS_cases v with ⟨_, _, h3⟩ | ⟨k, x, e, _⟩
  · exact h3
  · omega
theorem vf_zero {v : List UInt8} (h : ∀ x, x ∈ v → x = 0) : ∀ j, vf v j = 0 := by
  intro j
  unfold vf
  rw [List.getD_eq_getElem?_getD]
  cases e : v[j]? with
  | none => rfl
  | some x => exact h x (List.mem_of_getElem? e)
/-- what a row that isn't nought becomes by norming -/
theorem norm_row {n t : Nat} {y : Rw} (hy : Fit n t y) (h : ¬ leadS y.1 < 0) : ∃ (l : Nat) (c : UInt8), c ≠ 0 ∧ leadS y.1 = (l : Int) ∧ LeadAt (normS y) l ∧ Fit n t (normS y) ∧ vf (cat (normS y)) = fun j => gmul c (vf (cat y) j) := by
  obtain ⟨v, d⟩ := y
  rcases norm_cases v d with ⟨h1, _⟩ | ⟨k, x, e, hx, hk, hj, g⟩
  · exact absurd (by rw [h1]; decide) h
  · refine ⟨k, ginv x, ginv_ne x hx, e, ?_, ?_, ?_⟩
    · rw [g]
      refine ⟨by have := norm_lead v d; rw [g] at this; rw [this, e], by simp [List.getElem?_map, hk, ginv_gmul x hx], ?_⟩
      intro j y hjk hy'
      simp only [List.getElem?_map, Option.map_eq_some_iff] at hy'
      obtain ⟨z, hz, rfl⟩ := hy'
      rw [hj j z hjk hz, gmul_zero]
    · rw [g]; exact ⟨by simpa using hy.1, by simpa using hy.2⟩
    · rw [g]
      have : cat (v.map (gmul (ginv x)), d.map (gmul (ginv x))) = (cat (v, d)).map (gmul (ginv x)) := by simp [cat]
      rw [this, vf_scale]
/-- a row more, or not, as the grid's rank keeps them -/
def keepF (K : List Rw) (x : Rw) : List Rw := if leadS (restF K x).1 < 0 then K else K ++ [normS (restF K x)]
structure Kept (n t : Nat) (K : List Rw) : Prop where
  rows : ∀ k, k ∈ K → Fit n t k ∧ Led k
  tri : Tri (tri K)
theorem Kept.nil (n t : Nat) : Kept n t [] := ⟨by simp, trivial⟩
theorem tri_append (K L : List Rw) : tri (K ++ L) = tri K ++ tri L := by simp [tri]
theorem leadN_of {r : Rw} {l : Nat} (h : LeadAt r l) : leadN r = l := by unfold leadN; rw [h.1]; rfl
theorem vf_lead {n t l : Nat} {r : Rw} (h : LeadAt r l) (hf : Fit n t r) : vf (cat r) l = 1 := by
  rw [vf_at hf (h.lt hf), at_of h.2.1]
theorem Kept.step {n t : Nat} {K : List Rw} {x : Rw} (h : Kept n t K) (hx : Fit n t x) : Kept n t (keepF K x) := by
  unfold keepF
  split
  · exact h
  · rename_i hn
    have hr := hx.rest (fun k hk => (h.rows k hk).1)
    obtain ⟨l, c, hc, hl, hL, hF, hv⟩ := norm_row hr hn
    refine ⟨?_, ?_⟩
    · intro k hk
      rcases List.mem_append.1 hk with h' | h'
      · exact h.rows k h'
      · simp at h'; subst h'; exact ⟨hF, l, hL⟩
    · rw [tri_append]
      show Tri (Go.Proofs.YtbfmdfbnhakolaaGreatDoor.tri K ++ [(vf (cat (normS (restF K x))), leadN (normS (restF K x)))])
      refine h.tri.snoc ?_ ?_
      · intro p hp
        rw [hv]
        show gmul c (vf (cat (restF K x)) p.2) = 0
        rw [rest_red h.rows hx, red_at h.tri p hp, gmul_zero]
      · rw [leadN_of hL]; exact vf_lead hL hF
/-- as many as the rank says (rows without data) -/
theorem kept_span {n : Nat} : ∀ {K : List Rw} {x : Rw}, Kept n 0 K → Fit n 0 x → (∀ k, k ∈ keepF K x → Sp (vf (cat x) :: K.map fun k => vf (cat k)) (vf (cat k))) ∧ Sp ((keepF K x).map fun k => vf (cat k)) (vf (cat x)) ∧ (∀ k, k ∈ K → Sp ((keepF K x).map fun k => vf (cat k)) (vf (cat k))) := by
  intro K x h hx
  have hr := hx.rest (fun k hk => (h.rows k hk).1)
  have hred := rest_red h.rows hx
  have hspan := red_span (tri K) (vf (cat x))
  rw [tri_fst] at hspan
  unfold keepF
  split
  · rename_i hn
    have hz : ∀ j, red (tri K) (vf (cat x)) j = 0 := by
      intro j
      rw [← hred]
      have e : cat (restF K x) = (restF K x).1 := by unfold cat; rw [List.length_eq_zero_iff.1 hr.2, List.append_nil]
      rw [e]
      exact vf_zero (leadS_neg hn) j
    refine ⟨fun k hk => Sp.mem (List.mem_cons_of_mem _ (List.mem_map.2 ⟨k, hk, rfl⟩)), ?_, fun k hk => Sp.mem (List.mem_map.2 ⟨k, hk, rfl⟩)⟩
    have := (red_zero h.tri).1 hz
    rwa [tri_fst] at this
  · rename_i hn
    obtain ⟨l, c, hc, hl, hL, hF, hv⟩ := norm_row hr hn
    refine ⟨?_, ?_, fun k hk => Sp.mem (List.mem_map.2 ⟨k, by simp [hk], rfl⟩)⟩
    · intro k hk
      rcases List.mem_append.1 hk with h' | h'
      · exact Sp.mem (List.mem_cons_of_mem _ (List.mem_map.2 ⟨k, h', rfl⟩))
      · simp at h'; subst h'
        rw [hv, hred]
        refine Sp.scale c ?_
        have e : red (tri K) (vf (cat x)) = fun j => vf (cat x) j ^^^ (vf (cat x) j ^^^ red (tri K) (vf (cat x)) j) := by funext j; rw [← xor_assoc, xor_self, zero_xor]
        rw [e]
        exact Sp.add (Sp.mem (by simp)) (hspan.cons _)
    · have e : vf (cat x) = fun j => gmul (ginv c) (vf (cat (normS (restF K x))) j) ^^^ (vf (cat x) j ^^^ red (tri K) (vf (cat x)) j) := by
        funext j
        rw [hv, hred]
        show _ = gmul (ginv c) (gmul c _) ^^^ _
        rw [← gmul_assoc, ginv_gmul c hc, one_gmul, xor_comm (red _ _ _), xor_cancel]
      rw [e]
      refine Sp.add (Sp.scale _ (Sp.mem (by simp))) (Sp.sub (fun a ha => ?_) hspan)
      simp only [List.mem_map] at ha ⊢
      obtain ⟨k, hk, rfl⟩ := ha
      exact ⟨k, by simp [hk], rfl⟩
theorem fold_rank {n : Nat} (Inv : List Rw → Prop) (f : List Rw → Rw → List Rw) (h0 : Inv []) (hK : ∀ K, Inv K → Kept n 0 K) (hf : ∀ K x, Inv K → Fit n 0 x → Inv (f K x) ∧ (f K x).Perm (keepF K x)) (rows : List (List UInt8)) (hrows : ∀ r, r ∈ rows → r.length = n) :
    Rk (rows.map vf) (rows.foldl (fun K r => f K (r, [])) []).length := by
  have key : ∀ (todo : List (List UInt8)) (K : List Rw) (done : List V), (∀ r, r ∈ todo → r.length = n) → Inv K → (∀ k, k ∈ K → Sp done (vf (cat k))) → (∀ v, v ∈ done → Sp (K.map fun k => vf (cat k)) v) →
      Inv (todo.foldl (fun K r => f K (r, [])) K) ∧ (∀ k, k ∈ todo.foldl (fun K r => f K (r, [])) K → Sp (done ++ todo.map vf) (vf (cat k))) ∧ (∀ v, v ∈ done ++ todo.map vf → Sp ((todo.foldl (fun K r => f K (r, [])) K).map fun k => vf (cat k)) v) := by
    intro todo
    induction todo with
    | nil => intro K done _ h1 h2 h3; exact ⟨h1, fun k hk => by simpa using h2 k hk, fun v hv => h3 v (by simpa using hv)⟩
    | cons r todo ih =>
      intro K done hl h1 h2 h3
      have hx : Fit n 0 (r, []) := ⟨hl r (by simp), rfl⟩
      have ec : cat (r, []) = r := by simp [cat]
      obtain ⟨s1, s2, s3⟩ := kept_span (hK K h1) hx
      obtain ⟨i1, hp⟩ := hf K (r, []) h1 hx
      have hm : ∀ {v : V}, Sp ((keepF K (r, [])).map fun k => vf (cat k)) v → Sp ((f K (r, [])).map fun k => vf (cat k)) v := fun h => Sp.sub (fun a ha => by
        obtain ⟨k, hk, rfl⟩ := List.mem_map.1 ha
        exact List.mem_map.2 ⟨k, hp.mem_iff.2 hk, rfl⟩) h
      rw [ec] at s1 s2
      have := ih (f K (r, [])) (done ++ [vf r]) (fun a ha => hl a (by simp [ha])) i1 (fun k hk => by
        refine Sp.trans ?_ (s1 k (hp.mem_iff.1 hk))
        intro a ha
        rcases List.mem_cons.1 ha with rfl | ha
        · exact Sp.mem (by simp)
        · obtain ⟨k', hk', rfl⟩ := List.mem_map.1 ha
          exact Sp.sub (fun b hb => by simp [hb]) (h2 k' hk')) (fun v hv => by
        rcases List.mem_append.1 hv with hv | hv
        · refine Sp.trans ?_ (h3 v hv)
          intro a ha
          obtain ⟨k', hk', rfl⟩ := List.mem_map.1 ha
          exact hm (s3 k' hk')
        · simp at hv; subst hv; exact hm s2)
      simpa using this
  obtain ⟨k1, k2, k3⟩ := key rows [] [] hrows h0 (by simp) (by simp)
  simp only [List.nil_append] at k2 k3
  refine ⟨_, (hK _ k1).tri.ind, ?_, ?_, ?_⟩
  · rw [tri_fst, List.length_map]
  · intro b hb
    rw [tri_fst] at hb
    obtain ⟨k, hk, rfl⟩ := List.mem_map.1 hb
    exact k2 k hk
  · intro a ha
    rw [tri_fst]
    exact k3 a ha
theorem kept_rank {n : Nat} (rows : List (List UInt8)) (hrows : ∀ r, r ∈ rows → r.length = n) : Rk (rows.map vf) (rows.foldl (fun K r => keepF K (r, [])) []).length :=
  fold_rank (Kept n 0) keepF (Kept.nil n 0) (fun _ h => h) (fun K x h hx => ⟨h.step hx, List.Perm.refl _⟩) rows hrows
/-- a row more, or not, as the document keeps them: by the places where they lead -/
def insF (K : List Rw) (x : Rw) : List Rw :=
  if leadS (normS (restF K x)).1 < 0 then K else K.takeWhile (fun r => decide (leadS r.1 < leadS (normS (restF K x)).1)) ++ normS (restF K x) :: K.dropWhile (fun r => decide (leadS r.1 < leadS (normS (restF K x)).1))
theorem norm_leadS (r : Rw) : leadS (normS r).1 = leadS r.1 := by obtain ⟨v, d⟩ := r; exact norm_lead v d
theorem ins_perm (K : List Rw) (x : Rw) : (insF K x).Perm (keepF K x) := by
  unfold insF keepF
  rw [norm_leadS]
  split
  · exact List.Perm.refl _
  · refine (List.perm_middle).trans ?_
    rw [List.takeWhile_append_dropWhile]
    exact (List.perm_append_singleton _ _).symm
structure KeptS (n t : Nat) (K : List Rw) : Prop where
  rows : ∀ k, k ∈ K → Fit n t k ∧ Led k
  sorted : K.Pairwise (fun a b => leadN a < leadN b)
theorem vf_before {n t l : Nat} {r : Rw} (hf : Fit n t r) (h : Led r) (hl : l < leadN r) : vf (cat r) l = 0 := by
  have hL := h.at
  have := hL.lt hf
  rw [vf_at hf (by omega)]
  have hz := hL.2.2 l
  simp only [atS, Int.toNat_natCast, Int.natCast_nonneg, if_true, List.getD_eq_getElem?_getD]
  cases e : r.1[l]? with
  | none => rfl
  | some y => exact hz y hl e
theorem tri_of_sorted {n t : Nat} : ∀ {K : List Rw}, (∀ k, k ∈ K → Fit n t k ∧ Led k) → K.Pairwise (fun a b => leadN a < leadN b) → Tri (tri K)
  | [], _, _ => trivial
  | k :: K, h1, h2 => by
    obtain ⟨g1, g2⟩ := List.pairwise_cons.1 h2
    obtain ⟨hf, hl⟩ := h1 k (by simp)
    refine ⟨vf_lead hl.at hf, ?_, tri_of_sorted (fun a ha => h1 a (by simp [ha])) g2⟩
    intro p hp
    obtain ⟨k', hk', rfl⟩ := tri_mem hp
    exact vf_before (h1 k' (by simp [hk'])).1 (h1 k' (by simp [hk'])).2 (g1 k' hk')
theorem KeptS.kept {n t : Nat} {K : List Rw} (h : KeptS n t K) : Kept n t K := ⟨h.rows, tri_of_sorted h.rows h.sorted⟩
theorem KeptS.nil (n t : Nat) : KeptS n t [] := ⟨by simp, List.Pairwise.nil⟩
theorem mem_take {α : Type} {p : α → Bool} : ∀ {l : List α} {a : α}, a ∈ l.takeWhile p → p a = true
  | b :: l, a, h => by
    rw [List.takeWhile_cons] at h
    split at h
    · rename_i hb
      rcases List.mem_cons.1 h with rfl | h
      · exact hb
      · exact mem_take h
    · simp at h
theorem drop_head {α : Type} {p : α → Bool} : ∀ {l : List α} {a : α} {r : List α}, l.dropWhile p = a :: r → p a = false
  | b :: l, a, r, h => by
    rw [List.dropWhile_cons] at h
    split at h
    · exact drop_head h
    · rename_i hb
      simp at h
      rw [← h.1]; simpa using hb
theorem KeptS.step {n t : Nat} {K : List Rw} {x : Rw} (h : KeptS n t K) (hx : Fit n t x) : KeptS n t (insF K x) := by
  have hkk := h.kept.step hx
  have hp := ins_perm K x
  refine ⟨fun k hk => hkk.rows k (hp.mem_iff.1 hk), ?_⟩
  unfold insF
  split
  · exact h.sorted
  · rename_i hn
    rw [norm_leadS] at hn
    have hr := hx.rest (fun k hk => (h.rows k hk).1)
    obtain ⟨l, c, hc, hl, hL, hF, hv⟩ := norm_row hr hn
    have hln := leadN_of hL
    rw [hL.1]
    have hne : ∀ k, k ∈ K → leadN k ≠ l := by
      intro k hk e
      have h1 : vf (cat (normS (restF K x))) l = 1 := vf_lead hL hF
      have h2 : vf (cat (normS (restF K x))) (leadN k) = 0 := by
        rw [hv]
        show gmul c (vf (cat (restF K x)) (leadN k)) = 0
        rw [rest_red h.rows hx, red_at h.kept.tri (vf (cat k), leadN k) (List.mem_map.2 ⟨k, hk, rfl⟩), gmul_zero]
      rw [e, h1] at h2
      exact absurd h2 (by decide)
    have hlead : ∀ k, k ∈ K → leadS k.1 = (leadN k : Int) := fun k hk => (h.rows k hk).2.at.1
    have hs : (K.takeWhile (fun r => decide (leadS r.1 < (l : Int))) ++ K.dropWhile (fun r => decide (leadS r.1 < (l : Int)))).Pairwise (fun a b => leadN a < leadN b) := by
      rw [List.takeWhile_append_dropWhile]; exact h.sorted
    have mT : ∀ k, k ∈ K.takeWhile (fun r => decide (leadS r.1 < (l : Int))) → k ∈ K ∧ leadN k < l := by
      intro k hk
      have h1 := (List.takeWhile_sublist _).mem hk
      refine ⟨h1, ?_⟩
      have := mem_take hk
      rw [decide_eq_true_eq, hlead k h1] at this
      omega
    have mD : ∀ k, k ∈ K.dropWhile (fun r => decide (leadS r.1 < (l : Int))) → l < leadN k := by
      obtain ⟨h1, h2, h3⟩ := List.pairwise_append.1 hs
      cases e : K.dropWhile (fun r => decide (leadS r.1 < (l : Int))) with
      | nil => intro k hk; simp at hk
      | cons a r =>
        have ha : a ∈ K := (List.dropWhile_sublist _).mem (by rw [e]; simp)
        have hd := drop_head e
        rw [decide_eq_false_iff_not, hlead a ha] at hd
        have hla : l < leadN a := by have := hne a ha; omega
        rw [e] at h2
        intro k hk
        rcases List.mem_cons.1 hk with rfl | hk
        · exact hla
        · exact Nat.lt_trans hla ((List.pairwise_cons.1 h2).1 k hk)
    obtain ⟨h1, h2, h3⟩ := List.pairwise_append.1 hs
    refine List.pairwise_append.2 ⟨h1, List.pairwise_cons.2 ⟨fun k hk => by rw [hln]; exact mD k hk, h2⟩, ?_⟩
    intro a ha b hb
    rcases List.mem_cons.1 hb with rfl | hb
    · rw [hln]; exact (mT a ha).2
    · exact h3 a ha b hb
theorem ins_rank {n : Nat} (rows : List (List UInt8)) (hrows : ∀ r, r ∈ rows → r.length = n) : Rk (rows.map vf) (rows.foldl (fun K r => insF K (r, [])) []).length :=
  fold_rank (KeptS n 0) insF (KeptS.nil n 0) (fun _ h => h.kept) (fun K x h hx => ⟨h.step hx, ins_perm K x⟩) rows hrows
/-- both ranks are one -/
theorem rank_same {n : Nat} (rows : List (List UInt8)) (hrows : ∀ r, r ∈ rows → r.length = n) : (rows.foldl (fun K r => keepF K (r, [])) []).length = (rows.foldl (fun K r => insF K (r, [])) []).length :=
  (kept_rank rows hrows).unique (ins_rank rows hrows)
end Go.Proofs.YtbfmdfbnhakolaaGreatDoor
namespace Go.By
open Go.RowKit
theorem wpAny_done {P : Program} {ops : Array Oper} {Q : Exit → Act → World → Prop} {listed : Array Bool} {a : Act} {w : World} (fuel : Nat) (hall : ∀ j, j < ops.size → listed.getD j true = true) (h : Q .normal a w) : wpAny P .any ops Q fuel listed a w := by
  have hr : Region.ready .any ops listed = [] := by
    rw [List.eq_nil_iff_forall_not_mem]
    intro i hi
    obtain ⟨h1, h2, _⟩ := mem_ready.1 hi
    rw [hall i h1] at h2; cases h2
  cases fuel with
  | zero => exact ⟨hr, h⟩
  | succ n => exact ⟨fun _ => h, fun i hi => by rw [hr] at hi; simp at hi⟩
/-- the last operation waits for all others -/
def lastB (ops : Array Oper) (m : Nat) : Bool := decide (ops.size = m + 1) && (match ops[m]? with
  | some o => o.guard.isNone
  | none => false) && (List.range m).all fun i => (List.range (m + 1)).any fun j => decide (i < j) && match ops[j]? with
  | some o => (preds o).contains i
  | none => false
theorem wp_region_last {P : Program} {ops : Array Oper} {Q : Exit → Act → World → Prop} {id : Nat} {a0 : Act} {w0 : World} (sh : Nat → Shp) (n m : Nat) (hn : a0.tmps.size = n) (hm : P.follows .mixedOrders = true) (hback : backB ops = true) (hdist : distB ops = true)
    (hlast : lastB ops m = true) (hdsts : dstsB (ops.extract 0 m) n = true)
    (each : EachS P ops Q a0 w0.drew sh (ops.toList.take m) 0)
    (fin : ∀ a w o, ops[m]? = some o → Below w0.heap.size w0 w → a.tmps.size = a0.tmps.size → a.defers = a0.defers → (∀ j, j < m → InvS ops sh j (sl a) w) → (∀ t, (ops.toList.all fun o => o.dst != some t) = true → sl a t = sl a0 t) → o.wp P a w (fun a' w' => Q .normal a' w') Q) :
    (Code.region id ops true).wp P Q a0 w0 := by
  unfold lastB at hlast
  rw [Bool.and_eq_true, Bool.and_eq_true] at hlast
  have hsz : ops.size = m + 1 := of_decide_eq_true hlast.1.1
  have hm' : m < ops.size := by omega
  obtain ⟨ol, hol⟩ : ∃ ol, ops[m]? = some ol := ⟨_, Array.getElem?_eq_getElem hm'⟩
  have hl2 := hlast.1.2
  rw [hol] at hl2
  have hguard : ol.guard = none := by cases hg : ol.guard <;> simp [hg] at hl2 ⊢
  have hpl : ∀ i, i < m → ∃ j o, i < j ∧ j ≤ m ∧ ops[j]? = some o ∧ i ∈ preds o := fun i hi => by
    obtain ⟨j, hj, h⟩ := List.any_eq_true.1 (List.all_eq_true.1 hlast.2 i (List.mem_range.2 hi))
    have hjm := List.mem_range.1 hj
    rw [Bool.and_eq_true] at h
    obtain ⟨oj, hoj⟩ : ∃ oj, ops[j]? = some oj := ⟨_, Array.getElem?_eq_getElem (by omega)⟩
    have h2 := h.2
    rw [hoj] at h2
    exact ⟨j, oj, of_decide_eq_true h.1, by omega, hoj, by simpa using h2⟩
  have hE := each_of (Q := Q) (P := P) (a0 := a0) (W0 := w0.drew) (sh := sh) hn (ops.toList.take m) 0 (fun j o hj => by
      rw [List.getElem?_take] at hj; split at hj
      · simpa using hj
      · cases hj) (by
      unfold dstsB at hdsts
      have e : (ops.extract 0 m).toList = ops.toList.take m := by simp
      rw [e] at hdsts; exact hdsts) each
  have stepAt : ∀ i o, i < m → ops[i]? = some o → StepOf P ops Q a0 w0.drew (fun W w => Below W.heap.size W w) (fun _ w w' => Below w.heap.size w w') (InvS ops sh) i o := fun i o hi ho => by
    have := Each.get _ 0 hE i o (by rw [List.getElem?_take, if_pos hi]; simpa using ho)
    rwa [Nat.zero_add] at this
  have stable : ∀ i j oi oj (σ σ' : Nat → Value) w w', i ≠ j → ops[i]? = some oi → ops[j]? = some oj → InvS ops sh j σ w → Below w.heap.size w w' → (∀ t, oi.dst ≠ some t → σ' t = σ t) → InvS ops sh j σ' w' := by
    intro i j oi oj σ σ' w w' hij hoi hoj hI hR hσ
    unfold InvS at hI ⊢
    cases hdj : dstOf ops j with
    | none => trivial
    | some d =>
      rw [hdj] at hI
      show (sh j).ok (σ' d) w'
      have hne : oi.dst ≠ some d := by
        intro e
        have hi' : i < ops.size := (Array.getElem?_eq_some_iff.1 hoi).1
        have hj' : j < ops.size := (Array.getElem?_eq_some_iff.1 hoj).1
        have := List.all_eq_true.1 (List.all_eq_true.1 hdist i (List.mem_range.2 hi')) j (List.mem_range.2 hj')
        rw [hoi, hoj] at this
        have hdj' : oj.dst = some d := by simpa [dstOf, hoj] using hdj
        simp [e, hdj', hij] at this
      rw [hσ d hne]
      exact (sh j).keep _ _ _ hI hR
  refine wp_region_any hm ?_
  show wpAny P .any ops Q ops.size (Array.replicate ops.size false) a0 w0.drew
  have main : ∀ (fuel : Nat) (listed : Array Bool) (a : Act) (w : World), unl ops.size listed ≤ fuel → listed.getD m true = false → Below w0.heap.size w0 w → a.tmps.size = a0.tmps.size → a.defers = a0.defers →
      (∀ j o, listed.getD j false = true → ops[j]? = some o → ∀ k, k ∈ preds o → listed.getD k false = true) →
      (∀ j, j < ops.size → listed.getD j true = true → listed.getD j false = true) →
      (∀ j, j < m → listed.getD j false = true → InvS ops sh j (sl a) w) →
      (∀ t, (∀ j o, j < m → listed.getD j false = true → ops[j]? = some o → o.dst ≠ some t) → sl a t = sl a0 t) → wpAny P .any ops Q fuel listed a w := by
    intro fuel
    induction fuel with
    | zero =>
      intro listed a w hu hlm
      exfalso
      have h0 : unl ops.size listed = 0 := by omega
      unfold unl at h0
      have := List.countP_eq_zero.1 h0 m (List.mem_range.2 hm')
      simp [hlm] at this
    | succ fuel ih =>
      intro listed a w hu hlm hEw hs hd hcl hlt hI ht
      refine ⟨fun hr => ?_, fun i hi => ?_⟩
      · exfalso
        have hall : ∀ k j, j < k → j < ops.size → listed.getD j false = true := by
          intro k
          induction k with
          | zero => intro j hj; omega
          | succ k ihk =>
            intro j hj hjs
            refine hlt j hjs ?_
            cases hb : listed.getD j true with
            | true => rfl
            | false =>
              exfalso
              have ho : ops[j]? = some ops[j] := Array.getElem?_eq_getElem hjs
              have : j ∈ Region.ready .any ops listed := mem_ready.2 ⟨hjs, hb, _, ho, fun q hq => by
                have hbk := List.all_eq_true.1 hback j (List.mem_range.2 hjs)
                rw [ho] at hbk
                have hkj := of_decide_eq_true (List.all_eq_true.1 hbk q hq)
                exact ihk q (by omega) (by omega)⟩
              rw [hr] at this; cases this
        have hx := hall (m + 1) m (by omega) hm'
        rcases Nat.lt_or_ge m listed.size with h | h
        · simp [Array.getD_eq_getD_getElem?, h] at hlm hx; rw [hlm] at hx; cases hx
        · simp [Array.getD_eq_getD_getElem?, Array.getElem?_eq_none h] at hx
      · obtain ⟨h1, h2, o, ho, h3⟩ := mem_ready.1 hi
        have hnl : listed.getD i false ≠ true := by
          intro hx
          rcases Nat.lt_or_ge i listed.size with h | h
          · simp [Array.getD_eq_getD_getElem?, h] at h2 hx; rw [h2] at hx; cases hx
          · simp [Array.getD_eq_getD_getElem?, Array.getElem?_eq_none h] at hx
        have his : i < listed.size := by
          rcases Nat.lt_or_ge i listed.size with h | h
          · exact h
          · simp [Array.getD_eq_getD_getElem?, Array.getElem?_eq_none h] at h2
        have gset : ∀ j (d : Bool), (listed.setIfInBounds i true).getD j d = if i = j then true else listed.getD j d := by
          intro j d
          simp only [Array.getD_eq_getD_getElem?, Array.getElem?_setIfInBounds]
          by_cases e : i = j
          · subst e; simp [his]
          · simp [e]
        by_cases him : i = m
        · subst him
          rw [hol] at ho; cases ho
          have hdown : ∀ d j, i - j ≤ d → j < i → listed.getD j false = true := by
            intro d
            induction d with
            | zero => intro j h4 h5; omega
            | succ d ihd =>
              intro j h4 h5
              obtain ⟨j2, o2, g1, g2, g3, g4⟩ := hpl j h5
              by_cases e : j2 = i
              · subst e; rw [hol] at g3; cases g3; exact h3 j g4
              · exact hcl j2 o2 (ihd j2 (by omega) (by omega)) g3 j g4
          have hdn : ∀ j, j < i → listed.getD j false = true := fun j hj => hdown i j (by omega) hj
          have hf := fin a w ol hol hEw hs hd (fun j hj => hI j hj (hdn j hj)) (fun t htt => ht t (fun j oj hj _ hoj => by
            have := List.all_eq_true.1 htt oj (by rw [Array.mem_toList_iff]; exact Array.mem_of_getElem? hoj)
            simpa using this))
          unfold wpOp
          rw [hol]
          show if Region.wanted ol (yielded ops a.tmps) = true then _ else _
          rw [if_pos (by simp [Region.wanted, hguard])]
          refine .inl (Oper.wp_mono (fun a' w' hq => wpAny_done _ (fun j hj => ?_) hq) hf)
          rw [gset]
          by_cases e : i = j
          · rw [if_pos e]
          · rw [if_neg e]
            have hjl := hdn j (by omega)
            rcases Nat.lt_or_ge j listed.size with h | h
            · simp [Array.getD_eq_getD_getElem?, h] at hjl ⊢; exact hjl
            · simp [Array.getD_eq_getD_getElem?, Array.getElem?_eq_none h]
        · have him' : i < m := by omega
          have hst := stepAt i o him' ho
          have hst' := hst a w ⟨hEw.os, hEw.tape, hEw.output, hEw.size, hEw.block⟩ hs (fun k hk => hI k (by
              have hbk := List.all_eq_true.1 hback i (List.mem_range.2 h1)
              rw [ho] at hbk
              have := of_decide_eq_true (List.all_eq_true.1 hbk k hk); omega) (h3 k hk)) (fun t hti => by
            refine ht t (fun j oj hj hlj hoj hdj => ?_)
            have := List.all_eq_true.1 hti j (List.mem_range.2 (by omega))
            rw [hoj] at this
            by_cases e : j = i
            · subst e; exact hnl hlj
            · simp [e, hdj] at this
              exact hnl (hcl j oj hlj hoj i this))
          have next : ∀ (v : Value) (w' : World), Below w.heap.size w w' → InvS ops sh i (sl (a.put o.dst v)) w' → wpAny P .any ops Q fuel (listed.setIfInBounds i true) (a.put o.dst v) w' := by
            intro v w' hR hIi
            refine ih _ _ _ (by have := unl_set (n := ops.size) h1 h2; omega) (by rw [gset, if_neg him]; exact hlm) (hEw.trans (hR.mono hEw.size)) ((put_size _ _ _).trans hs) ((put_defers _ _ _).trans hd) ?_ ?_ ?_ ?_
            · intro j oj hj hoj k hk
              rw [gset] at hj ⊢
              by_cases e : i = k
              · rw [if_pos e]
              · rw [if_neg e]
                by_cases e' : i = j
                · subst e'; rw [ho] at hoj; cases hoj; exact h3 k hk
                · rw [if_neg e'] at hj; exact hcl j oj hj hoj k hk
            · intro j hj hl
              rw [gset] at hl ⊢
              by_cases e : i = j
              · rw [if_pos e]
              · rw [if_neg e] at hl ⊢; exact hlt j hj hl
            · intro j hj hl
              rw [gset] at hl
              by_cases e : i = j
              · subst e; exact hIi
              · rw [if_neg e] at hl
                have hoj : ops[j]? = some ops[j] := Array.getElem?_eq_getElem (by omega)
                exact stable i j o _ (sl a) _ w w' e ho hoj (hI j hj hl) hR (fun t h => put_sl _ _ _ _ h)
            · intro t htt
              have hdt : o.dst ≠ some t := htt i o him' (by rw [gset, if_pos rfl]) ho
              rw [put_sl _ _ _ _ hdt]
              exact ht t (fun j oj hj hl hoj => htt j oj hj (by rw [gset]; split <;> simp [hl]) hoj)
          unfold wpOp
          rw [ho]
          show if Region.wanted o (yielded ops a.tmps) = true then _ else _
          split
          · rename_i hw
            rw [if_pos hw] at hst'
            exact .inl (Oper.wp_mono (fun a' w' ⟨v, e, hR, hIi⟩ => by rw [e] at hIi ⊢; exact next v w' hR hIi) hst')
          · rename_i hw
            rw [if_neg hw] at hst'
            exact next undef w hst'.1 hst'.2
  refine main ops.size _ a0 w0.drew ?_ ?_ ⟨rfl, rfl, rfl, Nat.le_refl _, fun _ _ => rfl⟩ rfl rfl ?_ ?_ ?_ ?_
  · unfold unl; exact Nat.le_trans List.countP_le_length (by simp)
  · simp [Array.getD_eq_getD_getElem?, Array.getElem?_replicate, hm']
  · intro j o hj; simp [Array.getD_eq_getD_getElem?, Array.getElem?_replicate] at hj
    split at hj <;> simp at hj
  · intro j hj hl; simp [Array.getD_eq_getD_getElem?, Array.getElem?_replicate, hj] at hl
  · intro j hj hl; simp [Array.getD_eq_getD_getElem?, Array.getElem?_replicate, show j < ops.size by omega] at hl
  · intro t _; rfl
theorem wp_skip_none {P : Program} {o : Oper} {a : Act} {w w' : World} {K : Act → World → Prop} {Q : Exit → Act → World → Prop} (hd : o.dst = none) (hrun : (execOp a.eval o).run P w = .ok .skip w') (h : K a w') : o.wp P a w K Q :=
  wp_skipX hrun (by rw [hd]; exact h)
def RowT (r : List UInt8 × List UInt8) (code : Int) (v : Value) (w : World) : Prop := ∃ u, v = .tuple #[u, .int .i64 code] ∧ RowIs r u w
def Shp.rowT (r : List UInt8 × List UInt8) (code : Int) : Shp := ⟨RowT r code, fun _ _ _ ⟨u, e, h⟩ hb => ⟨u, e, (Shp.row r).keep _ _ _ h hb⟩⟩
end Go.By
namespace Go.By
open Go.RowKit
/-- the last operation (a store) waits for all others but one (an extract) -/
def lateB (ops : Array Oper) (m e : Nat) : Bool := decide (ops.size = m + 1) && decide (e < m) && match ops[m]? with
  | some o => o.guard.isNone && o.dst.isNone && (List.range m).all fun i => i == e || (preds o).contains i
  | none => false
theorem wpAny_one {P : Program} {ops : Array Oper} {Q : Exit → Act → World → Prop} {listed : Array Bool} {a : Act} {w : World} {e : Nat} {oe : Oper} (fuel : Nat) (he : ops[e]? = some oe) (hall : ∀ j, j < ops.size → j ≠ e → listed.getD j true = true) (hle : listed.getD e true = false) (hpe : ∀ k, k ∈ preds oe → listed.getD k false = true)
    (hu : unl ops.size listed ≤ fuel) (hg : oe.guard = none) (h : oe.wp P a w (fun a' w' => Q .normal a' w') Q) : wpAny P .any ops Q fuel listed a w := by
  have hes : e < ops.size := (Array.getElem?_eq_some_iff.1 he).1
  have hin : e ∈ Region.ready .any ops listed := mem_ready.2 ⟨hes, hle, oe, he, hpe⟩
  cases fuel with
  | zero =>
    exfalso
    have h0 : unl ops.size listed = 0 := by omega
    unfold unl at h0
    have := List.countP_eq_zero.1 h0 e (List.mem_range.2 hes)
    simp [hle] at this
  | succ n =>
    refine ⟨fun hr => by rw [hr] at hin; simp at hin, fun i hi => ?_⟩
    have hie : i = e := by
      apply Classical.byContradiction
      intro hne
      obtain ⟨h1, h2, _⟩ := mem_ready.1 hi
      rw [hall i h1 hne] at h2; cases h2
    subst hie
    unfold wpOp
    rw [he]
    show if Region.wanted oe (yielded ops a.tmps) = true then _ else _
    rw [if_pos (by simp [Region.wanted, hg])]
    have his : i < listed.size := by
      rcases Nat.lt_or_ge i listed.size with h | h
      · exact h
      · simp [Array.getD_eq_getD_getElem?, Array.getElem?_eq_none h] at hle
    refine .inl (Oper.wp_mono (fun a' w' hq => wpAny_done _ (fun j hj => ?_) hq) h)
    simp only [Array.getD_eq_getD_getElem?, Array.getElem?_setIfInBounds]
    by_cases e2 : i = j
    · subst e2; simp [his]
    · rw [if_neg e2]
      have := hall j hj (fun h => e2 h.symm)
      simpa [Array.getD_eq_getD_getElem?] using this
theorem wp_region_late {P : Program} {ops : Array Oper} {Q : Exit → Act → World → Prop} {id : Nat} {a0 : Act} {w0 : World} (sh : Nat → Shp) (n m e t d : Nat) (hn : a0.tmps.size = n) (hm : P.follows .mixedOrders = true) (hback : backB ops = true) (hdist : distB ops = true)
    (hlast : lateB ops m e = true) (oe : Oper) (hoe : ops[e]? = some oe) (hge : oe.guard = none) (hde : oe.dst = some d) (hdn : d < n)
    (hrun : ∀ (a : Act) (u x : Value) (w : World), sl a t = .tuple #[u, x] → ∃ v, (execOp a.eval oe).run P w = .ok (.value v) w) (hdsts : dstsB (ops.extract 0 m) n = true)
    (each : EachS P ops Q a0 w0.drew sh (ops.toList.take m) 0)
    (fin : ∀ a w o, ops[m]? = some o → Below w0.heap.size w0 w → a.tmps.size = a0.tmps.size → a.defers = a0.defers → (∀ j, j < m → j ≠ e → InvS ops sh j (sl a) w) → (∀ t, (ops.toList.all fun o => o.dst != some t) = true → sl a t = sl a0 t) →
      (∃ u x, sl a t = .tuple #[u, x]) ∧ o.wp P a w (fun a' w' => a' = a ∧ ∀ b : Act, b.tmps.size = a0.tmps.size → b.defers = a0.defers → (∀ t', t' ≠ d → sl b t' = sl a t') → Q .normal b w') Q) :
    (Code.region id ops true).wp P Q a0 w0 := by
  unfold lateB at hlast
  rw [Bool.and_eq_true, Bool.and_eq_true] at hlast
  have hsz : ops.size = m + 1 := of_decide_eq_true hlast.1.1
  have hem : e < m := of_decide_eq_true hlast.1.2
  have hm' : m < ops.size := by omega
  obtain ⟨ol, hol⟩ : ∃ ol, ops[m]? = some ol := ⟨_, Array.getElem?_eq_getElem hm'⟩
  have hl2 := hlast.2
  rw [hol] at hl2
  simp only [Bool.and_eq_true] at hl2
  have hguard : ol.guard = none := by cases hg : ol.guard <;> simp [hg] at hl2 ⊢
  have hdst : ol.dst = none := by cases hg : ol.dst <;> simp [hg] at hl2 ⊢
  have hpl : ∀ i, i < m → i ≠ e → i ∈ preds ol := fun i hi hne => by
    have := List.all_eq_true.1 hl2.2 i (List.mem_range.2 hi)
    simpa [hne] using this
  have hE := each_of (Q := Q) (P := P) (a0 := a0) (W0 := w0.drew) (sh := sh) hn (ops.toList.take m) 0 (fun j o hj => by
      rw [List.getElem?_take] at hj; split at hj
      · simpa using hj
      · cases hj) (by
      unfold dstsB at hdsts
      have e : (ops.extract 0 m).toList = ops.toList.take m := by simp
      rw [e] at hdsts; exact hdsts) each
  have stepAt : ∀ i o, i < m → ops[i]? = some o → StepOf P ops Q a0 w0.drew (fun W w => Below W.heap.size W w) (fun _ w w' => Below w.heap.size w w') (InvS ops sh) i o := fun i o hi ho => by
    have := Each.get _ 0 hE i o (by rw [List.getElem?_take, if_pos hi]; simpa using ho)
    rwa [Nat.zero_add] at this
  have stable : ∀ i j oi oj (σ σ' : Nat → Value) w w', i ≠ j → ops[i]? = some oi → ops[j]? = some oj → InvS ops sh j σ w → Below w.heap.size w w' → (∀ t, oi.dst ≠ some t → σ' t = σ t) → InvS ops sh j σ' w' := by
    intro i j oi oj σ σ' w w' hij hoi hoj hI hR hσ
    unfold InvS at hI ⊢
    cases hdj : dstOf ops j with
    | none => trivial
    | some d =>
      rw [hdj] at hI
      show (sh j).ok (σ' d) w'
      have hne : oi.dst ≠ some d := by
        intro e
        have hi' : i < ops.size := (Array.getElem?_eq_some_iff.1 hoi).1
        have hj' : j < ops.size := (Array.getElem?_eq_some_iff.1 hoj).1
        have := List.all_eq_true.1 (List.all_eq_true.1 hdist i (List.mem_range.2 hi')) j (List.mem_range.2 hj')
        rw [hoi, hoj] at this
        have hdj' : oj.dst = some d := by simpa [dstOf, hoj] using hdj
        simp [e, hdj', hij] at this
      rw [hσ d hne]
      exact (sh j).keep _ _ _ hI hR
  refine wp_region_any hm ?_
  show wpAny P .any ops Q ops.size (Array.replicate ops.size false) a0 w0.drew
  have main : ∀ (fuel : Nat) (listed : Array Bool) (a : Act) (w : World), unl ops.size listed ≤ fuel → listed.getD m true = false → Below w0.heap.size w0 w → a.tmps.size = a0.tmps.size → a.defers = a0.defers →
      (∀ j o, listed.getD j false = true → ops[j]? = some o → ∀ k, k ∈ preds o → listed.getD k false = true) →
      (∀ j, j < ops.size → listed.getD j true = true → listed.getD j false = true) →
      (∀ j, j < m → listed.getD j false = true → InvS ops sh j (sl a) w) →
      (∀ t, (∀ j o, j < m → listed.getD j false = true → ops[j]? = some o → o.dst ≠ some t) → sl a t = sl a0 t) → wpAny P .any ops Q fuel listed a w := by
    intro fuel
    induction fuel with
    | zero =>
      intro listed a w hu hlm
      exfalso
      have h0 : unl ops.size listed = 0 := by omega
      unfold unl at h0
      have := List.countP_eq_zero.1 h0 m (List.mem_range.2 hm')
      simp [hlm] at this
    | succ fuel ih =>
      intro listed a w hu hlm hEw hs hd hcl hlt hI ht
      refine ⟨fun hr => ?_, fun i hi => ?_⟩
      · exfalso
        have hall : ∀ k j, j < k → j < ops.size → listed.getD j false = true := by
          intro k
          induction k with
          | zero => intro j hj; omega
          | succ k ihk =>
            intro j hj hjs
            refine hlt j hjs ?_
            cases hb : listed.getD j true with
            | true => rfl
            | false =>
              exfalso
              have ho : ops[j]? = some ops[j] := Array.getElem?_eq_getElem hjs
              have : j ∈ Region.ready .any ops listed := mem_ready.2 ⟨hjs, hb, _, ho, fun q hq => by
                have hbk := List.all_eq_true.1 hback j (List.mem_range.2 hjs)
                rw [ho] at hbk
                have hkj := of_decide_eq_true (List.all_eq_true.1 hbk q hq)
                exact ihk q (by omega) (by omega)⟩
              rw [hr] at this; cases this
        have hx := hall (m + 1) m (by omega) hm'
        rcases Nat.lt_or_ge m listed.size with h | h
        · simp [Array.getD_eq_getD_getElem?, h] at hlm hx; rw [hlm] at hx; cases hx
        · simp [Array.getD_eq_getD_getElem?, Array.getElem?_eq_none h] at hx
      · obtain ⟨h1, h2, o, ho, h3⟩ := mem_ready.1 hi
        have hnl : listed.getD i false ≠ true := by
          intro hx
          rcases Nat.lt_or_ge i listed.size with h | h
          · simp [Array.getD_eq_getD_getElem?, h] at h2 hx; rw [h2] at hx; cases hx
          · simp [Array.getD_eq_getD_getElem?, Array.getElem?_eq_none h] at hx
        have his : i < listed.size := by
          rcases Nat.lt_or_ge i listed.size with h | h
          · exact h
          · simp [Array.getD_eq_getD_getElem?, Array.getElem?_eq_none h] at h2
        have gset : ∀ j (d : Bool), (listed.setIfInBounds i true).getD j d = if i = j then true else listed.getD j d := by
          intro j d
          simp only [Array.getD_eq_getD_getElem?, Array.getElem?_setIfInBounds]
          by_cases e : i = j
          · subst e; simp [his]
          · simp [e]
        by_cases him : i = m
        · subst him
          rw [hol] at ho; cases ho
          obtain ⟨⟨u, x, htu⟩, hf⟩ := fin a w ol hol hEw hs hd (fun j hj hje => hI j hj (h3 j (hpl j hj hje))) (fun t htt => ht t (fun j oj hj _ hoj => by
            have := List.all_eq_true.1 htt oj (by rw [Array.mem_toList_iff]; exact Array.mem_of_getElem? hoj)
            simpa using this))
          unfold wpOp
          rw [hol]
          show if Region.wanted ol (yielded ops a.tmps) = true then _ else _
          rw [if_pos (by simp [Region.wanted, hguard])]
          have toT : ∀ j, listed.getD j false = true → listed.getD j true = true := fun j hjl => by
            rcases Nat.lt_or_ge j listed.size with h | h
            · simp [Array.getD_eq_getD_getElem?, h] at hjl ⊢; exact hjl
            · simp [Array.getD_eq_getD_getElem?, Array.getElem?_eq_none h] at hjl
          refine .inl (Oper.wp_mono (fun a' w' hq => ?_) hf)
          obtain ⟨rfl, hq⟩ := hq
          cases hle : listed.getD e true with
          | true =>
            refine wpAny_done _ (fun j hj => ?_) (hq a' hs hd (fun _ _ => rfl))
            rw [gset]
            by_cases e2 : i = j
            · rw [if_pos e2]
            · rw [if_neg e2]
              by_cases e3 : j = e
              · subst e3; exact hle
              · exact toT j (h3 j (hpl j (by omega) e3))
          | false =>
            obtain ⟨v, hv⟩ := hrun a' u x w' htu
            refine wpAny_one _ hoe (fun j hj hje => ?_) (by rw [gset, if_neg (by omega)]; exact hle) (fun k hk => ?_) (by have := unl_set (n := ops.size) h1 h2; omega) hge ?_
            · rw [gset]
              by_cases e2 : i = j
              · rw [if_pos e2]
              · rw [if_neg e2]; exact toT j (h3 j (hpl j (by omega) hje))
            · have hbk := List.all_eq_true.1 hback e (List.mem_range.2 (by omega))
              rw [hoe] at hbk
              have hke := of_decide_eq_true (List.all_eq_true.1 hbk k hk)
              rw [gset, if_neg (by omega)]
              exact h3 k (hpl k (by omega) (by omega))
            · refine wp_val v hv ?_
              refine hq _ ((put_size _ _ _).trans hs) ((put_defers _ _ _).trans hd) (fun t' ht' => ?_)
              rw [hde, put_sl _ _ _ _ (fun h => ht' (by injection h with h; exact h.symm))]
        · have him' : i < m := by omega
          have hst := stepAt i o him' ho
          have hst' := hst a w ⟨hEw.os, hEw.tape, hEw.output, hEw.size, hEw.block⟩ hs (fun k hk => hI k (by
              have hbk := List.all_eq_true.1 hback i (List.mem_range.2 h1)
              rw [ho] at hbk
              have := of_decide_eq_true (List.all_eq_true.1 hbk k hk); omega) (h3 k hk)) (fun t hti => by
            refine ht t (fun j oj hj hlj hoj hdj => ?_)
            have := List.all_eq_true.1 hti j (List.mem_range.2 (by omega))
            rw [hoj] at this
            by_cases e : j = i
            · subst e; exact hnl hlj
            · simp [e, hdj] at this
              exact hnl (hcl j oj hlj hoj i this))
          have next : ∀ (v : Value) (w' : World), Below w.heap.size w w' → InvS ops sh i (sl (a.put o.dst v)) w' → wpAny P .any ops Q fuel (listed.setIfInBounds i true) (a.put o.dst v) w' := by
            intro v w' hR hIi
            refine ih _ _ _ (by have := unl_set (n := ops.size) h1 h2; omega) (by rw [gset, if_neg him]; exact hlm) (hEw.trans (hR.mono hEw.size)) ((put_size _ _ _).trans hs) ((put_defers _ _ _).trans hd) ?_ ?_ ?_ ?_
            · intro j oj hj hoj k hk
              rw [gset] at hj ⊢
              by_cases e : i = k
              · rw [if_pos e]
              · rw [if_neg e]
                by_cases e' : i = j
                · subst e'; rw [ho] at hoj; cases hoj; exact h3 k hk
                · rw [if_neg e'] at hj; exact hcl j oj hj hoj k hk
            · intro j hj hl
              rw [gset] at hl ⊢
              by_cases e : i = j
              · rw [if_pos e]
              · rw [if_neg e] at hl ⊢; exact hlt j hj hl
            · intro j hj hl
              rw [gset] at hl
              by_cases e : i = j
              · subst e; exact hIi
              · rw [if_neg e] at hl
                have hoj : ops[j]? = some ops[j] := Array.getElem?_eq_getElem (by omega)
                exact stable i j o _ (sl a) _ w w' e ho hoj (hI j hj hl) hR (fun t h => put_sl _ _ _ _ h)
            · intro t htt
              have hdt : o.dst ≠ some t := htt i o him' (by rw [gset, if_pos rfl]) ho
              rw [put_sl _ _ _ _ hdt]
              exact ht t (fun j oj hj hl hoj => htt j oj hj (by rw [gset]; split <;> simp [hl]) hoj)
          unfold wpOp
          rw [ho]
          show if Region.wanted o (yielded ops a.tmps) = true then _ else _
          split
          · rename_i hw
            rw [if_pos hw] at hst'
            exact .inl (Oper.wp_mono (fun a' w' ⟨v, e, hR, hIi⟩ => by rw [e] at hIi ⊢; exact next v w' hR hIi) hst')
          · rename_i hw
            rw [if_neg hw] at hst'
            exact next undef w hst'.1 hst'.2
  refine main ops.size _ a0 w0.drew ?_ ?_ ⟨rfl, rfl, rfl, Nat.le_refl _, fun _ _ => rfl⟩ rfl rfl ?_ ?_ ?_ ?_
  · unfold unl; exact Nat.le_trans List.countP_le_length (by simp)
  · simp [Array.getD_eq_getD_getElem?, Array.getElem?_replicate, hm']
  · intro j o hj; simp [Array.getD_eq_getD_getElem?, Array.getElem?_replicate] at hj
    split at hj <;> simp at hj
  · intro j hj hl; simp [Array.getD_eq_getD_getElem?, Array.getElem?_replicate, hj] at hl
  · intro j hj hl; simp [Array.getD_eq_getD_getElem?, Array.getElem?_replicate, show j < ops.size by omega] at hl
  · intro t _; rfl
/-- a row in memory from block B on -/
def RowN (B : Nat) (r : List UInt8 × List UInt8) (v : Value) (w : World) : Prop := ∃ p1 n1 c1 p2 n2 c2, v = .agg #[.slice p1 n1 c1, .slice p2 n2 c2] ∧ Sl B8 w p1 n1 c1 r.1 ∧ Sl B8 w p2 n2 c2 r.2 ∧ (∀ a, p1 = some a → B ≤ a.block) ∧ ∀ a, p2 = some a → B ≤ a.block
def Shp.rowN (B : Nat) (r : List UInt8 × List UInt8) : Shp := ⟨RowN B r, fun _ _ _ ⟨p1, n1, c1, p2, n2, c2, e, h1, h2, h3, h4⟩ hb => ⟨p1, n1, c1, p2, n2, c2, e, h1.keep hb, h2.keep hb, h3, h4⟩⟩
def RowTN (B : Nat) (r : List UInt8 × List UInt8) (code : Int) (v : Value) (w : World) : Prop := ∃ u, v = .tuple #[u, .int .i64 code] ∧ RowN B r u w
def Shp.rowTN (B : Nat) (r : List UInt8 × List UInt8) (code : Int) : Shp := ⟨RowTN B r code, fun _ _ _ ⟨u, e, h⟩ hb => ⟨u, e, (Shp.rowN B r).keep _ _ _ h hb⟩⟩
theorem grownBy_setCell' (w : World) (g o : Nat) (v : Value) : w.grownBy (w.setCell ⟨g, o, none⟩ v) (some g) :=
  ⟨rfl, rfl, rfl, by simp, fun b hb hne => Below.heap_setCell _ _ _ _ (fun e => hne (by rw [e]))⟩
theorem Sl.set {α : Type} {enc : α → Value} {w : World} {p : Option Addr} {n c g o : Nat} {v : Value} {xs : List α} (h : Sl enc w p n c xs) (hne : ∀ a, p = some a → a.block ≠ g) : Sl enc (w.setCell ⟨g, o, none⟩ v) p n c xs :=
  h.grown (grownBy_setCell' w g o v) (fun a ha e => hne a ha (by injection e))
theorem run_extract0 {P : Program} {a : Act} {u x : Value} {w : World} {t : Nat} (oe : Oper) (hop : oe.op = .extract (.tmp t) 0) (h : sl a t = .tuple #[u, x]) : ∃ v, (execOp a.eval oe).run P w = .ok (.value v) w :=
  ⟨u, by unfold execOp; rw [hop]; simp only [eval_tmp, h]; rfl⟩
theorem run_extract1 {P : Program} {a : Act} {u x : Value} {w : World} {t : Nat} (oe : Oper) (hop : oe.op = .extract (.tmp t) 1) (h : sl a t = .tuple #[u, x]) : ∃ v, (execOp a.eval oe).run P w = .ok (.value v) w :=
  ⟨x, by unfold execOp; rw [hop]; simp only [eval_tmp, h]; rfl⟩
end Go.By
namespace Go.Proofs.YtbfmdfbnhakolaaGreatDoor
open Go.RowKit Go.By
theorem info_vrow : (Tryz.prog.info? 46).map (fun i => (i.zero, i.size, i.bytes)) = some (some (.agg #[.slice none 0 0, .slice none 0 0]), 2, 48) := by kernel_rfl
/-- the rows kept of the first k -/
def kF (wd : Nat) (cells : List UInt8) (k : Nat) : List Rw := ((List.range k).map (rowF wd cells)).foldl (fun K r => keepF K (r, [])) []
theorem kF_succ (wd : Nat) (cells : List UInt8) (k : Nat) : kF wd cells (k + 1) = keepF (kF wd cells k) (rowF wd cells k, []) := by
  unfold kF; rw [List.range_succ, List.map_append, List.foldl_append]; rfl
theorem keepF_len (K : List Rw) (x : Rw) : (keepF K x).length ≤ K.length + 1 := by unfold keepF; split <;> simp
theorem kF_len (wd : Nat) (cells : List UInt8) : ∀ k, (kF wd cells k).length ≤ k
  | 0 => by simp [kF]
  | k + 1 => by rw [kF_succ]; exact Nat.le_trans (keepF_len _ _) (Nat.succ_le_succ (kF_len wd cells k))
theorem rowF_len {h wd i : Nat} {cells : List UInt8} (hl : cells.length = h * wd) (hi : i < h) : (rowF wd cells i).length = wd := by
  have : (i + 1) * wd ≤ h * wd := Nat.mul_le_mul_right _ hi
  rw [Nat.add_mul, Nat.one_mul] at this
  unfold rowF; rw [List.length_take, List.length_drop]; omega
theorem kF_kept {h wd : Nat} {cells : List UInt8} (hl : cells.length = h * wd) : ∀ k, k ≤ h → Kept wd 0 (kF wd cells k)
  | 0, _ => Kept.nil wd 0
  | k + 1, hk => by rw [kF_succ]; exact (kF_kept hl k (by omega)).step ⟨rowF_len hl (by omega), rfl⟩
theorem restF_snoc (K : List Rw) (k x : Rw) : restF (K ++ [k]) x = lessF (restF K x) (atS (restF K x).1 (leadS k.1)) k := by unfold restF; rw [List.foldl_append]; rfl
theorem restF_take {K : List Rw} {j : Nat} {k x : Rw} (h : K[j]? = some k) : restF (K.take (j + 1)) x = lessF (restF (K.take j) x) (atS (restF (K.take j) x).1 (leadS k.1)) k := by
  have e : K.take (j + 1) = K.take j ++ [k] := by
    rw [List.take_add_one, h]; rfl
  rw [e, restF_snoc]
theorem lessS_fit {n t : Nat} {x k : Rw} {c : UInt8} (hx : Fit n t x) (hk : Fit n t k) : lessS x c k = (lessF x c k, 0) := by
  unfold lessS lessF
  rw [if_pos ⟨by rw [hx.1, hk.1], by rw [hx.2, hk.2]⟩]
end Go.Proofs.YtbfmdfbnhakolaaGreatDoor
namespace Go.By
open Go.RowKit
/-- a slice of rows, as it reads -/
structure RwS (w : World) (p : Option Addr) (n c : Nat) (K : List (List UInt8 × List UInt8)) : Prop where
  len : K.length = n
  le : n ≤ c
  max : c ≤ maxLen
  nil : p = none → n = 0 ∧ c = 0
  row : ∀ (j : Nat) (k : List UInt8 × List UInt8), K[j]? = some k → ∃ b o q1 m1 c1 q2 m2 c2, p = some ⟨b, o, none⟩ ∧ w.cell? ⟨b, o + j * 2, none⟩ = some (.slice q1 m1 c1) ∧ w.cell? ⟨b, o + j * 2 + 1, none⟩ = some (.slice q2 m2 c2) ∧ Sl B8 w q1 m1 c1 k.1 ∧ Sl B8 w q2 m2 c2 k.2
theorem RwS.keep {w w' : World} {p : Option Addr} {n c : Nat} {K : List (List UInt8 × List UInt8)} (h : RwS w p n c K) (hb : Below w.heap.size w w') : RwS w' p n c K :=
  ⟨h.len, h.le, h.max, h.nil, fun j k hj => by
    obtain ⟨b, o, q1, m1, c1, q2, m2, c2, e, h1, h2, h3, h4⟩ := h.row j k hj
    exact ⟨b, o, q1, m1, c1, q2, m2, c2, e, (hb.cell (p := ⟨b, o + j * 2, none⟩) (lt_of_cell h1)).trans h1, (hb.cell (p := ⟨b, o + j * 2 + 1, none⟩) (lt_of_cell h2)).trans h2, h3.keep hb, h4.keep hb⟩⟩
theorem RwS.nil0 (w : World) : RwS w none 0 0 [] := ⟨rfl, Nat.le_refl _, by simp [maxLen], fun _ => ⟨rfl, rfl⟩, fun j k h => by simp at h⟩
theorem Sl.set2 {α : Type} {enc : α → Value} {w : World} {p : Option Addr} {n c g o : Nat} {v : Value} {xs : List α} (h : Sl enc w p n c xs) (hne : 0 < n → ∀ a, p = some a → a.block ≠ g) : Sl enc (w.setCell ⟨g, o, none⟩ v) p n c xs := by
  rcases Nat.eq_zero_or_pos n with h0 | h0
  · have hx : xs = [] := List.length_eq_zero_iff.1 (by rw [h.len, h0])
    subst hx
    exact ⟨h.len, h.le, h.max, h.nil, Rs.nil⟩
  · exact h.set (hne h0)
end Go.By
namespace Go.Proofs.YtbfmdfbnhakolaaGreatDoor
open Go.RowKit Go.By
set_option maxRecDepth 100000 in
set_option maxHeartbeats 4000000 in
theorem Rest_any (wd t : Nat) (pk : Option Addr) (nk ck : Nat) (K : List Rw) (p1 p2 : Option Addr) (n1 c1 n2 c2 : Nat) (x : Rw) (w : World) (hK : RwS w pk nk ck K) (s1 : Sl B8 w p1 n1 c1 x.1) (s2 : Sl B8 w p2 n2 c2 x.2)
    (hfit : ∀ k, k ∈ K → Fit wd t k ∧ Led k) (hx : Fit wd t x) (hr1 : Room wd) (hr2 : Room t) (hnk : nk ≤ 65536) :
    Calls Tryz.prog 51 #[.slice pk nk ck, .agg #[.slice p1 n1 c1, .slice p2 n2 c2]] w (RetS w (restF K x)) := by
  have hinfo := info_ref
  have HK := Lib.hid hK; have HFIT := Lib.hid hfit; have HX := Lib.hid hx; have HR1 := Lib.hid hr1; have HR2 := Lib.hid hr2; have HLEN := Lib.hid hK.len
  have S1 := Lib.hid s1; have S2 := Lib.hid s2
  have a1 : Hid (0 < n1 → ∀ a, p1 = some a → a.block ≠ w.heap.size ∧ a.block ≠ w.heap.size + 1) := fun h0 a ha => by
    obtain ⟨b, o, hp, hb⟩ := s1.rs.lt (by rw [s1.len]; exact h0)
    rw [hp] at ha; cases ha; show b ≠ _ ∧ b ≠ _; omega
  have a2 : Hid (0 < n2 → ∀ a, p2 = some a → a.block ≠ w.heap.size ∧ a.block ≠ w.heap.size + 1) := fun h0 a ha => by
    obtain ⟨b, o, hp, hb⟩ := s2.rs.lt (by rw [s2.len]; exact h0)
    rw [hp] at ha; cases ha; show b ≠ _ ∧ b ≠ _; omega
  have HB0 : Hid (∀ o1 o2, Below w.heap.size w ((w.alloc o1).alloc o2)) := fun o1 o2 => al (al (Below.refl _ _) (Nat.le_refl _)) (by simp)
  clear hK hfit hx hr1 hr2 s1 s2
  go_enter Tryz.func51, Tryz.ntmps51
  go_wp2
  go_loopw [10] (fun i wq => ∃ (j : Nat) (q1 : Option Addr) (m1 g1 : Nat) (q2 : Option Addr) (m2 g2 : Nat), j ≤ nk ∧ i = .int .i64 j ∧ Hid (wq.heap[w.heap.size]? = some (.cells #[.slice q1 m1 g1, .slice q2 m2 g2] 50 (0, 0))) ∧
    Hid (Sl B8 wq q1 m1 g1 (restF (K.take j) x).1) ∧ Hid (Sl B8 wq q2 m2 g2 (restF (K.take j) x).2) ∧ Hid (0 < m1 → ∀ a, q1 = some a → a.block ≠ w.heap.size ∧ a.block ≠ w.heap.size + 1) ∧ Hid (0 < m2 → ∀ a, q2 = some a → a.block ≠ w.heap.size ∧ a.block ≠ w.heap.size + 1) ∧
    Hid (Below w.heap.size w wq) ∧ Hid (wq.heap[w.heap.size + 1]? = some (.cells #[.slice none 0 0, .slice none 0 0] 50 (0, 0)))) (fun i _ => nk - (intOf i).toNat)
  case atStart => exact ⟨0, p1, n1, c1, p2, n2, c2, Nat.zero_le _, rfl, hal (hnew rfl), S1.out.keep (HB0.out _ _), S2.out.keep (HB0.out _ _), a1.out, a2.out, HB0.out _ _, hnew (by simp)⟩
  case round =>
    clear S1 S2 a1 a2
    obtain ⟨j, q1, m1, g1, q2, m2, g2, hj, rfl, hL, hS1, hS2, hA1, hA2, hBw, hZ⟩ := hrel
    by_cases hjl : j < nk
    · obtain ⟨kk, hkk⟩ : ∃ kk, K[j]? = some kk := ⟨_, List.getElem?_eq_getElem (by rw [HLEN.out]; exact hjl)⟩
      obtain ⟨bk, ok, a1, b1, d1, a2, b2, d2, rfl, e1, e2, t1, t2⟩ := HK.out.row j kk hkk
      have E1 := (hBw.out.cell (p := ⟨bk, ok + j * 2, none⟩) (lt_of_cell e1)).trans e1
      have E2 := (hBw.out.cell (p := ⟨bk, ok + j * 2 + 1, none⟩) (lt_of_cell e2)).trans e2
      have T1 := Lib.hid (t1.keep hBw.out); have T2 := Lib.hid (t2.keep hBw.out)
      have HKK := Lib.hid hkk
      have jn : (j : Int) < (nk : Int) := by omega
      have fk := HFIT.out kk (List.mem_of_getElem? hkk)
      obtain ⟨XJ, hXJ⟩ : ∃ XJ, XJ = restF (K.take j) x := ⟨_, rfl⟩
      have fitX : Fit wd t XJ := by rw [hXJ]; exact HX.out.rest (fun a ha => (HFIT.out a (List.mem_of_mem_take ha)).1)
      rw [← hXJ] at hS1 hS2
      obtain ⟨l, hl⟩ : ∃ l, l = leadN kk := ⟨_, rfl⟩
      have hLJ : leadS kk.1 = (l : Int) := by rw [hl]; exact fk.2.at.1
      have hlw : l < wd := by rw [hl]; exact fk.2.at.lt fk.1
      have lm1 : m1 = wd := by have := hS1.out.len; rw [fitX.1] at this; exact this.symm
      have lm2 : m2 = t := by have := hS2.out.len; rw [fitX.2] at this; exact this.symm
      have lb1 : b1 = wd := by have := t1.len; rw [fk.1.1] at this; exact this.symm
      have lb2 : b2 = t := by have := t2.len; rw [fk.1.2] at this; exact this.symm
      subst lm1
      obtain ⟨bx, ox, c, rfl, hcx, hxx⟩ := hS1.out.at l hlw
      have hcA : atS XJ.1 (leadS kk.1) = c := by rw [hLJ]; exact at_of hxx.out
      obtain ⟨YJ, hYJ⟩ : ∃ YJ, YJ = lessF XJ c kk := ⟨_, rfl⟩
      have hnext : Hid (restF (K.take (j + 1)) x = YJ) := by show _ = _; rw [restF_take hkk, ← hXJ, hYJ, hcA]
      have HLD : Hid (∀ W, Sl B8 W a1 b1 d1 kk.1 → Calls Tryz.prog 52 #[.slice a1 b1 d1] W fun e w' => e = .returned (.int .i64 (l : Nat)) ∧ W = w') := fun W h => by have := RLead_any _ _ _ _ W h; rwa [hLJ] at this
      have HLS : Hid (∀ W, Sl B8 W (some ⟨bx, ox, none⟩) m1 g1 XJ.1 → Sl B8 W q2 m2 g2 XJ.2 → Sl B8 W a1 b1 d1 kk.1 → Sl B8 W a2 b2 d2 kk.2 → Calls Tryz.prog 76 #[.agg #[.slice (some ⟨bx, ox, none⟩) m1 g1, .slice q2 m2 g2], B8 c, .agg #[.slice a1 b1 d1, .slice a2 b2 d2]] W (RetR2 5 W YJ 0)) := fun W h1 h2 h3 h4 => by
        have := RLess_any (some ⟨bx, ox, none⟩) q2 a1 a2 m1 g1 m2 g2 b1 d1 b2 d2 XJ.1 XJ.2 kk.1 kk.2 c W h1 h2 h3 h4 HR1.out (by rw [lm2]; exact HR2.out) (by rw [lb1]; exact HR1.out) (by rw [lb2]; exact HR2.out)
        rw [lessS_fit (n := m1) (t := t) (x := XJ) (k := kk) fitX fk.1, ← hYJ] at this
        exact this
      have hl1 := blk_lt hL.out; have hl2 := blk_lt hZ.out
      have hNX : Hid (∀ (w9 : World) (q5 : Option Addr) (m5 g5 : Nat) (q6 : Option Addr) (m6 g6 : Nat), Below wr.heap.size wr w9 → Sl B8 w9 q5 m5 g5 YJ.1 → Sl B8 w9 q6 m6 g6 YJ.2 → (∀ a, q5 = some a → wr.heap.size ≤ a.block) → (∀ a, q6 = some a → wr.heap.size ≤ a.block) →
          ((w9.setCell ⟨w.heap.size, 0, none⟩ (.slice q5 m5 g5)).setCell ⟨w.heap.size, 1, none⟩ (.slice q6 m6 g6)).heap[w.heap.size]? = some (.cells #[.slice q5 m5 g5, .slice q6 m6 g6] 50 (0, 0)) ∧
          Sl B8 ((w9.setCell ⟨w.heap.size, 0, none⟩ (.slice q5 m5 g5)).setCell ⟨w.heap.size, 1, none⟩ (.slice q6 m6 g6)) q5 m5 g5 (restF (K.take (j + 1)) x).1 ∧
          Sl B8 ((w9.setCell ⟨w.heap.size, 0, none⟩ (.slice q5 m5 g5)).setCell ⟨w.heap.size, 1, none⟩ (.slice q6 m6 g6)) q6 m6 g6 (restF (K.take (j + 1)) x).2 ∧
          (0 < m5 → ∀ a, q5 = some a → a.block ≠ w.heap.size ∧ a.block ≠ w.heap.size + 1) ∧ (0 < m6 → ∀ a, q6 = some a → a.block ≠ w.heap.size ∧ a.block ≠ w.heap.size + 1) ∧
          Below w.heap.size w ((w9.setCell ⟨w.heap.size, 0, none⟩ (.slice q5 m5 g5)).setCell ⟨w.heap.size, 1, none⟩ (.slice q6 m6 g6)) ∧
          ((w9.setCell ⟨w.heap.size, 0, none⟩ (.slice q5 m5 g5)).setCell ⟨w.heap.size, 1, none⟩ (.slice q6 m6 g6)).heap[w.heap.size + 1]? = some (.cells #[.slice none 0 0, .slice none 0 0] 50 (0, 0))) := by
        intro w9 q5 m5 g5 q6 m6 g6 b9 s5 s6 s7 s8
        have L9 := (b9.block _ hl1).trans hL.out
        have Z9 := (b9.block _ hl2).trans hZ.out
        rw [hnext.out]
        have ne5 : ∀ a, q5 = some a → a.block ≠ w.heap.size := fun a ha => by have := s7 a ha; omega
        have ne6 : ∀ a, q6 = some a → a.block ≠ w.heap.size := fun a ha => by have := s8 a ha; omega
        exact ⟨hss (hss L9), (s5.set ne5).set ne5, (s6.set ne6).set ne6, fun _ a ha => ⟨ne5 a ha, by have := s7 a ha; omega⟩, fun _ a ha => ⟨ne6 a ha, by have := s8 a ha; omega⟩, ((bl hBw.out b9 hBw.out.size).setCell (Nat.le_refl _) _).setCell (Nat.le_refl _) _, hsc (hsc Z9 (by show w.heap.size + 1 ≠ w.heap.size; omega)) (by show w.heap.size + 1 ≠ w.heap.size; omega)⟩
      have HCX := Lib.hid hcx
      have AL : Hid (Below wr.heap.size wr (wr.alloc (.cells #[.slice a1 b1 d1, .slice a2 b2 d2] 50))) := al (Below.refl _ _) (Nat.le_refl _)
      have lw : (l : Int) < (m1 : Int) := by omega
      clear hXJ hYJ fitX fk hkk e1 e2 t1 t2 hl hLJ hcA hxx hcx lm2 lb1 lb2 hl1 hl2
      go_wp2_with fail
      refine Calls.mono (HLD.out _ (T1.out.keep AL.out)) ?_
      rintro e w' ⟨rfl, rfl⟩
      have z0 : (wr.alloc (.cells #[.slice a1 b1 d1, .slice a2 b2 d2] 50)).cell? ⟨wr.heap.size, 0, none⟩ = some (.slice a1 b1 d1) := cell_of_row _ _ 0 _ _ _ (hnew rfl)
      have z1 : (wr.alloc (.cells #[.slice a1 b1 d1, .slice a2 b2 d2] 50)).cell? ⟨wr.heap.size, 1, none⟩ = some (.slice a2 b2 d2) := cell_of_row _ _ 1 _ _ _ (hnew rfl)
      obtain ⟨y0, y1⟩ := cells2 (hal (o := .cells #[.slice a1 b1 d1, .slice a2 b2 d2] 50) hL.out)
      have cl : (wr.alloc (.cells #[.slice a1 b1 d1, .slice a2 b2 d2] 50)).cell? ⟨bx, ox + l, none⟩ = some (B8 c) := (AL.out.cell (p := ⟨bx, ox + l, none⟩) (lt_of_cell HCX.out)).trans HCX.out
      clear E1 E2
      go_wp2
      refine wp_region_late (fun ix => ([.val (.agg #[.slice (some ⟨bx, ox, none⟩) m1 g1, .slice q2 m2 g2]), .val (.pointer (some ⟨w.heap.size, 0, none⟩)), .val (.slice (some ⟨bx, ox, none⟩) m1 g1), .val (.int .i64 (l : Nat)), .val (.pointer (some ⟨bx, ox + l, none⟩)), .val (B8 c), .val (.agg #[.slice a1 b1 d1, .slice a2 b2 d2]), .rowTN (wr.heap.size) (YJ) (0), .rowTN (wr.heap.size) (YJ) (0), .rowN (wr.heap.size) (YJ), .val (.int .i64 0), .any][ix]?).getD (.any)) 30 11 10 17 27 rfl (by kernel_rfl) (by decide) (by decide) (by decide) _ rfl rfl rfl (by decide) (fun a u x w h => run_extract1 _ rfl h) (by decide) ?_ ?_
      · refine ⟨?_, ?_, ?_, ?_, ?_, ?_, ?_, ?_, ?_, ?_, ?_, trivial⟩
        · intro a W hb0 hs hp hi; have hb := undrew hb0; clear hb0
          have tt : sl a 3 = .pointer (some ⟨w.heap.size, 0, none⟩) := hi 3 (by decide)
          have dd0 := (hb.cell (p := ⟨w.heap.size, 0, none⟩) (lt_of_cell y0)).trans y0
          have dd1 := (hb.cell (p := ⟨w.heap.size, 1, none⟩) (lt_of_cell y1)).trans y1
          refine ite_y rfl (wp_val (.agg #[.slice (some ⟨bx, ox, none⟩) m1 g1, .slice q2 m2 g2]) ?_ ?_)
          · simp only [execOp, eval_tmp, tt]; simp [go_sem, dd0, dd1]
          · exact ⟨_, rfl, Below.refl _ _, rfl⟩
        · intro a W hb0 hs hp hi; have hb := undrew hb0; clear hb0
          have t3 : sl a 3 = .pointer (some ⟨w.heap.size, 0, none⟩) := hi 3 (by decide)
          refine ite_y rfl (wp_val (.pointer (some ⟨w.heap.size, 0, none⟩)) ?_ ?_)
          · simp only [execOp, eval_tmp, eval_const, t3]; simp [go_sem]
          · exact ⟨_, rfl, Below.refl _ _, rfl⟩
        · intro a W hb0 hs hp hi; have hb := undrew hb0; clear hb0
          have tt : sl a 19 = .pointer (some ⟨w.heap.size, 0, none⟩) := hp 1 (by decide)
          have dd0 := (hb.cell (p := ⟨w.heap.size, 0, none⟩) (lt_of_cell y0)).trans y0
          refine ite_y rfl (wp_val (.slice (some ⟨bx, ox, none⟩) m1 g1) ?_ ?_)
          · simp only [execOp, eval_tmp, tt]; simp [go_sem, dd0]
          · exact ⟨_, rfl, Below.refl _ _, rfl⟩
        · intro a W hb0 hs hp hi; have hb := undrew hb0; clear hb0
          have t7 : sl a 7 = .int .i64 (l : Nat) := hi 7 (by decide)
          exact ite_y rfl (wp_val (sl a 7) rfl ⟨_, rfl, Below.refl _ _, t7⟩)
        · intro a W hb0 hs hp hi; have hb := undrew hb0; clear hb0
          have ti0 : sl a 20 = .slice (some ⟨bx, ox, none⟩) m1 g1 := hp 2 (by decide)
          have ti1 : sl a 21 = .int .i64 (l : Nat) := hp 3 (by decide)
          refine ite_y rfl (wp_val (.pointer (some ⟨bx, ox + l, none⟩)) ?_ ?_)
          · simp only [execOp, eval_tmp, eval_const, ti0, ti1]; simp [go_sem, lw, hlw]
          · exact ⟨_, rfl, Below.refl _ _, rfl⟩
        · intro a W hb0 hs hp hi; have hb := undrew hb0; clear hb0
          have tt : sl a 22 = .pointer (some ⟨bx, ox + l, none⟩) := hp 4 (by decide)
          have dd0 := (hb.cell (p := ⟨bx, ox + l, none⟩) (lt_of_cell cl)).trans cl
          refine ite_y rfl (wp_val (B8 c) ?_ ?_)
          · simp only [execOp, eval_tmp, tt]; simp [go_sem, dd0]
          · exact ⟨_, rfl, Below.refl _ _, rfl⟩
        · intro a W hb0 hs hp hi; have hb := undrew hb0; clear hb0
          have tt : sl a 6 = .pointer (some ⟨wr.heap.size, 0, none⟩) := hi 6 (by decide)
          have dd0 := (hb.cell (p := ⟨wr.heap.size, 0, none⟩) (lt_of_cell z0)).trans z0
          have dd1 := (hb.cell (p := ⟨wr.heap.size, 1, none⟩) (lt_of_cell z1)).trans z1
          refine ite_y rfl (wp_val (.agg #[.slice a1 b1 d1, .slice a2 b2 d2]) ?_ ?_)
          · simp only [execOp, eval_tmp, tt]; simp [go_sem, dd0, dd1]
          · exact ⟨_, rfl, Below.refl _ _, rfl⟩
        · intro a W hb0 hs hp hi; have hb := undrew hb0; clear hb0
          have t18 : sl a 18 = .agg #[.slice (some ⟨bx, ox, none⟩) m1 g1, .slice q2 m2 g2] := hp 0 (by decide)
          have t23 : sl a 23 = B8 c := hp 5 (by decide)
          have t24 : sl a 24 = .agg #[.slice a1 b1 d1, .slice a2 b2 d2] := hp 6 (by decide)
          refine ite_y rfl (wp_enter 76 #[.agg #[.slice (some ⟨bx, ox, none⟩) m1 g1, .slice q2 m2 g2], B8 c, .agg #[.slice a1 b1 d1, .slice a2 b2 d2]] ?_ (HLS.out _ (hS1.out.keep (AL.out.trans (hb.mono AL.out.size))) (hS2.out.keep (AL.out.trans (hb.mono AL.out.size))) (T1.out.keep (AL.out.trans (hb.mono AL.out.size))) (T2.out.keep (AL.out.trans (hb.mono AL.out.size)))) ?_)
          · simp only [execOp, resolve, List.map_toArray, List.map, eval_tmp, eval_func, eval_const, t18, t23, t24]; simp [go_sem]
          · rintro e W' ⟨q5, m5, g5, q6, m6, g6, e5, e6, rfl, o5, o6, hw⟩; have hbs := hb.size; simp at hbs; exact ⟨_, rfl, _, rfl, hw, _, rfl, q5, m5, g5, q6, m6, g6, rfl, Sl.of_owns o5, Sl.of_owns o6, fun a ha => Nat.le_trans (by omega) (owns_new o5 a ha).1, fun a ha => Nat.le_trans (by omega) (owns_new o6 a ha).1⟩
        · intro a W hb0 hs hp hi; have hb := undrew hb0; clear hb0
          have tt : RowTN (wr.heap.size) (YJ) (0) (sl a 25) W := hp 7 (by decide)
          exact ite_y rfl (wp_val (sl a 25) rfl ⟨_, rfl, Below.refl _ _, tt⟩)
        · intro a W hb0 hs hp hi; have hb := undrew hb0; clear hb0
          have tt : RowTN (wr.heap.size) (YJ) (0) (sl a 17) W := hp 8 (by decide)
          obtain ⟨u, tt, hr⟩ := tt
          exact ite_y rfl (wp_val u (by simp only [execOp, eval_tmp, tt]; rfl) ⟨_, rfl, Below.refl _ _, hr⟩)
        · intro a W hb0 hs hp hi; have hb := undrew hb0; clear hb0
          have tt : RowTN (wr.heap.size) (YJ) (0) (sl a 17) W := hp 8 (by decide)
          obtain ⟨u, tt, hr⟩ := tt
          exact ite_y rfl (wp_val (.int .i64 0) (by simp only [execOp, eval_tmp, tt]; rfl) ⟨_, rfl, Below.refl _ _, rfl⟩)
      · intro a w9 o ho hb hs hd hI ht
        simp at ho; subst ho
        have t3 : sl a 3 = .pointer (some ⟨w.heap.size, 0, none⟩) := ht 3 (by decide)
        have t17 : RowTN (wr.heap.size) (YJ) (0) (sl a 17) w9 := hI 8 (by decide) (by decide)
        have t26 : RowN (wr.heap.size) (YJ) (sl a 26) w9 := hI 9 (by decide) (by decide)
        obtain ⟨uu, t17, -⟩ := t17
        obtain ⟨q5, m5, g5, q6, m6, g6, t26, s5, s6, s7, s8⟩ := t26
        have b9 : Below wr.heap.size wr w9 := AL.out.trans (hb.mono AL.out.size)
        have L9 : w9.heap[w.heap.size]? = some (.cells #[.slice (some ⟨bx, ox, none⟩) m1 g1, .slice q2 m2 g2] 50 (0, 0)) := (b9.block _ (blk_lt hL.out)).trans hL.out
        obtain ⟨d0, d1'⟩ := cells2 L9
        have f0 : w9.frozen? ⟨w.heap.size, 0, none⟩ = false := frozen_of_row _ _ 0 _ _ L9
        have f1 : w9.frozen? ⟨w.heap.size, 1, none⟩ = false := frozen_of_row _ _ 1 _ _ L9
        refine ⟨⟨_, _, t17⟩, wp_skipX (w' := (w9.setCell ⟨w.heap.size, 0, none⟩ (.slice q5 m5 g5)).setCell ⟨w.heap.size, 1, none⟩ (.slice q6 m6 g6)) ?_ ⟨rfl, fun b hbs hbd hbt => ?_⟩⟩
        · simp only [execOp, eval_tmp, t26, t3]; simp [go_sem, d0, d1', f0, f1]
        have ha := act_is [18, 19, 20, 21, 22, 23, 24, 25, 17, 26, 27] hbs hbd (fun t h => (hbt t (fun e => by subst e; revert h; decide)).trans (ht t h)) (by decide)
        simp only [List.foldl] at ha
        generalize sl b 18 = u18 at ha
        generalize sl b 19 = u19 at ha
        generalize sl b 20 = u20 at ha
        generalize sl b 21 = u21 at ha
        generalize sl b 22 = u22 at ha
        generalize sl b 23 = u23 at ha
        generalize sl b 24 = u24 at ha
        generalize sl b 25 = u25 at ha
        generalize sl b 17 = u17 at ha
        generalize sl b 26 = u26 at ha
        generalize sl b 27 = u27 at ha
        simp only [Act.put, List.setIfInBounds_toArray, List.set_cons_zero, List.set_cons_succ] at ha
        rw [ha]; clear ha
        have NX := hNX.out w9 q5 m5 g5 q6 m6 g6 b9 s5 s6 s7 s8
        generalize (w9.setCell ⟨w.heap.size, 0, none⟩ (.slice q5 m5 g5)).setCell ⟨w.heap.size, 1, none⟩ (.slice q6 m6 g6) = wn at NX ⊢
        have NXH := Lib.hid NX
        clear NX s5 s6 s7 s8 hI ht hbt L9 d0 d1' f0 f1 b9 hb
        go_wp2
        go_roundw
        case rel => exact ⟨j + 1, q5, m5, g5, q6, m6, g6, by omega, by go_num, NXH.out.1, NXH.out.2.1, NXH.out.2.2.1, NXH.out.2.2.2.1, NXH.out.2.2.2.2.1, NXH.out.2.2.2.2.2.1, NXH.out.2.2.2.2.2.2⟩
        case measure => simp [intOf]; omega
    · have hjn : j = nk := by omega
      have hge : (nk : Int) ≤ (j : Int) := by omega
      rw [List.take_of_length_le (by rw [HLEN.out, hjn]; exact Nat.le_refl _)] at hS1 hS2
      obtain ⟨y0, y1⟩ := cells2 hL.out
      obtain ⟨f0, f1⟩ := cells2 hZ.out
      have z0 := frozen_of_row _ _ 0 _ _ hZ.out
      have z1 := frozen_of_row _ _ 1 _ _ hZ.out
      have hne1 : Hid (Sl B8 ((wr.setCell ⟨w.heap.size + 1, 0, none⟩ (.slice q1 m1 g1)).setCell ⟨w.heap.size + 1, 1, none⟩ (.slice q2 m2 g2)) q1 m1 g1 (restF K x).1) := (hS1.out.set2 (fun h a ha => (hA1.out h a ha).2)).set2 (fun h a ha => (hA1.out h a ha).2)
      have hne2 : Hid (Sl B8 ((wr.setCell ⟨w.heap.size + 1, 0, none⟩ (.slice q1 m1 g1)).setCell ⟨w.heap.size + 1, 1, none⟩ (.slice q2 m2 g2)) q2 m2 g2 (restF K x).2) := (hS2.out.set2 (fun h a ha => (hA2.out h a ha).2)).set2 (fun h a ha => (hA2.out h a ha).2)
      clear hjn hS1 hS2 hA1 hA2 hL
      go_wp2
      refine bodyPost_ret (results_cell_row rfl _ _ _ 50 #[.slice q1 m1 g1, .slice q2 m2 g2] (0, 0) _ rfl (hss (hss hZ.out)) Tryz.underlying50 rfl hinfo) rfl ⟨q1, m1, g1, q2, m2, g2, rfl, hne1.out, hne2.out, (hBw.out.setCell (by simp) _).setCell (by simp) _⟩
end Go.Proofs.YtbfmdfbnhakolaaGreatDoor
namespace Go.By
open Go.RowKit
/-- the values of rows -/
def RwP (w : World) (u : Value × Value) (k : List UInt8 × List UInt8) : Prop := ∃ q1 m1 c1 q2 m2 c2, u = (.slice q1 m1 c1, .slice q2 m2 c2) ∧ Sl B8 w q1 m1 c1 k.1 ∧ Sl B8 w q2 m2 c2 k.2
theorem RwP.keep {w w' : World} {u : Value × Value} {k : List UInt8 × List UInt8} (h : RwP w u k) (hb : Below w.heap.size w w') : RwP w' u k := by
  obtain ⟨q1, m1, c1, q2, m2, c2, e, h1, h2⟩ := h; exact ⟨q1, m1, c1, q2, m2, c2, e, h1.keep hb, h2.keep hb⟩
/-- a slice of rows as the values of its cells -/
structure RwV (w : World) (p : Option Addr) (n c : Nat) (vs : List (Value × Value)) : Prop where
  len : vs.length = n
  le : n ≤ c
  max : c ≤ maxLen
  nil : p = none → n = 0 ∧ c = 0
  cell : ∀ (j : Nat) (u : Value), (fl2 vs)[j]? = some u → ∃ b o, p = some ⟨b, o, none⟩ ∧ w.cell? ⟨b, o + j, none⟩ = some u
  one : ∀ u, u ∈ fl2 vs → u.oneCell' = true
theorem RwS.vals {w : World} {p : Option Addr} {n c : Nat} {K : List (List UInt8 × List UInt8)} (h : RwS w p n c K) : ∃ vs, RwV w p n c vs ∧ ∀ (j : Nat) (u : Value × Value), vs[j]? = some u → ∃ k, K[j]? = some k ∧ RwP w u k := by
  have each : ∀ j, j < n → ∃ (u : Value × Value), ∃ b o, p = some ⟨b, o, none⟩ ∧ w.cell? ⟨b, o + j * 2, none⟩ = some u.1 ∧ w.cell? ⟨b, o + j * 2 + 1, none⟩ = some u.2 ∧ (∃ k, K[j]? = some k ∧ RwP w u k) ∧ u.1.oneCell' = true ∧ u.2.oneCell' = true := by
    intro j hj
    obtain ⟨k, hk⟩ : ∃ k, K[j]? = some k := ⟨_, List.getElem?_eq_getElem (by rw [h.len]; exact hj)⟩
    obtain ⟨b, o, q1, m1, c1, q2, m2, c2, e, h1, h2, h3, h4⟩ := h.row j k hk
    exact ⟨(.slice q1 m1 c1, .slice q2 m2 c2), b, o, e, h1, h2, ⟨k, hk, q1, m1, c1, q2, m2, c2, rfl, h3, h4⟩, rfl, rfl⟩
  obtain ⟨f, hf⟩ : ∃ f : Nat → Value × Value, ∀ j, j < n → ∃ b o, p = some ⟨b, o, none⟩ ∧ w.cell? ⟨b, o + j * 2, none⟩ = some (f j).1 ∧ w.cell? ⟨b, o + j * 2 + 1, none⟩ = some (f j).2 ∧ (∃ k, K[j]? = some k ∧ RwP w (f j) k) ∧ (f j).1.oneCell' = true ∧ (f j).2.oneCell' = true :=
    ⟨fun j => if hj : j < n then Classical.choose (each j hj) else (undef, undef), fun j hj => by simp only [dif_pos hj]; exact Classical.choose_spec (each j hj)⟩
  have hat : ∀ (j : Nat) (u : Value × Value), ((List.range n).map f)[j]? = some u → j < n ∧ u = f j := by
    intro j u hj
    have hj' := (List.getElem?_eq_some_iff.1 hj).1
    simp at hj'
    rw [List.getElem?_map, List.getElem?_range hj'] at hj
    exact ⟨hj', by simpa using hj.symm⟩
  refine ⟨(List.range n).map f, ⟨by simp, h.le, h.max, h.nil, ?_, ?_⟩, ?_⟩
  · intro i u hi
    have hlen := (List.getElem?_eq_some_iff.1 hi).1
    rw [fl2_length] at hlen
    have hj : i / 2 < n := by simp at hlen; omega
    obtain ⟨b, o, e, h1, h2, _⟩ := hf (i / 2) hj
    have hv : ((List.range n).map f)[i / 2]? = some (f (i / 2)) := by rw [List.getElem?_map, List.getElem?_range hj]; rfl
    obtain ⟨g1, g2⟩ := fl2_at hv
    refine ⟨b, o, e, ?_⟩
    rcases Nat.mod_two_eq_zero_or_one i with hm | hm
    · have : i / 2 * 2 = i := by omega
      rw [this] at g1 h1
      rw [g1] at hi; rw [h1, ← hi]
    · have : i / 2 * 2 + 1 = i := by omega
      rw [this] at g2
      rw [g2] at hi
      rw [show o + i = o + i / 2 * 2 + 1 by omega, h2, ← hi]
  · intro u hu
    obtain ⟨i, hi, rfl⟩ := List.getElem_of_mem hu
    rw [fl2_length] at hi
    have hj : i / 2 < n := by simp at hi; omega
    obtain ⟨b, o, e, _, _, _, o1, o2⟩ := hf (i / 2) hj
    have hv : ((List.range n).map f)[i / 2]? = some (f (i / 2)) := by rw [List.getElem?_map, List.getElem?_range hj]; rfl
    obtain ⟨g1, g2⟩ := fl2_at hv
    rcases Nat.mod_two_eq_zero_or_one i with hm | hm
    · have : i / 2 * 2 = i := by omega
      rw [this] at g1
      have : (fl2 ((List.range n).map f))[i] = (f (i / 2)).1 := by
        rw [List.getElem?_eq_getElem (by rw [fl2_length]; exact hi)] at g1; injection g1
      rw [this]; exact o1
    · have : i / 2 * 2 + 1 = i := by omega
      rw [this] at g2
      have : (fl2 ((List.range n).map f))[i] = (f (i / 2)).2 := by
        rw [List.getElem?_eq_getElem (by rw [fl2_length]; exact hi)] at g2; injection g2
      rw [this]; exact o2
  · intro j u hj
    obtain ⟨hjn, rfl⟩ := hat j u hj
    obtain ⟨b, o, _, _, _, hk, _⟩ := hf j hjn
    exact hk
theorem RwV.keep {w w' : World} {p : Option Addr} {n c : Nat} {vs : List (Value × Value)} (h : RwV w p n c vs) (hb : Below w.heap.size w w') : RwV w' p n c vs :=
  ⟨h.len, h.le, h.max, h.nil, fun j u hj => by
    obtain ⟨b, o, e, h1⟩ := h.cell j u hj
    exact ⟨b, o, e, (hb.cell (p := ⟨b, o + j, none⟩) (lt_of_cell h1)).trans h1⟩, h.one⟩
theorem wpList_append_two {P : Program} (w : World) {ops : Array Oper} {rest : List Oper} {o : Oper} {a : Act} {Q : Exit → Act → World → Prop} (hgd : o.guard = none) (s x : Operand) (t : TypeId)
    (ho : o.op = .call { callee := .builtin .append, args := #[s, x], argTypes := #[t, t] })
    (base : Nat) (e : TypeId) (i : TypeInfo) (z : Value) (bytes : Nat) (ht : P.underlying t = some (.slice e)) (hi : P.info? e = some i) (hz : i.zero = some z)
    (hsize : i.size = 2) (hby : i.bytes = bytes) (hzs : z.cells.size = 2)
    (v : Value) (n : Nat) (ys : List Value) (hs : a.eval s = v) (hown : w.ownsRow base e 2 v n ys)
    (p : Option Addr) (m c : Nat) (us : List (Value × Value)) (hx : a.eval x = .slice p m c) (hrs : RwV w p m c us)
    (h63 : n + m ≤ maxLen) (hbytes : (n + m) * bytes ≤ 140737488355328) (hbase : base ≤ w.heap.size)
    (h : ∀ v' w', w'.ownsRow base e 2 v' (n + m) (ys ++ fl2 us) → w.grownBy w' v.ownBlock → wpList P ops Q rest (a.put o.dst v') w') : wpList P ops Q (o :: rest) a w := by
  cases p with
  | none =>
    obtain ⟨rfl, rfl⟩ := hrs.nil rfl
    have : us = [] := List.eq_nil_of_length_eq_zero hrs.len
    subst this
    refine wpList_append_own_none hgd s x t ho base e i 2 ht hi v n ys hs hown hx (h v w (by simpa [fl2] using hown) (World.grownBy.refl _ _))
  | some ad =>
    refine wpList_append_own w hgd s x t ho base e i z 2 bytes ht hi hz hsize hby hzs (by omega) v n ys hs hown ad m c (fl2 us) hx (by rw [fl2_length, hrs.len]) ?_ hrs.one h63 hbytes hbase (fun v' w' h1 h2 _ => h v' w' h1 h2)
    intro j u hj
    obtain ⟨b, o', e', hc⟩ := hrs.cell j u hj
    cases e'
    rw [Addr.add_lit]; exact hc
end Go.By
