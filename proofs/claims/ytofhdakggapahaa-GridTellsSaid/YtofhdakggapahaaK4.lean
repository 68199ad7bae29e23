/- Rows kept one by one, as the grid's rank and the document's keep them: as many as the rank says. -/
import Derived.Test.YtofhdakggapahaaM2
import Derived.Test.YtofhdakggapahaaK2
namespace Go.Proofs.Ytofhdakggapahaa
open Go.By Gf
abbrev Rw := List UInt8 × List UInt8
def vf (xs : List UInt8) : V := fun j => xs.getD j 0
def cat (r : Rw) : List UInt8 := r.1 ++ r.2
def Fit (n t : Nat) (r : Rw) : Prop := r.1.length = n ∧ r.2.length = t
def lessF (x : Rw) (c : UInt8) (o : Rw) : Rw := (axpy c o.1 x.1, axpy c o.2 x.2)
def restF (K : List Rw) (x : Rw) : Rw := K.foldl (fun x k => lessF x (atS x.1 (leadS k.1)) k) x
theorem vf_axpy {c : UInt8} {xs ys : List UInt8} (h : xs.length = ys.length) : vf (axpy c xs ys) = fun j => vf ys j ^^^ gmul c (vf xs j) := by
  funext j
  unfold vf axpy
  simp only [List.getD_eq_getElem?_getD, List.getElem?_zipWith]
  by_cases hj : j < xs.length
  · rw [List.getElem?_eq_getElem hj, List.getElem?_eq_getElem (by omega : j < ys.length)]; rfl
  · rw [List.getElem?_eq_none (by omega), List.getElem?_eq_none (by omega)]; simp [gmul_zero, xor_zero]
theorem vf_scale (c : UInt8) (xs : List UInt8) : vf (xs.map (gmul c)) = fun j => gmul c (vf xs j) := by
  funext j
  unfold vf
  simp only [List.getD_eq_getElem?_getD, List.getElem?_map]
  cases xs[j]? <;> simp [gmul_zero]
theorem vf_wide (xs : List UInt8) : Wide xs.length (vf xs) := fun j hj => by unfold vf; rw [List.getD_eq_getElem?_getD, List.getElem?_eq_none hj]; rfl
theorem vf_inj {xs ys : List UInt8} (h : xs.length = ys.length) (e : ∀ j, j < xs.length → vf xs j = vf ys j) : xs = ys := by
  apply List.ext_getElem h
  intro i h1 h2
  have := e i h1
  simpa [vf, List.getD_eq_getElem?_getD, h1, h2] using this
theorem vf_app_left {xs ys : List UInt8} {j : Nat} (h : j < xs.length) : vf (xs ++ ys) j = vf xs j := by
  unfold vf; rw [List.getD_eq_getElem?_getD, List.getElem?_append_left h, List.getD_eq_getElem?_getD]
theorem axpy_append (c : UInt8) : ∀ (xs ys us vs : List UInt8), xs.length = us.length → axpy c (xs ++ ys) (us ++ vs) = axpy c xs us ++ axpy c ys vs := by
  intro xs ys us vs h
  unfold axpy
  exact List.zipWith_append h
theorem cat_less {n t : Nat} {x o : Rw} (c : UInt8) (hx : Fit n t x) (ho : Fit n t o) : cat (lessF x c o) = axpy c (cat o) (cat x) := by
  unfold cat lessF
  rw [axpy_append]
  rw [ho.1, hx.1]
theorem Fit.less {n t : Nat} {x o : Rw} {c : UInt8} (hx : Fit n t x) (ho : Fit n t o) : Fit n t (lessF x c o) := by
  unfold Fit lessF
  exact ⟨by rw [axpy_length _ _ _ (by rw [ho.1, hx.1])]; exact hx.1, by rw [axpy_length _ _ _ (by rw [ho.2, hx.2])]; exact hx.2⟩
theorem Fit.rest {n t : Nat} : ∀ {K : List Rw} {x : Rw}, (∀ k, k ∈ K → Fit n t k) → Fit n t x → Fit n t (restF K x)
  | [], x, _, hx => hx
  | k :: K, x, hK, hx => Fit.rest (K := K) (fun a ha => hK a (by simp [ha])) (hx.less (hK k (by simp)))
theorem Fit.cat {n t : Nat} {x : Rw} (h : Fit n t x) : (cat x).length = n + t := by unfold Go.Proofs.Ytofhdakggapahaa.cat; rw [List.length_append, h.1, h.2]
/-- a row that leads with a 1 at a place -/
def LeadAt (r : Rw) (l : Nat) : Prop := leadS r.1 = (l : Int) ∧ r.1[l]? = some 1 ∧ ∀ (j : Nat) (y : UInt8), j < l → r.1[j]? = some y → y = 0
def Led (r : Rw) : Prop := ∃ l, LeadAt r l
def leadN (r : Rw) : Nat := (leadS r.1).toNat
theorem Led.at {r : Rw} (h : Led r) : LeadAt r (leadN r) := by
  obtain ⟨l, hl⟩ := h
  have : leadN r = l := by unfold leadN; rw [hl.1]; rfl
  rw [this]; exact hl
theorem LeadAt.lt {r : Rw} {l n t : Nat} (h : LeadAt r l) (hf : Fit n t r) : l < n := by
  have := (List.getElem?_eq_some_iff.1 h.2.1).1; rw [hf.1] at this; exact this
def tri (K : List Rw) : List (V × Nat) := K.map fun k => (vf (cat k), leadN k)
theorem tri_fst (K : List Rw) : (tri K).map (·.1) = K.map fun k => vf (cat k) := by simp [tri, List.map_map, Function.comp_def]
theorem tri_mem {K : List Rw} {p : V × Nat} (h : p ∈ tri K) : ∃ k, k ∈ K ∧ p = (vf (cat k), leadN k) := by
  simp only [tri, List.mem_map] at h
  obtain ⟨k, hk, rfl⟩ := h; exact ⟨k, hk, rfl⟩
theorem vf_at {n t l : Nat} {x : Rw} (hx : Fit n t x) (hl : l < n) : vf (cat x) l = atS x.1 (l : Int) := by
  unfold cat
  rw [vf_app_left (by rw [hx.1]; exact hl)]
  simp [vf, atS]
theorem rest_red {n t : Nat} : ∀ {K : List Rw} {x : Rw}, (∀ k, k ∈ K → Fit n t k ∧ Led k) → Fit n t x → vf (cat (restF K x)) = red (tri K) (vf (cat x))
  | [], x, _, _ => rfl
  | k :: K, x, hK, hx => by
    obtain ⟨hf, hl⟩ := hK k (by simp)
    have hL := hl.at
    have e : (restF (k :: K) x) = restF K (lessF x (atS x.1 (leadS k.1)) k) := rfl
    rw [e, rest_red (K := K) (fun a ha => hK a (by simp [ha])) (hx.less hf), cat_less _ hx hf, vf_axpy (by rw [hf.cat, hx.cat])]
    have e2 : atS x.1 (leadS k.1) = vf (cat x) (leadN k) := by rw [vf_at hx (hL.lt hf), hL.1]
    rw [e2]; rfl
theorem axpy_zero_of {c : UInt8} (h : c = 0) {xs ys : List UInt8} (hl : xs.length = ys.length) : axpy c xs ys = ys := by
  refine vf_inj (by rw [axpy_length _ _ _ hl]) (fun j _ => ?_)
  rw [vf_axpy hl]
  show vf ys j ^^^ gmul c _ = _
  rw [h, zero_gmul, xor_zero]
theorem leadS_neg {v : List UInt8} (h : leadS v < 0) : ∀ x, x ∈ v → x = 0 := by
  rcases leadS_cases v with ⟨_, _, h3⟩ | ⟨k, x, e, _⟩
  · exact h3
  · omega
theorem vf_zero {v : List UInt8} (h : ∀ x, x ∈ v → x = 0) : ∀ j, vf v j = 0 := by
  intro j
  unfold vf
  rw [List.getD_eq_getElem?_getD]
  cases e : v[j]? with
  | none => rfl
  | some x => exact h x (List.mem_of_getElem? e)
/-- what a row that isn't nought becomes by norming -/
theorem norm_row {n t : Nat} {y : Rw} (hy : Fit n t y) (h : ¬ leadS y.1 < 0) : ∃ (l : Nat) (c : UInt8), c ≠ 0 ∧ leadS y.1 = (l : Int) ∧ LeadAt (normS y) l ∧ Fit n t (normS y) ∧ vf (cat (normS y)) = fun j => gmul c (vf (cat y) j) := by
  obtain ⟨v, d⟩ := y
  rcases norm_cases v d with ⟨h1, _⟩ | ⟨k, x, e, hx, hk, hj, g⟩
  · exact absurd (by rw [h1]; decide) h
  · refine ⟨k, ginv x, ginv_ne x hx, e, ?_, ?_, ?_⟩
    · rw [g]
      refine ⟨by have := norm_lead v d; rw [g] at this; rw [this, e], by simp [List.getElem?_map, hk, ginv_gmul x hx], ?_⟩
      intro j y hjk hy'
      simp only [List.getElem?_map, Option.map_eq_some_iff] at hy'
      obtain ⟨z, hz, rfl⟩ := hy'
      rw [hj j z hjk hz, gmul_zero]
    · rw [g]; exact ⟨by simpa using hy.1, by simpa using hy.2⟩
    · rw [g]
      have : cat (v.map (gmul (ginv x)), d.map (gmul (ginv x))) = (cat (v, d)).map (gmul (ginv x)) := by simp [cat]
      rw [this, vf_scale]
/-- a row more, or not, as the grid's rank keeps them -/
def keepF (K : List Rw) (x : Rw) : List Rw := if leadS (restF K x).1 < 0 then K else K ++ [normS (restF K x)]
structure Kept (n t : Nat) (K : List Rw) : Prop where
  rows : ∀ k, k ∈ K → Fit n t k ∧ Led k
  tri : Tri (tri K)
theorem Kept.nil (n t : Nat) : Kept n t [] := ⟨by simp, trivial⟩
theorem tri_append (K L : List Rw) : tri (K ++ L) = tri K ++ tri L := by simp [tri]
theorem leadN_of {r : Rw} {l : Nat} (h : LeadAt r l) : leadN r = l := by unfold leadN; rw [h.1]; rfl
theorem vf_lead {n t l : Nat} {r : Rw} (h : LeadAt r l) (hf : Fit n t r) : vf (cat r) l = 1 := by
  rw [vf_at hf (h.lt hf), at_of h.2.1]
theorem Kept.step {n t : Nat} {K : List Rw} {x : Rw} (h : Kept n t K) (hx : Fit n t x) : Kept n t (keepF K x) := by
  unfold keepF
  split
  · exact h
  · rename_i hn
    have hr := hx.rest (fun k hk => (h.rows k hk).1)
    obtain ⟨l, c, hc, hl, hL, hF, hv⟩ := norm_row hr hn
    refine ⟨?_, ?_⟩
    · intro k hk
      rcases List.mem_append.1 hk with h' | h'
      · exact h.rows k h'
      · simp at h'; subst h'; exact ⟨hF, l, hL⟩
    · rw [tri_append]
      show Tri (Go.Proofs.Ytofhdakggapahaa.tri K ++ [(vf (cat (normS (restF K x))), leadN (normS (restF K x)))])
      refine h.tri.snoc ?_ ?_
      · intro p hp
        rw [hv]
        show gmul c (vf (cat (restF K x)) p.2) = 0
        rw [rest_red h.rows hx, red_at h.tri p hp, gmul_zero]
      · rw [leadN_of hL]; exact vf_lead hL hF
/-- as many as the rank says (rows without data) -/
theorem kept_span {n : Nat} : ∀ {K : List Rw} {x : Rw}, Kept n 0 K → Fit n 0 x → (∀ k, k ∈ keepF K x → Sp (vf (cat x) :: K.map fun k => vf (cat k)) (vf (cat k))) ∧ Sp ((keepF K x).map fun k => vf (cat k)) (vf (cat x)) ∧ (∀ k, k ∈ K → Sp ((keepF K x).map fun k => vf (cat k)) (vf (cat k))) := by
  intro K x h hx
  have hr := hx.rest (fun k hk => (h.rows k hk).1)
  have hred := rest_red h.rows hx
  have hspan := red_span (tri K) (vf (cat x))
  rw [tri_fst] at hspan
  unfold keepF
  split
  · rename_i hn
    have hz : ∀ j, red (tri K) (vf (cat x)) j = 0 := by
      intro j
      rw [← hred]
      have e : cat (restF K x) = (restF K x).1 := by unfold cat; rw [List.length_eq_zero_iff.1 hr.2, List.append_nil]
      rw [e]
      exact vf_zero (leadS_neg hn) j
    refine ⟨fun k hk => Sp.mem (List.mem_cons_of_mem _ (List.mem_map.2 ⟨k, hk, rfl⟩)), ?_, fun k hk => Sp.mem (List.mem_map.2 ⟨k, hk, rfl⟩)⟩
    have := (red_zero h.tri).1 hz
    rwa [tri_fst] at this
  · rename_i hn
    obtain ⟨l, c, hc, hl, hL, hF, hv⟩ := norm_row hr hn
    refine ⟨?_, ?_, fun k hk => Sp.mem (List.mem_map.2 ⟨k, by simp [hk], rfl⟩)⟩
    · intro k hk
      rcases List.mem_append.1 hk with h' | h'
      · exact Sp.mem (List.mem_cons_of_mem _ (List.mem_map.2 ⟨k, h', rfl⟩))
      · simp at h'; subst h'
        rw [hv, hred]
        refine Sp.scale c ?_
        have e : red (tri K) (vf (cat x)) = fun j => vf (cat x) j ^^^ (vf (cat x) j ^^^ red (tri K) (vf (cat x)) j) := by funext j; rw [← xor_assoc, xor_self, zero_xor]
        rw [e]
        exact Sp.add (Sp.mem (by simp)) (hspan.cons _)
    · have e : vf (cat x) = fun j => gmul (ginv c) (vf (cat (normS (restF K x))) j) ^^^ (vf (cat x) j ^^^ red (tri K) (vf (cat x)) j) := by
        funext j
        rw [hv, hred]
        show _ = gmul (ginv c) (gmul c _) ^^^ _
        rw [← gmul_assoc, ginv_gmul c hc, one_gmul, xor_comm (red _ _ _), xor_cancel]
      rw [e]
      refine Sp.add (Sp.scale _ (Sp.mem (by simp))) (Sp.sub (fun a ha => ?_) hspan)
      simp only [List.mem_map] at ha ⊢
      obtain ⟨k, hk, rfl⟩ := ha
      exact ⟨k, by simp [hk], rfl⟩
theorem fold_rank {n : Nat} (Inv : List Rw → Prop) (f : List Rw → Rw → List Rw) (h0 : Inv []) (hK : ∀ K, Inv K → Kept n 0 K) (hf : ∀ K x, Inv K → Fit n 0 x → Inv (f K x) ∧ (f K x).Perm (keepF K x)) (rows : List (List UInt8)) (hrows : ∀ r, r ∈ rows → r.length = n) :
    Rk (rows.map vf) (rows.foldl (fun K r => f K (r, [])) []).length := by
  have key : ∀ (todo : List (List UInt8)) (K : List Rw) (done : List V), (∀ r, r ∈ todo → r.length = n) → Inv K → (∀ k, k ∈ K → Sp done (vf (cat k))) → (∀ v, v ∈ done → Sp (K.map fun k => vf (cat k)) v) →
      Inv (todo.foldl (fun K r => f K (r, [])) K) ∧ (∀ k, k ∈ todo.foldl (fun K r => f K (r, [])) K → Sp (done ++ todo.map vf) (vf (cat k))) ∧ (∀ v, v ∈ done ++ todo.map vf → Sp ((todo.foldl (fun K r => f K (r, [])) K).map fun k => vf (cat k)) v) := by
    intro todo
    induction todo with
    | nil => intro K done _ h1 h2 h3; exact ⟨h1, fun k hk => by simpa using h2 k hk, fun v hv => h3 v (by simpa using hv)⟩
    | cons r todo ih =>
      intro K done hl h1 h2 h3
      have hx : Fit n 0 (r, []) := ⟨hl r (by simp), rfl⟩
      have ec : cat (r, []) = r := by simp [cat]
      obtain ⟨s1, s2, s3⟩ := kept_span (hK K h1) hx
      obtain ⟨i1, hp⟩ := hf K (r, []) h1 hx
      have hm : ∀ {v : V}, Sp ((keepF K (r, [])).map fun k => vf (cat k)) v → Sp ((f K (r, [])).map fun k => vf (cat k)) v := fun h => Sp.sub (fun a ha => by
        obtain ⟨k, hk, rfl⟩ := List.mem_map.1 ha
        exact List.mem_map.2 ⟨k, hp.mem_iff.2 hk, rfl⟩) h
      rw [ec] at s1 s2
      have := ih (f K (r, [])) (done ++ [vf r]) (fun a ha => hl a (by simp [ha])) i1 (fun k hk => by
        refine Sp.trans ?_ (s1 k (hp.mem_iff.1 hk))
        intro a ha
        rcases List.mem_cons.1 ha with rfl | ha
        · exact Sp.mem (by simp)
        · obtain ⟨k', hk', rfl⟩ := List.mem_map.1 ha
          exact Sp.sub (fun b hb => by simp [hb]) (h2 k' hk')) (fun v hv => by
        rcases List.mem_append.1 hv with hv | hv
        · refine Sp.trans ?_ (h3 v hv)
          intro a ha
          obtain ⟨k', hk', rfl⟩ := List.mem_map.1 ha
          exact hm (s3 k' hk')
        · simp at hv; subst hv; exact hm s2)
      simpa using this
  obtain ⟨k1, k2, k3⟩ := key rows [] [] hrows h0 (by simp) (by simp)
  simp only [List.nil_append] at k2 k3
  refine ⟨_, (hK _ k1).tri.ind, ?_, ?_, ?_⟩
  · rw [tri_fst, List.length_map]
  · intro b hb
    rw [tri_fst] at hb
    obtain ⟨k, hk, rfl⟩ := List.mem_map.1 hb
    exact k2 k hk
  · intro a ha
    rw [tri_fst]
    exact k3 a ha
theorem kept_rank {n : Nat} (rows : List (List UInt8)) (hrows : ∀ r, r ∈ rows → r.length = n) : Rk (rows.map vf) (rows.foldl (fun K r => keepF K (r, [])) []).length :=
  fold_rank (Kept n 0) keepF (Kept.nil n 0) (fun _ h => h) (fun K x h hx => ⟨h.step hx, List.Perm.refl _⟩) rows hrows
/-- a row more, or not, as the document keeps them: by the places where they lead -/
def insF (K : List Rw) (x : Rw) : List Rw :=
  if leadS (normS (restF K x)).1 < 0 then K else K.takeWhile (fun r => decide (leadS r.1 < leadS (normS (restF K x)).1)) ++ normS (restF K x) :: K.dropWhile (fun r => decide (leadS r.1 < leadS (normS (restF K x)).1))
theorem norm_leadS (r : Rw) : leadS (normS r).1 = leadS r.1 := by obtain ⟨v, d⟩ := r; exact norm_lead v d
theorem ins_perm (K : List Rw) (x : Rw) : (insF K x).Perm (keepF K x) := by
  unfold insF keepF
  rw [norm_leadS]
  split
  · exact List.Perm.refl _
  · refine (List.perm_middle).trans ?_
    rw [List.takeWhile_append_dropWhile]
    exact (List.perm_append_singleton _ _).symm
structure KeptS (n t : Nat) (K : List Rw) : Prop where
  rows : ∀ k, k ∈ K → Fit n t k ∧ Led k
  sorted : K.Pairwise (fun a b => leadN a < leadN b)
theorem vf_before {n t l : Nat} {r : Rw} (hf : Fit n t r) (h : Led r) (hl : l < leadN r) : vf (cat r) l = 0 := by
  have hL := h.at
  have := hL.lt hf
  rw [vf_at hf (by omega)]
  have hz := hL.2.2 l
  simp only [atS, Int.toNat_natCast, Int.natCast_nonneg, if_true, List.getD_eq_getElem?_getD]
  cases e : r.1[l]? with
  | none => rfl
  | some y => exact hz y hl e
theorem tri_of_sorted {n t : Nat} : ∀ {K : List Rw}, (∀ k, k ∈ K → Fit n t k ∧ Led k) → K.Pairwise (fun a b => leadN a < leadN b) → Tri (tri K)
  | [], _, _ => trivial
  | k :: K, h1, h2 => by
    obtain ⟨g1, g2⟩ := List.pairwise_cons.1 h2
    obtain ⟨hf, hl⟩ := h1 k (by simp)
    refine ⟨vf_lead hl.at hf, ?_, tri_of_sorted (fun a ha => h1 a (by simp [ha])) g2⟩
    intro p hp
    obtain ⟨k', hk', rfl⟩ := tri_mem hp
    exact vf_before (h1 k' (by simp [hk'])).1 (h1 k' (by simp [hk'])).2 (g1 k' hk')
theorem KeptS.kept {n t : Nat} {K : List Rw} (h : KeptS n t K) : Kept n t K := ⟨h.rows, tri_of_sorted h.rows h.sorted⟩
theorem KeptS.nil (n t : Nat) : KeptS n t [] := ⟨by simp, List.Pairwise.nil⟩
theorem mem_take {α : Type} {p : α → Bool} : ∀ {l : List α} {a : α}, a ∈ l.takeWhile p → p a = true
  | b :: l, a, h => by
    rw [List.takeWhile_cons] at h
    split at h
    · rename_i hb
      rcases List.mem_cons.1 h with rfl | h
      · exact hb
      · exact mem_take h
    · simp at h
theorem drop_head {α : Type} {p : α → Bool} : ∀ {l : List α} {a : α} {r : List α}, l.dropWhile p = a :: r → p a = false
  | b :: l, a, r, h => by
    rw [List.dropWhile_cons] at h
    split at h
    · exact drop_head h
    · rename_i hb
      simp at h
      rw [← h.1]; simpa using hb
theorem KeptS.step {n t : Nat} {K : List Rw} {x : Rw} (h : KeptS n t K) (hx : Fit n t x) : KeptS n t (insF K x) := by
  have hkk := h.kept.step hx
  have hp := ins_perm K x
  refine ⟨fun k hk => hkk.rows k (hp.mem_iff.1 hk), ?_⟩
  unfold insF
  split
  · exact h.sorted
  · rename_i hn
    rw [norm_leadS] at hn
    have hr := hx.rest (fun k hk => (h.rows k hk).1)
    obtain ⟨l, c, hc, hl, hL, hF, hv⟩ := norm_row hr hn
    have hln := leadN_of hL
    rw [hL.1]
    have hne : ∀ k, k ∈ K → leadN k ≠ l := by
      intro k hk e
      have h1 : vf (cat (normS (restF K x))) l = 1 := vf_lead hL hF
      have h2 : vf (cat (normS (restF K x))) (leadN k) = 0 := by
        rw [hv]
        show gmul c (vf (cat (restF K x)) (leadN k)) = 0
        rw [rest_red h.rows hx, red_at h.kept.tri (vf (cat k), leadN k) (List.mem_map.2 ⟨k, hk, rfl⟩), gmul_zero]
      rw [e, h1] at h2
      exact absurd h2 (by decide)
    have hlead : ∀ k, k ∈ K → leadS k.1 = (leadN k : Int) := fun k hk => (h.rows k hk).2.at.1
    have hs : (K.takeWhile (fun r => decide (leadS r.1 < (l : Int))) ++ K.dropWhile (fun r => decide (leadS r.1 < (l : Int)))).Pairwise (fun a b => leadN a < leadN b) := by
      rw [List.takeWhile_append_dropWhile]; exact h.sorted
    have mT : ∀ k, k ∈ K.takeWhile (fun r => decide (leadS r.1 < (l : Int))) → k ∈ K ∧ leadN k < l := by
      intro k hk
      have h1 := (List.takeWhile_sublist _).mem hk
      refine ⟨h1, ?_⟩
      have := mem_take hk
      rw [decide_eq_true_eq, hlead k h1] at this
      omega
    have mD : ∀ k, k ∈ K.dropWhile (fun r => decide (leadS r.1 < (l : Int))) → l < leadN k := by
      obtain ⟨h1, h2, h3⟩ := List.pairwise_append.1 hs
      cases e : K.dropWhile (fun r => decide (leadS r.1 < (l : Int))) with
      | nil => intro k hk; simp at hk
      | cons a r =>
        have ha : a ∈ K := (List.dropWhile_sublist _).mem (by rw [e]; simp)
        have hd := drop_head e
        rw [decide_eq_false_iff_not, hlead a ha] at hd
        have hla : l < leadN a := by have := hne a ha; omega
        rw [e] at h2
        intro k hk
        rcases List.mem_cons.1 hk with rfl | hk
        · exact hla
        · exact Nat.lt_trans hla ((List.pairwise_cons.1 h2).1 k hk)
    obtain ⟨h1, h2, h3⟩ := List.pairwise_append.1 hs
    refine List.pairwise_append.2 ⟨h1, List.pairwise_cons.2 ⟨fun k hk => by rw [hln]; exact mD k hk, h2⟩, ?_⟩
    intro a ha b hb
    rcases List.mem_cons.1 hb with rfl | hb
    · rw [hln]; exact (mT a ha).2
    · exact h3 a ha b hb
theorem ins_rank {n : Nat} (rows : List (List UInt8)) (hrows : ∀ r, r ∈ rows → r.length = n) : Rk (rows.map vf) (rows.foldl (fun K r => insF K (r, [])) []).length :=
  fold_rank (KeptS n 0) insF (KeptS.nil n 0) (fun _ h => h.kept) (fun K x h hx => ⟨h.step hx, ins_perm K x⟩) rows hrows
/-- both ranks are one -/
theorem rank_same {n : Nat} (rows : List (List UInt8)) (hrows : ∀ r, r ∈ rows → r.length = n) : (rows.foldl (fun K r => keepF K (r, [])) []).length = (rows.foldl (fun K r => insF K (r, [])) []).length :=
  (kept_rank rows hrows).unique (ins_rank rows hrows)
end Go.Proofs.Ytofhdakggapahaa
