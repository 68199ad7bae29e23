/- Rows kept one by one, as the grid's rank and the document's keep them: as many as the rank says. A region that draws its order, whose last operation (a store) waits for all others but one extract. The contract of the grid's Rank. Slices of rows that read so; the contract of the reference's Rest. Appends of rows: any part of a slice of rows onto a slice that the call owns. The contract of the reference's Insert. The contract of the reference's Turned. The contract of the reference's Rank. Determinants by the first row, over the field of 256 elements: linear in each row, nought where two rows are the same; what row steps do to them. Gauss-Jordan on rows with data: what each step keeps. slices.IndexFunc of rows; the closure of Inverse. The rows of Inverse in memory: one block of n rows. Rows that lead, reduced: what they span tells them; a row more, as a system of equations puts it. A row more into reduced rows (putF); reduced rows out of rows that lead by rising places (backB); both are the same. The document's reduced rows: one behind the other cleared, in place; they are the system's. The contracts of the reference's Same of layer 3, and of a law's rows: made, and as the document's. -/
import Derived.Test.YtcfdopiponlboaaGreatDoorZh4
import Derived.Laws.AppendOwnNone
import Derived.Deep.AppendLies
namespace Go.Proofs.YtcfdopiponlboaaGreatDoor
open Go.By Gf
abbrev Rw := List UInt8 × List UInt8
def vf (xs : List UInt8) : V := fun j => xs.getD j 0
def cat (r : Rw) : List UInt8 := r.1 ++ r.2
def Fit (n t : Nat) (r : Rw) : Prop := r.1.length = n ∧ r.2.length = t
def lessF (x : Rw) (c : UInt8) (o : Rw) : Rw := (axpy c o.1 x.1, axpy c o.2 x.2)
def restF (K : List Rw) (x : Rw) : Rw := K.foldl (fun x k => lessF x (atS x.1 (leadS k.1)) k) x
theorem vf_axpy {c : UInt8} {xs ys : List UInt8} (h : xs.length = ys.length) : vf (axpy c xs ys) = fun j => vf ys j ^^^ gmul c (vf xs j) := by
  funext j
  unfold vf axpy
  simp only [List.getD_eq_getElem?_getD, List.getElem?_zipWith]
  by_cases hj : j < xs.length
  · rw [List.getElem?_eq_getElem hj, List.getElem?_eq_getElem (by omega : j < ys.length)]; rfl
  · rw [List.getElem?_eq_none (by omega), List.getElem?_eq_none (by omega)]; simp [gmul_zero, xor_zero]
theorem vf_scale (c : UInt8) (xs : List UInt8) : vf (xs.map (gmul c)) = fun j => gmul c (vf xs j) := by
  funext j
  unfold vf
  simp only [List.getD_eq_getElem?_getD, List.getElem?_map]
  cases xs[j]? <;> simp [gmul_zero]
theorem vf_wide (xs : List UInt8) : Wide xs.length (vf xs) := fun j hj => by unfold vf; rw [List.getD_eq_getElem?_getD, List.getElem?_eq_none hj]; rfl
theorem vf_inj {xs ys : List UInt8} (h : xs.length = ys.length) (e : ∀ j, j < xs.length → vf xs j = vf ys j) : xs = ys := by
  apply List.ext_getElem h
  intro i h1 h2
  have := e i h1
  simpa [vf, List.getD_eq_getElem?_getD, h1, h2] using this
theorem vf_app_left {xs ys : List UInt8} {j : Nat} (h : j < xs.length) : vf (xs ++ ys) j = vf xs j := by
  unfold vf; rw [List.getD_eq_getElem?_getD, List.getElem?_append_left h, List.getD_eq_getElem?_getD]
theorem axpy_append (c : UInt8) : ∀ (xs ys us vs : List UInt8), xs.length = us.length → axpy c (xs ++ ys) (us ++ vs) = axpy c xs us ++ axpy c ys vs := by
  intro xs ys us vs h
  unfold axpy
  exact List.zipWith_append h
theorem cat_less {n t : Nat} {x o : Rw} (c : UInt8) (hx : Fit n t x) (ho : Fit n t o) : cat (lessF x c o) = axpy c (cat o) (cat x) := by
  unfold cat lessF
  rw [axpy_append]
  rw [ho.1, hx.1]
theorem Fit.less {n t : Nat} {x o : Rw} {c : UInt8} (hx : Fit n t x) (ho : Fit n t o) : Fit n t (lessF x c o) := by
  unfold Fit lessF
  exact ⟨by rw [axpy_length _ _ _ (by rw [ho.1, hx.1])]; exact hx.1, by rw [axpy_length _ _ _ (by rw [ho.2, hx.2])]; exact hx.2⟩
theorem Fit.rest {n t : Nat} : ∀ {K : List Rw} {x : Rw}, (∀ k, k ∈ K → Fit n t k) → Fit n t x → Fit n t (restF K x)
  | [], x, _, hx => hx
  | k :: K, x, hK, hx => Fit.rest (K := K) (fun a ha => hK a (by simp [ha])) (hx.less (hK k (by simp)))
theorem Fit.cat {n t : Nat} {x : Rw} (h : Fit n t x) : (cat x).length = n + t := by unfold Go.Proofs.YtcfdopiponlboaaGreatDoor.cat; rw [List.length_append, h.1, h.2]
/-- a row that leads with a 1 at a place -/
def LeadAt (r : Rw) (l : Nat) : Prop := leadS r.1 = (l : Int) ∧ r.1[l]? = some 1 ∧ ∀ (j : Nat) (y : UInt8), j < l → r.1[j]? = some y → y = 0
def Led (r : Rw) : Prop := ∃ l, LeadAt r l
def leadN (r : Rw) : Nat := (leadS r.1).toNat
theorem Led.at {r : Rw} (h : Led r) : LeadAt r (leadN r) := by
  obtain ⟨l, hl⟩ := h
  have : leadN r = l := by unfold leadN; rw [hl.1]; rfl
  rw [this]; exact hl
theorem LeadAt.lt {r : Rw} {l n t : Nat} (h : LeadAt r l) (hf : Fit n t r) : l < n := by
  have := (List.getElem?_eq_some_iff.1 h.2.1).1; rw [hf.1] at this; exact this
def tri (K : List Rw) : List (V × Nat) := K.map fun k => (vf (cat k), leadN k)
theorem tri_fst (K : List Rw) : (tri K).map (·.1) = K.map fun k => vf (cat k) := by simp [tri, List.map_map, Function.comp_def]
theorem tri_mem {K : List Rw} {p : V × Nat} (h : p ∈ tri K) : ∃ k, k ∈ K ∧ p = (vf (cat k), leadN k) := by
  simp only [tri, List.mem_map] at h
  obtain ⟨k, hk, rfl⟩ := h; exact ⟨k, hk, rfl⟩
theorem vf_at {n t l : Nat} {x : Rw} (hx : Fit n t x) (hl : l < n) : vf (cat x) l = atS x.1 (l : Int) := by
  unfold cat
  rw [vf_app_left (by rw [hx.1]; exact hl)]
  simp [vf, atS]
theorem rest_red {n t : Nat} : ∀ {K : List Rw} {x : Rw}, (∀ k, k ∈ K → Fit n t k ∧ Led k) → Fit n t x → vf (cat (restF K x)) = red (tri K) (vf (cat x))
  | [], x, _, _ => rfl
  | k :: K, x, hK, hx => by
    obtain ⟨hf, hl⟩ := hK k (by simp)
    have hL := hl.at
    have e : (restF (k :: K) x) = restF K (lessF x (atS x.1 (leadS k.1)) k) := rfl
    rw [e, rest_red (K := K) (fun a ha => hK a (by simp [ha])) (hx.less hf), cat_less _ hx hf, vf_axpy (by rw [hf.cat, hx.cat])]
    have e2 : atS x.1 (leadS k.1) = vf (cat x) (leadN k) := by rw [vf_at hx (hL.lt hf), hL.1]
    rw [e2]; rfl
theorem axpy_zero_of {c : UInt8} (h : c = 0) {xs ys : List UInt8} (hl : xs.length = ys.length) : axpy c xs ys = ys := by
  refine vf_inj (by rw [axpy_length _ _ _ hl]) (fun j _ => ?_)
  rw [vf_axpy hl]
  show vf ys j ^^^ gmul c _ = _
  rw [h, zero_gmul, xor_zero]
theorem leadS_neg {v : List UInt8} (h : leadS v < 0) : ∀ x, x ∈ v → x = 0 := by
  rcases leadS_cases v with ⟨_, _, h3⟩ | ⟨k, x, e, _⟩
  · exact h3
  · omega
theorem vf_zero {v : List UInt8} (h : ∀ x, x ∈ v → x = 0) : ∀ j, vf v j = 0 := by
  intro j
  unfold vf
  rw [List.getD_eq_getElem?_getD]
  cases e : v[j]? with
  | none => rfl
  | some x => exact h x (List.mem_of_getElem? e)
/-- what a row that isn't nought becomes by norming -/
theorem norm_row {n t : Nat} {y : Rw} (hy : Fit n t y) (h : ¬ leadS y.1 < 0) : ∃ (l : Nat) (c : UInt8), c ≠ 0 ∧ leadS y.1 = (l : Int) ∧ LeadAt (normS y) l ∧ Fit n t (normS y) ∧ vf (cat (normS y)) = fun j => gmul c (vf (cat y) j) := by
  obtain ⟨v, d⟩ := y
  rcases norm_cases v d with ⟨h1, _⟩ | ⟨k, x, e, hx, hk, hj, g⟩
  · exact absurd (by rw [h1]; decide) h
  · refine ⟨k, ginv x, ginv_ne x hx, e, ?_, ?_, ?_⟩
    · rw [g]
      refine ⟨by have := norm_lead v d; rw [g] at this; rw [this, e], by simp [List.getElem?_map, hk, ginv_gmul x hx], ?_⟩
      intro j y hjk hy'
      simp only [List.getElem?_map, Option.map_eq_some_iff] at hy'
      obtain ⟨z, hz, rfl⟩ := hy'
      rw [hj j z hjk hz, gmul_zero]
    · rw [g]; exact ⟨by simpa using hy.1, by simpa using hy.2⟩
    · rw [g]
      have : cat (v.map (gmul (ginv x)), d.map (gmul (ginv x))) = (cat (v, d)).map (gmul (ginv x)) := by simp [cat]
      rw [this, vf_scale]
/-- a row more, or not, as the grid's rank keeps them -/
def keepF (K : List Rw) (x : Rw) : List Rw := if leadS (restF K x).1 < 0 then K else K ++ [normS (restF K x)]
structure Kept (n t : Nat) (K : List Rw) : Prop where
  rows : ∀ k, k ∈ K → Fit n t k ∧ Led k
  tri : Tri (tri K)
theorem Kept.nil (n t : Nat) : Kept n t [] := ⟨by simp, trivial⟩
theorem tri_append (K L : List Rw) : tri (K ++ L) = tri K ++ tri L := by simp [tri]
theorem leadN_of {r : Rw} {l : Nat} (h : LeadAt r l) : leadN r = l := by unfold leadN; rw [h.1]; rfl
theorem vf_lead {n t l : Nat} {r : Rw} (h : LeadAt r l) (hf : Fit n t r) : vf (cat r) l = 1 := by
  rw [vf_at hf (h.lt hf), at_of h.2.1]
theorem Kept.step {n t : Nat} {K : List Rw} {x : Rw} (h : Kept n t K) (hx : Fit n t x) : Kept n t (keepF K x) := by
  unfold keepF
  split
  · exact h
  · rename_i hn
    have hr := hx.rest (fun k hk => (h.rows k hk).1)
    obtain ⟨l, c, hc, hl, hL, hF, hv⟩ := norm_row hr hn
    refine ⟨?_, ?_⟩
    · intro k hk
      rcases List.mem_append.1 hk with h' | h'
      · exact h.rows k h'
      · simp at h'; subst h'; exact ⟨hF, l, hL⟩
    · rw [tri_append]
      show Tri (Go.Proofs.YtcfdopiponlboaaGreatDoor.tri K ++ [(vf (cat (normS (restF K x))), leadN (normS (restF K x)))])
      refine h.tri.snoc ?_ ?_
      · intro p hp
        rw [hv]
        show gmul c (vf (cat (restF K x)) p.2) = 0
        rw [rest_red h.rows hx, red_at h.tri p hp, gmul_zero]
      · rw [leadN_of hL]; exact vf_lead hL hF
/-- as many as the rank says (rows without data) -/
theorem kept_span {n : Nat} : ∀ {K : List Rw} {x : Rw}, Kept n 0 K → Fit n 0 x → (∀ k, k ∈ keepF K x → Sp (vf (cat x) :: K.map fun k => vf (cat k)) (vf (cat k))) ∧ Sp ((keepF K x).map fun k => vf (cat k)) (vf (cat x)) ∧ (∀ k, k ∈ K → Sp ((keepF K x).map fun k => vf (cat k)) (vf (cat k))) := by
  intro K x h hx
  have hr := hx.rest (fun k hk => (h.rows k hk).1)
  have hred := rest_red h.rows hx
  have hspan := red_span (tri K) (vf (cat x))
  rw [tri_fst] at hspan
  unfold keepF
  split
  · rename_i hn
    have hz : ∀ j, red (tri K) (vf (cat x)) j = 0 := by
      intro j
      rw [← hred]
      have e : cat (restF K x) = (restF K x).1 := by unfold cat; rw [List.length_eq_zero_iff.1 hr.2, List.append_nil]
      rw [e]
      exact vf_zero (leadS_neg hn) j
    refine ⟨fun k hk => Sp.mem (List.mem_cons_of_mem _ (List.mem_map.2 ⟨k, hk, rfl⟩)), ?_, fun k hk => Sp.mem (List.mem_map.2 ⟨k, hk, rfl⟩)⟩
    have := (red_zero h.tri).1 hz
    rwa [tri_fst] at this
  · rename_i hn
    obtain ⟨l, c, hc, hl, hL, hF, hv⟩ := norm_row hr hn
    refine ⟨?_, ?_, fun k hk => Sp.mem (List.mem_map.2 ⟨k, by simp [hk], rfl⟩)⟩
    · intro k hk
      rcases List.mem_append.1 hk with h' | h'
      · exact Sp.mem (List.mem_cons_of_mem _ (List.mem_map.2 ⟨k, h', rfl⟩))
      · simp at h'; subst h'
        rw [hv, hred]
        refine Sp.scale c ?_
        have e : red (tri K) (vf (cat x)) = fun j => vf (cat x) j ^^^ (vf (cat x) j ^^^ red (tri K) (vf (cat x)) j) := by funext j; rw [← xor_assoc, xor_self, zero_xor]
        rw [e]
        exact Sp.add (Sp.mem (by simp)) (hspan.cons _)
    · have e : vf (cat x) = fun j => gmul (ginv c) (vf (cat (normS (restF K x))) j) ^^^ (vf (cat x) j ^^^ red (tri K) (vf (cat x)) j) := by
        funext j
        rw [hv, hred]
        show _ = gmul (ginv c) (gmul c _) ^^^ _
        rw [← gmul_assoc, ginv_gmul c hc, one_gmul, xor_comm (red _ _ _), xor_cancel]
      rw [e]
      refine Sp.add (Sp.scale _ (Sp.mem (by simp))) (Sp.sub (fun a ha => ?_) hspan)
      simp only [List.mem_map] at ha ⊢
      obtain ⟨k, hk, rfl⟩ := ha
      exact ⟨k, by simp [hk], rfl⟩
theorem fold_rank {n : Nat} (Inv : List Rw → Prop) (f : List Rw → Rw → List Rw) (h0 : Inv []) (hK : ∀ K, Inv K → Kept n 0 K) (hf : ∀ K x, Inv K → Fit n 0 x → Inv (f K x) ∧ (f K x).Perm (keepF K x)) (rows : List (List UInt8)) (hrows : ∀ r, r ∈ rows → r.length = n) :
    Rk (rows.map vf) (rows.foldl (fun K r => f K (r, [])) []).length := by
  have key : ∀ (todo : List (List UInt8)) (K : List Rw) (done : List V), (∀ r, r ∈ todo → r.length = n) → Inv K → (∀ k, k ∈ K → Sp done (vf (cat k))) → (∀ v, v ∈ done → Sp (K.map fun k => vf (cat k)) v) →
      Inv (todo.foldl (fun K r => f K (r, [])) K) ∧ (∀ k, k ∈ todo.foldl (fun K r => f K (r, [])) K → Sp (done ++ todo.map vf) (vf (cat k))) ∧ (∀ v, v ∈ done ++ todo.map vf → Sp ((todo.foldl (fun K r => f K (r, [])) K).map fun k => vf (cat k)) v) := by
    intro todo
    induction todo with
    | nil => intro K done _ h1 h2 h3; exact ⟨h1, fun k hk => by simpa using h2 k hk, fun v hv => h3 v (by simpa using hv)⟩
    | cons r todo ih =>
      intro K done hl h1 h2 h3
      have hx : Fit n 0 (r, []) := ⟨hl r (by simp), rfl⟩
      have ec : cat (r, []) = r := by simp [cat]
      obtain ⟨s1, s2, s3⟩ := kept_span (hK K h1) hx
      obtain ⟨i1, hp⟩ := hf K (r, []) h1 hx
      have hm : ∀ {v : V}, Sp ((keepF K (r, [])).map fun k => vf (cat k)) v → Sp ((f K (r, [])).map fun k => vf (cat k)) v := fun h => Sp.sub (fun a ha => by
        obtain ⟨k, hk, rfl⟩ := List.mem_map.1 ha
        exact List.mem_map.2 ⟨k, hp.mem_iff.2 hk, rfl⟩) h
      rw [ec] at s1 s2
      have := ih (f K (r, [])) (done ++ [vf r]) (fun a ha => hl a (by simp [ha])) i1 (fun k hk => by
        refine Sp.trans ?_ (s1 k (hp.mem_iff.1 hk))
        intro a ha
        rcases List.mem_cons.1 ha with rfl | ha
        · exact Sp.mem (by simp)
        · obtain ⟨k', hk', rfl⟩ := List.mem_map.1 ha
          exact Sp.sub (fun b hb => by simp [hb]) (h2 k' hk')) (fun v hv => by
        rcases List.mem_append.1 hv with hv | hv
        · refine Sp.trans ?_ (h3 v hv)
          intro a ha
          obtain ⟨k', hk', rfl⟩ := List.mem_map.1 ha
          exact hm (s3 k' hk')
        · simp at hv; subst hv; exact hm s2)
      simpa using this
  obtain ⟨k1, k2, k3⟩ := key rows [] [] hrows h0 (by simp) (by simp)
  simp only [List.nil_append] at k2 k3
  refine ⟨_, (hK _ k1).tri.ind, ?_, ?_, ?_⟩
  · rw [tri_fst, List.length_map]
  · intro b hb
    rw [tri_fst] at hb
    obtain ⟨k, hk, rfl⟩ := List.mem_map.1 hb
    exact k2 k hk
  · intro a ha
    rw [tri_fst]
    exact k3 a ha
theorem kept_rank {n : Nat} (rows : List (List UInt8)) (hrows : ∀ r, r ∈ rows → r.length = n) : Rk (rows.map vf) (rows.foldl (fun K r => keepF K (r, [])) []).length :=
  fold_rank (Kept n 0) keepF (Kept.nil n 0) (fun _ h => h) (fun K x h hx => ⟨h.step hx, List.Perm.refl _⟩) rows hrows
/-- a row more, or not, as the document keeps them: by the places where they lead -/
def insF (K : List Rw) (x : Rw) : List Rw :=
  if leadS (normS (restF K x)).1 < 0 then K else K.takeWhile (fun r => decide (leadS r.1 < leadS (normS (restF K x)).1)) ++ normS (restF K x) :: K.dropWhile (fun r => decide (leadS r.1 < leadS (normS (restF K x)).1))
theorem norm_leadS (r : Rw) : leadS (normS r).1 = leadS r.1 := by obtain ⟨v, d⟩ := r; exact norm_lead v d
theorem ins_perm (K : List Rw) (x : Rw) : (insF K x).Perm (keepF K x) := by
  unfold insF keepF
  rw [norm_leadS]
  split
  · exact List.Perm.refl _
  · refine (List.perm_middle).trans ?_
    rw [List.takeWhile_append_dropWhile]
    exact (List.perm_append_singleton _ _).symm
structure KeptS (n t : Nat) (K : List Rw) : Prop where
  rows : ∀ k, k ∈ K → Fit n t k ∧ Led k
  sorted : K.Pairwise (fun a b => leadN a < leadN b)
theorem vf_before {n t l : Nat} {r : Rw} (hf : Fit n t r) (h : Led r) (hl : l < leadN r) : vf (cat r) l = 0 := by
  have hL := h.at
  have := hL.lt hf
  rw [vf_at hf (by omega)]
  have hz := hL.2.2 l
  simp only [atS, Int.toNat_natCast, Int.natCast_nonneg, if_true, List.getD_eq_getElem?_getD]
  cases e : r.1[l]? with
  | none => rfl
  | some y => exact hz y hl e
theorem tri_of_sorted {n t : Nat} : ∀ {K : List Rw}, (∀ k, k ∈ K → Fit n t k ∧ Led k) → K.Pairwise (fun a b => leadN a < leadN b) → Tri (tri K)
  | [], _, _ => trivial
  | k :: K, h1, h2 => by
    obtain ⟨g1, g2⟩ := List.pairwise_cons.1 h2
    obtain ⟨hf, hl⟩ := h1 k (by simp)
    refine ⟨vf_lead hl.at hf, ?_, tri_of_sorted (fun a ha => h1 a (by simp [ha])) g2⟩
    intro p hp
    obtain ⟨k', hk', rfl⟩ := tri_mem hp
    exact vf_before (h1 k' (by simp [hk'])).1 (h1 k' (by simp [hk'])).2 (g1 k' hk')
theorem KeptS.kept {n t : Nat} {K : List Rw} (h : KeptS n t K) : Kept n t K := ⟨h.rows, tri_of_sorted h.rows h.sorted⟩
theorem KeptS.nil (n t : Nat) : KeptS n t [] := ⟨by simp, List.Pairwise.nil⟩
theorem mem_take {α : Type} {p : α → Bool} : ∀ {l : List α} {a : α}, a ∈ l.takeWhile p → p a = true
  | b :: l, a, h => by
    rw [List.takeWhile_cons] at h
    split at h
    · rename_i hb
      rcases List.mem_cons.1 h with rfl | h
      · exact hb
      · exact mem_take h
    · simp at h
theorem drop_head {α : Type} {p : α → Bool} : ∀ {l : List α} {a : α} {r : List α}, l.dropWhile p = a :: r → p a = false
  | b :: l, a, r, h => by
    rw [List.dropWhile_cons] at h
    split at h
    · exact drop_head h
    · rename_i hb
      simp at h
      rw [← h.1]; simpa using hb
theorem KeptS.step {n t : Nat} {K : List Rw} {x : Rw} (h : KeptS n t K) (hx : Fit n t x) : KeptS n t (insF K x) := by
  have hkk := h.kept.step hx
  have hp := ins_perm K x
  refine ⟨fun k hk => hkk.rows k (hp.mem_iff.1 hk), ?_⟩
  unfold insF
  split
  · exact h.sorted
  · rename_i hn
    rw [norm_leadS] at hn
    have hr := hx.rest (fun k hk => (h.rows k hk).1)
    obtain ⟨l, c, hc, hl, hL, hF, hv⟩ := norm_row hr hn
    have hln := leadN_of hL
    rw [hL.1]
    have hne : ∀ k, k ∈ K → leadN k ≠ l := by
      intro k hk e
      have h1 : vf (cat (normS (restF K x))) l = 1 := vf_lead hL hF
      have h2 : vf (cat (normS (restF K x))) (leadN k) = 0 := by
        rw [hv]
        show gmul c (vf (cat (restF K x)) (leadN k)) = 0
        rw [rest_red h.rows hx, red_at h.kept.tri (vf (cat k), leadN k) (List.mem_map.2 ⟨k, hk, rfl⟩), gmul_zero]
      rw [e, h1] at h2
      exact absurd h2 (by decide)
    have hlead : ∀ k, k ∈ K → leadS k.1 = (leadN k : Int) := fun k hk => (h.rows k hk).2.at.1
    have hs : (K.takeWhile (fun r => decide (leadS r.1 < (l : Int))) ++ K.dropWhile (fun r => decide (leadS r.1 < (l : Int)))).Pairwise (fun a b => leadN a < leadN b) := by
      rw [List.takeWhile_append_dropWhile]; exact h.sorted
    have mT : ∀ k, k ∈ K.takeWhile (fun r => decide (leadS r.1 < (l : Int))) → k ∈ K ∧ leadN k < l := by
      intro k hk
      have h1 := (List.takeWhile_sublist _).mem hk
      refine ⟨h1, ?_⟩
      have := mem_take hk
      rw [decide_eq_true_eq, hlead k h1] at this
      omega
    have mD : ∀ k, k ∈ K.dropWhile (fun r => decide (leadS r.1 < (l : Int))) → l < leadN k := by
      obtain ⟨h1, h2, h3⟩ := List.pairwise_append.1 hs
      cases e : K.dropWhile (fun r => decide (leadS r.1 < (l : Int))) with
      | nil => intro k hk; simp at hk
      | cons a r =>
        have ha : a ∈ K := (List.dropWhile_sublist _).mem (by rw [e]; simp)
        have hd := drop_head e
        rw [decide_eq_false_iff_not, hlead a ha] at hd
        have hla : l < leadN a := by have := hne a ha; omega
        rw [e] at h2
        intro k hk
        rcases List.mem_cons.1 hk with rfl | hk
        · exact hla
        · exact Nat.lt_trans hla ((List.pairwise_cons.1 h2).1 k hk)
    obtain ⟨h1, h2, h3⟩ := List.pairwise_append.1 hs
    refine List.pairwise_append.2 ⟨h1, List.pairwise_cons.2 ⟨fun k hk => by rw [hln]; exact mD k hk, h2⟩, ?_⟩
    intro a ha b hb
    rcases List.mem_cons.1 hb with rfl | hb
    · rw [hln]; exact (mT a ha).2
    · exact h3 a ha b hb
theorem ins_rank {n : Nat} (rows : List (List UInt8)) (hrows : ∀ r, r ∈ rows → r.length = n) : Rk (rows.map vf) (rows.foldl (fun K r => insF K (r, [])) []).length :=
  fold_rank (KeptS n 0) insF (KeptS.nil n 0) (fun _ h => h.kept) (fun K x h hx => ⟨h.step hx, ins_perm K x⟩) rows hrows
/-- both ranks are one -/
theorem rank_same {n : Nat} (rows : List (List UInt8)) (hrows : ∀ r, r ∈ rows → r.length = n) : (rows.foldl (fun K r => keepF K (r, [])) []).length = (rows.foldl (fun K r => insF K (r, [])) []).length :=
  (kept_rank rows hrows).unique (ins_rank rows hrows)
end Go.Proofs.YtcfdopiponlboaaGreatDoor
namespace Go.By
open Go.RowKit
/-- the last operation (a store) waits for all others but one (an extract) -/
def lateB (ops : Array Oper) (m e : Nat) : Bool := decide (ops.size = m + 1) && decide (e < m) && match ops[m]? with
  | some o => o.guard.isNone && o.dst.isNone && (List.range m).all fun i => i == e || (preds o).contains i
  | none => false
theorem wpAny_one {P : Program} {ops : Array Oper} {Q : Exit → Act → World → Prop} {listed : Array Bool} {a : Act} {w : World} {e : Nat} {oe : Oper} (fuel : Nat) (he : ops[e]? = some oe) (hall : ∀ j, j < ops.size → j ≠ e → listed.getD j true = true) (hle : listed.getD e true = false) (hpe : ∀ k, k ∈ preds oe → listed.getD k false = true)
    (hu : unl ops.size listed ≤ fuel) (hg : oe.guard = none) (h : oe.wp P a w (fun a' w' => Q .normal a' w') Q) : wpAny P .any ops Q fuel listed a w := by
  have hes : e < ops.size := (Array.getElem?_eq_some_iff.1 he).1
  have hin : e ∈ Region.ready .any ops listed := mem_ready.2 ⟨hes, hle, oe, he, hpe⟩
  cases fuel with
  | zero =>
    exfalso
    have h0 : unl ops.size listed = 0 := by omega
    unfold unl at h0
    have := List.countP_eq_zero.1 h0 e (List.mem_range.2 hes)
    simp [hle] at this
  | succ n =>
    refine ⟨fun hr => by rw [hr] at hin; simp at hin, fun i hi => ?_⟩
    have hie : i = e := by
      apply Classical.byContradiction
      intro hne
      obtain ⟨h1, h2, _⟩ := mem_ready.1 hi
      rw [hall i h1 hne] at h2; cases h2
    subst hie
    unfold wpOp
    rw [he]
    show if Region.wanted oe (yielded ops a.tmps) = true then _ else _
    rw [if_pos (by simp [Region.wanted, hg])]
    have his : i < listed.size := by
      rcases Nat.lt_or_ge i listed.size with h | h
      · exact h
      · simp [Array.getD_eq_getD_getElem?, Array.getElem?_eq_none h] at hle
    refine .inl (Oper.wp_mono (fun a' w' hq => wpAny_done _ (fun j hj => ?_) hq) h)
    simp only [Array.getD_eq_getD_getElem?, Array.getElem?_setIfInBounds]
    by_cases e2 : i = j
    · subst e2; simp [his]
    · rw [if_neg e2]
      have := hall j hj (fun h => e2 h.symm)
      simpa [Array.getD_eq_getD_getElem?] using this
theorem wp_region_late {P : Program} {ops : Array Oper} {Q : Exit → Act → World → Prop} {id : Nat} {a0 : Act} {w0 : World} (sh : Nat → Shp) (n m e t d : Nat) (hn : a0.tmps.size = n) (hm : P.follows .mixedOrders = true) (hback : backB ops = true) (hdist : distB ops = true)
    (hlast : lateB ops m e = true) (oe : Oper) (hoe : ops[e]? = some oe) (hge : oe.guard = none) (hde : oe.dst = some d) (hdn : d < n)
    (hrun : ∀ (a : Act) (u x : Value) (w : World), sl a t = .tuple #[u, x] → ∃ v, (execOp a.eval oe).run P w = .ok (.value v) w) (hdsts : dstsB (ops.extract 0 m) n = true)
    (each : EachS P ops Q a0 w0.drew sh (ops.toList.take m) 0)
    (fin : ∀ a w o, ops[m]? = some o → Below w0.heap.size w0 w → a.tmps.size = a0.tmps.size → a.defers = a0.defers → (∀ j, j < m → j ≠ e → InvS ops sh j (sl a) w) → (∀ t, (ops.toList.all fun o => o.dst != some t) = true → sl a t = sl a0 t) →
      (∃ u x, sl a t = .tuple #[u, x]) ∧ o.wp P a w (fun a' w' => a' = a ∧ ∀ b : Act, b.tmps.size = a0.tmps.size → b.defers = a0.defers → (∀ t', t' ≠ d → sl b t' = sl a t') → Q .normal b w') Q) :
    (Code.region id ops true).wp P Q a0 w0 := by
  unfold lateB at hlast
  rw [Bool.and_eq_true, Bool.and_eq_true] at hlast
  have hsz : ops.size = m + 1 := of_decide_eq_true hlast.1.1
  have hem : e < m := of_decide_eq_true hlast.1.2
  have hm' : m < ops.size := by omega
  obtain ⟨ol, hol⟩ : ∃ ol, ops[m]? = some ol := ⟨_, Array.getElem?_eq_getElem hm'⟩
  have hl2 := hlast.2
  rw [hol] at hl2
  simp only [Bool.and_eq_true] at hl2
  have hguard : ol.guard = none := by cases hg : ol.guard <;> simp [hg] at hl2 ⊢
  have hdst : ol.dst = none := by cases hg : ol.dst <;> simp [hg] at hl2 ⊢
  have hpl : ∀ i, i < m → i ≠ e → i ∈ preds ol := fun i hi hne => by
    have := List.all_eq_true.1 hl2.2 i (List.mem_range.2 hi)
    simpa [hne] using this
  have hE := each_of (Q := Q) (P := P) (a0 := a0) (W0 := w0.drew) (sh := sh) hn (ops.toList.take m) 0 (fun j o hj => by
      rw [List.getElem?_take] at hj; split at hj
      · simpa using hj
      · cases hj) (by
      unfold dstsB at hdsts
      have e : (ops.extract 0 m).toList = ops.toList.take m := by simp
      rw [e] at hdsts; exact hdsts) each
  have stepAt : ∀ i o, i < m → ops[i]? = some o → StepOf P ops Q a0 w0.drew (fun W w => Below W.heap.size W w) (fun _ w w' => Below w.heap.size w w') (InvS ops sh) i o := fun i o hi ho => by
    have := Each.get _ 0 hE i o (by rw [List.getElem?_take, if_pos hi]; simpa using ho)
    rwa [Nat.zero_add] at this
  have stable : ∀ i j oi oj (σ σ' : Nat → Value) w w', i ≠ j → ops[i]? = some oi → ops[j]? = some oj → InvS ops sh j σ w → Below w.heap.size w w' → (∀ t, oi.dst ≠ some t → σ' t = σ t) → InvS ops sh j σ' w' := by
    intro i j oi oj σ σ' w w' hij hoi hoj hI hR hσ
    unfold InvS at hI ⊢
    cases hdj : dstOf ops j with
    | none => trivial
    | some d =>
      rw [hdj] at hI
      show (sh j).ok (σ' d) w'
      have hne : oi.dst ≠ some d := by
        intro e
        have hi' : i < ops.size := (Array.getElem?_eq_some_iff.1 hoi).1
        have hj' : j < ops.size := (Array.getElem?_eq_some_iff.1 hoj).1
        have := List.all_eq_true.1 (List.all_eq_true.1 hdist i (List.mem_range.2 hi')) j (List.mem_range.2 hj')
        rw [hoi, hoj] at this
        have hdj' : oj.dst = some d := by simpa [dstOf, hoj] using hdj
        simp [e, hdj', hij] at this
      rw [hσ d hne]
      exact (sh j).keep _ _ _ hI hR
  refine wp_region_any hm ?_
  show wpAny P .any ops Q ops.size (Array.replicate ops.size false) a0 w0.drew
  have main : ∀ (fuel : Nat) (listed : Array Bool) (a : Act) (w : World), unl ops.size listed ≤ fuel → listed.getD m true = false → Below w0.heap.size w0 w → a.tmps.size = a0.tmps.size → a.defers = a0.defers →
      (∀ j o, listed.getD j false = true → ops[j]? = some o → ∀ k, k ∈ preds o → listed.getD k false = true) →
      (∀ j, j < ops.size → listed.getD j true = true → listed.getD j false = true) →
      (∀ j, j < m → listed.getD j false = true → InvS ops sh j (sl a) w) →
      (∀ t, (∀ j o, j < m → listed.getD j false = true → ops[j]? = some o → o.dst ≠ some t) → sl a t = sl a0 t) → wpAny P .any ops Q fuel listed a w := by
    intro fuel
    induction fuel with
    | zero =>
      intro listed a w hu hlm
      exfalso
      have h0 : unl ops.size listed = 0 := by omega
      unfold unl at h0
      have := List.countP_eq_zero.1 h0 m (List.mem_range.2 hm')
      simp [hlm] at this
    | succ fuel ih =>
      intro listed a w hu hlm hEw hs hd hcl hlt hI ht
      refine ⟨fun hr => ?_, fun i hi => ?_⟩
      · exfalso
        have hall : ∀ k j, j < k → j < ops.size → listed.getD j false = true := by
          intro k
          induction k with
          | zero => intro j hj; omega
          | succ k ihk =>
            intro j hj hjs
            refine hlt j hjs ?_
            cases hb : listed.getD j true with
            | true => rfl
            | false =>
              exfalso
              have ho : ops[j]? = some ops[j] := Array.getElem?_eq_getElem hjs
              have : j ∈ Region.ready .any ops listed := mem_ready.2 ⟨hjs, hb, _, ho, fun q hq => by
                have hbk := List.all_eq_true.1 hback j (List.mem_range.2 hjs)
                rw [ho] at hbk
                have hkj := of_decide_eq_true (List.all_eq_true.1 hbk q hq)
                exact ihk q (by omega) (by omega)⟩
              rw [hr] at this; cases this
        have hx := hall (m + 1) m (by omega) hm'
        rcases Nat.lt_or_ge m listed.size with h | h
        · simp [Array.getD_eq_getD_getElem?, h] at hlm hx; rw [hlm] at hx; cases hx
        · simp [Array.getD_eq_getD_getElem?, Array.getElem?_eq_none h] at hx
      · obtain ⟨h1, h2, o, ho, h3⟩ := mem_ready.1 hi
        have hnl : listed.getD i false ≠ true := by
          intro hx
          rcases Nat.lt_or_ge i listed.size with h | h
          · simp [Array.getD_eq_getD_getElem?, h] at h2 hx; rw [h2] at hx; cases hx
          · simp [Array.getD_eq_getD_getElem?, Array.getElem?_eq_none h] at hx
        have his : i < listed.size := by
          rcases Nat.lt_or_ge i listed.size with h | h
          · exact h
          · simp [Array.getD_eq_getD_getElem?, Array.getElem?_eq_none h] at h2
        have gset : ∀ j (d : Bool), (listed.setIfInBounds i true).getD j d = if i = j then true else listed.getD j d := by
          intro j d
          simp only [Array.getD_eq_getD_getElem?, Array.getElem?_setIfInBounds]
          by_cases e : i = j
          · subst e; simp [his]
          · simp [e]
        by_cases him : i = m
        · subst him
          rw [hol] at ho; cases ho
          obtain ⟨⟨u, x, htu⟩, hf⟩ := fin a w ol hol hEw hs hd (fun j hj hje => hI j hj (h3 j (hpl j hj hje))) (fun t htt => ht t (fun j oj hj _ hoj => by
            have := List.all_eq_true.1 htt oj (by rw [Array.mem_toList_iff]; exact Array.mem_of_getElem? hoj)
            simpa using this))
          unfold wpOp
          rw [hol]
          show if Region.wanted ol (yielded ops a.tmps) = true then _ else _
          rw [if_pos (by simp [Region.wanted, hguard])]
          have toT : ∀ j, listed.getD j false = true → listed.getD j true = true := fun j hjl => by
            rcases Nat.lt_or_ge j listed.size with h | h
            · simp [Array.getD_eq_getD_getElem?, h] at hjl ⊢; exact hjl
            · simp [Array.getD_eq_getD_getElem?, Array.getElem?_eq_none h] at hjl
          refine .inl (Oper.wp_mono (fun a' w' hq => ?_) hf)
          obtain ⟨rfl, hq⟩ := hq
          cases hle : listed.getD e true with
          | true =>
            refine wpAny_done _ (fun j hj => ?_) (hq a' hs hd (fun _ _ => rfl))
            rw [gset]
            by_cases e2 : i = j
            · rw [if_pos e2]
            · rw [if_neg e2]
              by_cases e3 : j = e
              · subst e3; exact hle
              · exact toT j (h3 j (hpl j (by omega) e3))
          | false =>
            obtain ⟨v, hv⟩ := hrun a' u x w' htu
            refine wpAny_one _ hoe (fun j hj hje => ?_) (by rw [gset, if_neg (by omega)]; exact hle) (fun k hk => ?_) (by have := unl_set (n := ops.size) h1 h2; omega) hge ?_
            · rw [gset]
              by_cases e2 : i = j
              · rw [if_pos e2]
              · rw [if_neg e2]; exact toT j (h3 j (hpl j (by omega) hje))
            · have hbk := List.all_eq_true.1 hback e (List.mem_range.2 (by omega))
              rw [hoe] at hbk
              have hke := of_decide_eq_true (List.all_eq_true.1 hbk k hk)
              rw [gset, if_neg (by omega)]
              exact h3 k (hpl k (by omega) (by omega))
            · refine wp_val v hv ?_
              refine hq _ ((put_size _ _ _).trans hs) ((put_defers _ _ _).trans hd) (fun t' ht' => ?_)
              rw [hde, put_sl _ _ _ _ (fun h => ht' (by injection h with h; exact h.symm))]
        · have him' : i < m := by omega
          have hst := stepAt i o him' ho
          have hst' := hst a w ⟨hEw.os, hEw.tape, hEw.output, hEw.size, hEw.block⟩ hs (fun k hk => hI k (by
              have hbk := List.all_eq_true.1 hback i (List.mem_range.2 h1)
              rw [ho] at hbk
              have := of_decide_eq_true (List.all_eq_true.1 hbk k hk); omega) (h3 k hk)) (fun t hti => by
            refine ht t (fun j oj hj hlj hoj hdj => ?_)
            have := List.all_eq_true.1 hti j (List.mem_range.2 (by omega))
            rw [hoj] at this
            by_cases e : j = i
            · subst e; exact hnl hlj
            · simp [e, hdj] at this
              exact hnl (hcl j oj hlj hoj i this))
          have next : ∀ (v : Value) (w' : World), Below w.heap.size w w' → InvS ops sh i (sl (a.put o.dst v)) w' → wpAny P .any ops Q fuel (listed.setIfInBounds i true) (a.put o.dst v) w' := by
            intro v w' hR hIi
            refine ih _ _ _ (by have := unl_set (n := ops.size) h1 h2; omega) (by rw [gset, if_neg him]; exact hlm) (hEw.trans (hR.mono hEw.size)) ((put_size _ _ _).trans hs) ((put_defers _ _ _).trans hd) ?_ ?_ ?_ ?_
            · intro j oj hj hoj k hk
              rw [gset] at hj ⊢
              by_cases e : i = k
              · rw [if_pos e]
              · rw [if_neg e]
                by_cases e' : i = j
                · subst e'; rw [ho] at hoj; cases hoj; exact h3 k hk
                · rw [if_neg e'] at hj; exact hcl j oj hj hoj k hk
            · intro j hj hl
              rw [gset] at hl ⊢
              by_cases e : i = j
              · rw [if_pos e]
              · rw [if_neg e] at hl ⊢; exact hlt j hj hl
            · intro j hj hl
              rw [gset] at hl
              by_cases e : i = j
              · subst e; exact hIi
              · rw [if_neg e] at hl
                have hoj : ops[j]? = some ops[j] := Array.getElem?_eq_getElem (by omega)
                exact stable i j o _ (sl a) _ w w' e ho hoj (hI j hj hl) hR (fun t h => put_sl _ _ _ _ h)
            · intro t htt
              have hdt : o.dst ≠ some t := htt i o him' (by rw [gset, if_pos rfl]) ho
              rw [put_sl _ _ _ _ hdt]
              exact ht t (fun j oj hj hl hoj => htt j oj hj (by rw [gset]; split <;> simp [hl]) hoj)
          unfold wpOp
          rw [ho]
          show if Region.wanted o (yielded ops a.tmps) = true then _ else _
          split
          · rename_i hw
            rw [if_pos hw] at hst'
            exact .inl (Oper.wp_mono (fun a' w' ⟨v, e, hR, hIi⟩ => by rw [e] at hIi ⊢; exact next v w' hR hIi) hst')
          · rename_i hw
            rw [if_neg hw] at hst'
            exact next undef w hst'.1 hst'.2
  refine main ops.size _ a0 w0.drew ?_ ?_ ⟨rfl, rfl, rfl, Nat.le_refl _, fun _ _ => rfl⟩ rfl rfl ?_ ?_ ?_ ?_
  · unfold unl; exact Nat.le_trans List.countP_le_length (by simp)
  · simp [Array.getD_eq_getD_getElem?, Array.getElem?_replicate, hm']
  · intro j o hj; simp [Array.getD_eq_getD_getElem?, Array.getElem?_replicate] at hj
    split at hj <;> simp at hj
  · intro j hj hl; simp [Array.getD_eq_getD_getElem?, Array.getElem?_replicate, hj] at hl
  · intro j hj hl; simp [Array.getD_eq_getD_getElem?, Array.getElem?_replicate, show j < ops.size by omega] at hl
  · intro t _; rfl
/-- a row in memory from block B on -/
def RowN (B : Nat) (r : List UInt8 × List UInt8) (v : Value) (w : World) : Prop := ∃ p1 n1 c1 p2 n2 c2, v = .agg #[.slice p1 n1 c1, .slice p2 n2 c2] ∧ Sl B8 w p1 n1 c1 r.1 ∧ Sl B8 w p2 n2 c2 r.2 ∧ (∀ a, p1 = some a → B ≤ a.block) ∧ ∀ a, p2 = some a → B ≤ a.block
def Shp.rowN (B : Nat) (r : List UInt8 × List UInt8) : Shp := ⟨RowN B r, fun _ _ _ ⟨p1, n1, c1, p2, n2, c2, e, h1, h2, h3, h4⟩ hb => ⟨p1, n1, c1, p2, n2, c2, e, h1.keep hb, h2.keep hb, h3, h4⟩⟩
def RowTN (B : Nat) (r : List UInt8 × List UInt8) (code : Int) (v : Value) (w : World) : Prop := ∃ u, v = .tuple #[u, .int .i64 code] ∧ RowN B r u w
def Shp.rowTN (B : Nat) (r : List UInt8 × List UInt8) (code : Int) : Shp := ⟨RowTN B r code, fun _ _ _ ⟨u, e, h⟩ hb => ⟨u, e, (Shp.rowN B r).keep _ _ _ h hb⟩⟩
theorem grownBy_setCell' (w : World) (g o : Nat) (v : Value) : w.grownBy (w.setCell ⟨g, o, none⟩ v) (some g) :=
  ⟨rfl, rfl, rfl, by simp, fun b hb hne => Below.heap_setCell _ _ _ _ (fun e => hne (by rw [e]))⟩
theorem Sl.set {α : Type} {enc : α → Value} {w : World} {p : Option Addr} {n c g o : Nat} {v : Value} {xs : List α} (h : Sl enc w p n c xs) (hne : ∀ a, p = some a → a.block ≠ g) : Sl enc (w.setCell ⟨g, o, none⟩ v) p n c xs :=
  h.grown (grownBy_setCell' w g o v) (fun a ha e => hne a ha (by injection e))
theorem run_extract0 {P : Program} {a : Act} {u x : Value} {w : World} {t : Nat} (oe : Oper) (hop : oe.op = .extract (.tmp t) 0) (h : sl a t = .tuple #[u, x]) : ∃ v, (execOp a.eval oe).run P w = .ok (.value v) w :=
  ⟨u, by unfold execOp; rw [hop]; simp only [eval_tmp, h]; rfl⟩
theorem run_extract1 {P : Program} {a : Act} {u x : Value} {w : World} {t : Nat} (oe : Oper) (hop : oe.op = .extract (.tmp t) 1) (h : sl a t = .tuple #[u, x]) : ∃ v, (execOp a.eval oe).run P w = .ok (.value v) w :=
  ⟨x, by unfold execOp; rw [hop]; simp only [eval_tmp, h]; rfl⟩
end Go.By
namespace Go.Proofs.YtcfdopiponlboaaGreatDoor
open Go.RowKit Go.By
theorem info_vrow : (Tryz.prog.info? 47).map (fun i => (i.zero, i.size, i.bytes)) = some (some (.agg #[.slice none 0 0, .slice none 0 0]), 2, 48) := by kernel_rfl
/-- the rows kept of the first k -/
def kF (wd : Nat) (cells : List UInt8) (k : Nat) : List Rw := ((List.range k).map (rowF wd cells)).foldl (fun K r => keepF K (r, [])) []
theorem kF_succ (wd : Nat) (cells : List UInt8) (k : Nat) : kF wd cells (k + 1) = keepF (kF wd cells k) (rowF wd cells k, []) := by
  unfold kF; rw [List.range_succ, List.map_append, List.foldl_append]; rfl
theorem keepF_len (K : List Rw) (x : Rw) : (keepF K x).length ≤ K.length + 1 := by unfold keepF; split <;> simp
theorem kF_len (wd : Nat) (cells : List UInt8) : ∀ k, (kF wd cells k).length ≤ k
  | 0 => by simp [kF]
  | k + 1 => by rw [kF_succ]; exact Nat.le_trans (keepF_len _ _) (Nat.succ_le_succ (kF_len wd cells k))
theorem rowF_len {h wd i : Nat} {cells : List UInt8} (hl : cells.length = h * wd) (hi : i < h) : (rowF wd cells i).length = wd := by
  have : (i + 1) * wd ≤ h * wd := Nat.mul_le_mul_right _ hi
  rw [Nat.add_mul, Nat.one_mul] at this
  unfold rowF; rw [List.length_take, List.length_drop]; omega
theorem kF_kept {h wd : Nat} {cells : List UInt8} (hl : cells.length = h * wd) : ∀ k, k ≤ h → Kept wd 0 (kF wd cells k)
  | 0, _ => Kept.nil wd 0
  | k + 1, hk => by rw [kF_succ]; exact (kF_kept hl k (by omega)).step ⟨rowF_len hl (by omega), rfl⟩
theorem restF_snoc (K : List Rw) (k x : Rw) : restF (K ++ [k]) x = lessF (restF K x) (atS (restF K x).1 (leadS k.1)) k := by unfold restF; rw [List.foldl_append]; rfl
theorem restF_take {K : List Rw} {j : Nat} {k x : Rw} (h : K[j]? = some k) : restF (K.take (j + 1)) x = lessF (restF (K.take j) x) (atS (restF (K.take j) x).1 (leadS k.1)) k := by
  have e : K.take (j + 1) = K.take j ++ [k] := by
    rw [List.take_add_one, h]; rfl
  rw [e, restF_snoc]
theorem lessS_fit {n t : Nat} {x k : Rw} {c : UInt8} (hx : Fit n t x) (hk : Fit n t k) : lessS x c k = (lessF x c k, 0) := by
  unfold lessS lessF
  rw [if_pos ⟨by rw [hx.1, hk.1], by rw [hx.2, hk.2]⟩]
set_option maxRecDepth 100000 in
set_option maxHeartbeats 4000000 in
theorem Rank_any (h wd : Nat) (p : Option Addr) (n c : Nat) (cells : List UInt8) (w : World) (hs : Sl B8 w p n c cells) (hn : n = h * wd) (hr : Room wd) (hh : h ≤ 65536) :
    Calls Tryz.prog 26 #[.agg #[.int .i64 h, .int .i64 wd, .slice p n c]] w fun e w' => e = .returned (.int .i64 (kF wd cells h).length) ∧ Below w.heap.size w w' := by
  obtain ⟨r0, hr0, hrz, hr1, hr2⟩ := info_parts info_vrow
  have HKK : Hid (∀ k, k ≤ h → Kept wd 0 (kF wd cells k)) := kF_kept (by rw [hs.len, hn])
  have HRL : Hid (∀ i, i < h → (rowF wd cells i).length = wd) := fun i hi => rowF_len (by rw [hs.len, hn]) hi
  have HS := Lib.hid hs; have HN := Lib.hid hn
  have HR := Lib.hid hr
  have HB : Hid (∀ o, Below w.heap.size w (w.alloc o)) := fun o => al (Below.refl _ _) (Nat.le_refl _)
  clear hs hn hr
  go_enter Tryz.func26, Tryz.ntmps26
  go_wp2
  go_loopw [3, 10] (fun kept i wr => ∃ (k nk : Nat) (qk : Option Addr) (ck : Nat), k ≤ h ∧ nk ≤ k ∧ i = .int .i64 k ∧ kept = .slice qk nk ck ∧ Hid (RwL 47 5 wr w.heap.size (.slice qk nk ck) nk (kF wd cells k)) ∧ Hid (Below w.heap.size w wr) ∧
    Hid (wr.heap[w.heap.size]? = some (.cells #[.int .i64 h, .int .i64 wd, .slice p n c] 79 (0, 0)))) (fun _ i _ => h - (intOf i).toNat)
  case atStart => exact ⟨0, 0, none, 0, Nat.zero_le _, Nat.zero_le _, rfl, rfl, RwL.nil _ _ _ _, HB.out _, hnew rfl⟩
  case round =>
    obtain ⟨k, nk, qk, ck, hk, hnk, rfl, rfl, hK, hBw, hX⟩ := hrel
    by_cases hlt : k < h
    · obtain ⟨x0, x1, x2⟩ := cells3 hX.out
      go_wp2_with fail
      refine Calls.mono (row_any h wd k p n c cells wr (HS.out.keep hBw.out) HN.out hlt (by omega)) ?_
      rintro e w2 ⟨q', c', rfl, hs', -, hb'⟩
      have HS' := Lib.hid hs'
      have HB2 := Lib.hid hb'
      clear x0 x1 x2 hs' hb'
      go_wp2_with fail
      refine Calls.mono (Of_any q' none wd c' 0 0 (rowF wd cells k) [] w2 HS'.out (Sl.nil0 _ _) HR.out (show Room 0 by unfold Room; omega)) ?_
      rintro e w3 ⟨q1, m1, g1, q2, m2, g2, l1, l2, rfl, o1, o2, hb3⟩
      have HB3 : Hid (Below wr.heap.size wr w3) := bl HB2.out hb3 HB2.out.size
      have S1 := Lib.hid (Sl.of_owns o1); have S2 := Lib.hid (Sl.of_owns o2)
      have K3 : Hid (RwL 47 5 w3 w.heap.size (.slice qk nk ck) nk (kF wd cells k)) := hK.out.keep HB3.out
      have BW3 : Hid (Below w.heap.size w w3) := bl hBw.out HB3.out hBw.out.size
      have X3 : Hid (w3.heap[w.heap.size]? = some (.cells #[.int .i64 h, .int .i64 wd, .slice p n c] 79 (0, 0))) := (HB3.out.block _ (blk_lt hX.out)).trans hX.out
      have hkb : nk ≤ 65536 := by omega
      have HKB : Hid (∀ kk, (Value.slice qk nk ck).ownBlock = some kk → kk < w3.heap.size) := fun kk hk => (K3.out.lt kk hk).2
      clear hK hBw hX o1 o2 hb3 HB2 HB3 HS'
      go_wp2
      go_loopw [19] (fun i wq => ∃ (j : Nat) (q1 : Option Addr) (m1 g1 : Nat) (q2 : Option Addr) (m2 g2 : Nat), j ≤ nk ∧ i = .int .i64 j ∧ Hid (wq.heap[w3.heap.size]? = some (.cells #[.slice q1 m1 g1, .slice q2 m2 g2] 47 (0, 0))) ∧
        Hid (Sl B8 wq q1 m1 g1 (restF ((kF wd cells k).take j) (rowF wd cells k, [])).1) ∧ Hid (Sl B8 wq q2 m2 g2 (restF ((kF wd cells k).take j) (rowF wd cells k, [])).2) ∧
        Hid (RwL 47 5 wq w.heap.size (.slice qk nk ck) nk (kF wd cells k)) ∧ Hid (Below w.heap.size w wq) ∧ Hid (wq.heap[w.heap.size]? = some (.cells #[.int .i64 h, .int .i64 wd, .slice p n c] 79 (0, 0)))) (fun i _ => nk - (intOf i).toNat)
      case atStart => exact ⟨0, q1, m1, g1, q2, m2, g2, Nat.zero_le _, rfl, hnew rfl, S1.out.keep (al (Below.refl _ _) (Nat.le_refl _)), S2.out.keep (al (Below.refl _ _) (Nat.le_refl _)), K3.out.keep (al (Below.refl _ _) (Nat.le_refl _)), al BW3.out BW3.out.size, hal X3.out⟩
      case round =>
        clear S1 S2 K3 X3 l1 l2
        obtain ⟨j, q1, m1, g1, q2, m2, g2, hj, rfl, hL, hS1, hS2, hK, hBw, hX⟩ := hrel
        by_cases hjl : j < nk
        · obtain ⟨gk, kk, a1, b1, d1, a2, b2, d2, rfl, e1, e2, hkk, t1, t2⟩ := hK.out.at hjl
          have T1 := Lib.hid t1; have T2 := Lib.hid t2
          have jn : (j : Int) < (nk : Int) := by omega
          obtain ⟨y0, y1⟩ := cells2 hL.out
          have E1 := Lib.hid e1; have E2 := Lib.hid e2
          have hx : Fit wd 0 (rowF wd cells k, []) := ⟨HRL.out k hlt, rfl⟩
          have hkept := HKK.out k (by omega)
          have fitK : Fit wd 0 kk := (hkept.rows kk (List.mem_of_getElem? hkk.out)).1
          obtain ⟨XJ, hXJ⟩ : ∃ XJ, XJ = restF ((kF wd cells k).take j) (rowF wd cells k, []) := ⟨_, rfl⟩
          have fitX : Fit wd 0 XJ := by rw [hXJ]; exact hx.rest (fun a ha => (hkept.rows a (List.mem_of_mem_take ha)).1)
          rw [← hXJ] at hS1 hS2
          obtain ⟨LJ, hLJ⟩ : ∃ LJ, LJ = leadS kk.1 := ⟨_, rfl⟩
          obtain ⟨CJ, hCJ⟩ : ∃ CJ, CJ = atS XJ.1 LJ := ⟨_, rfl⟩
          obtain ⟨YJ, hYJ⟩ : ∃ YJ, YJ = lessF XJ CJ kk := ⟨_, rfl⟩
          have hnext : Hid (restF ((kF wd cells k).take (j + 1)) (rowF wd cells k, []) = YJ) := by show _ = _; rw [restF_take hkk.out, ← hXJ, hYJ, hCJ, hLJ]
          have lm1 : m1 = wd := by have := hS1.out.len; rw [fitX.1] at this; exact this.symm
          have lm2 : m2 = 0 := by have := hS2.out.len; rw [fitX.2] at this; exact this.symm
          have HLD : Hid (∀ W, Sl B8 W a1 b1 d1 kk.1 → Calls Tryz.prog 69 #[.slice a1 b1 d1] W fun e w' => e = .returned (.int .i64 LJ) ∧ W = w') := fun W h => by rw [hLJ]; exact Lead_any _ _ _ _ W h
          have HAT : Hid (∀ W, Sl B8 W q1 m1 g1 XJ.1 → Calls Tryz.prog 68 #[.slice q1 m1 g1, .int .i64 LJ] W fun e w' => e = .returned (B8 CJ) ∧ W = w') := fun W h => by rw [hCJ]; exact At_any _ _ _ _ LJ W h
          have HLS : Hid (∀ W, Sl B8 W q1 m1 g1 XJ.1 → Sl B8 W q2 m2 g2 XJ.2 → Sl B8 W a1 b1 d1 kk.1 → Sl B8 W a2 b2 d2 kk.2 → Calls Tryz.prog 67 #[.agg #[.slice q1 m1 g1, .slice q2 m2 g2], B8 CJ, .agg #[.slice a1 b1 d1, .slice a2 b2 d2]] W (RetR2 5 W YJ 0)) := fun W h1 h2 h3 h4 => by
            have := Less_any q1 q2 a1 a2 m1 g1 m2 g2 b1 d1 b2 d2 XJ.1 XJ.2 kk.1 kk.2 CJ W h1 h2 h3 h4 (by rw [lm1]; exact HR.out) (by rw [lm2]; unfold Room; omega)
            rw [lessS_fit (n := wd) (t := 0) (x := XJ) (k := kk) fitX fitK, ← hYJ] at this
            exact this
          have AL : Hid (Below wr.heap.size wr (wr.alloc (.cells #[.slice a1 b1 d1, .slice a2 b2 d2] 47))) := al (Below.refl _ _) (Nat.le_refl _)
          have hsz3 : Hid (w.heap.size ≤ w3.heap.size) := BW3.out.size
          have hne3 : Hid (w.heap.size ≠ w3.heap.size) := fun e => by have h1 := hX.out; have h2 := hL.out; rw [e] at h1; rw [h1] at h2; injection h2 with h2; injection h2 with h2 h3; exact absurd (congrArg Array.size h2) (by simp)
          have hNX : Hid (∀ (w9 : World) (q5 : Option Addr) (m5 g5 : Nat) (q6 : Option Addr) (m6 g6 : Nat), Below wr.heap.size wr w9 → Sl B8 w9 q5 m5 g5 YJ.1 → Sl B8 w9 q6 m6 g6 YJ.2 → (∀ a, q5 = some a → wr.heap.size ≤ a.block) → (∀ a, q6 = some a → wr.heap.size ≤ a.block) →
              ((w9.setCell ⟨w3.heap.size, 0, none⟩ (.slice q5 m5 g5)).setCell ⟨w3.heap.size, 1, none⟩ (.slice q6 m6 g6)).heap[w3.heap.size]? = some (.cells #[.slice q5 m5 g5, .slice q6 m6 g6] 47 (0, 0)) ∧
              Sl B8 ((w9.setCell ⟨w3.heap.size, 0, none⟩ (.slice q5 m5 g5)).setCell ⟨w3.heap.size, 1, none⟩ (.slice q6 m6 g6)) q5 m5 g5 (restF ((kF wd cells k).take (j + 1)) (rowF wd cells k, [])).1 ∧
              Sl B8 ((w9.setCell ⟨w3.heap.size, 0, none⟩ (.slice q5 m5 g5)).setCell ⟨w3.heap.size, 1, none⟩ (.slice q6 m6 g6)) q6 m6 g6 (restF ((kF wd cells k).take (j + 1)) (rowF wd cells k, [])).2 ∧
              RwL 47 5 ((w9.setCell ⟨w3.heap.size, 0, none⟩ (.slice q5 m5 g5)).setCell ⟨w3.heap.size, 1, none⟩ (.slice q6 m6 g6)) w.heap.size (.slice (some ⟨gk, 0, none⟩) nk ck) nk (kF wd cells k) ∧
              Below w.heap.size w ((w9.setCell ⟨w3.heap.size, 0, none⟩ (.slice q5 m5 g5)).setCell ⟨w3.heap.size, 1, none⟩ (.slice q6 m6 g6)) ∧
              ((w9.setCell ⟨w3.heap.size, 0, none⟩ (.slice q5 m5 g5)).setCell ⟨w3.heap.size, 1, none⟩ (.slice q6 m6 g6)).heap[w.heap.size]? = some (.cells #[.int .i64 h, .int .i64 wd, .slice p n c] 79 (0, 0))) := by
            intro w9 q5 m5 g5 q6 m6 g6 b9 s5 s6 s7 s8
            have L9 : w9.heap[w3.heap.size]? = some (.cells #[.slice q1 m1 g1, .slice q2 m2 g2] 47 (0, 0)) := (b9.block _ (blk_lt hL.out)).trans hL.out
            have X9 : w9.heap[w.heap.size]? = some (.cells #[.int .i64 h, .int .i64 wd, .slice p n c] 79 (0, 0)) := (b9.block _ (blk_lt hX.out)).trans hX.out
            have K9 := hK.out.keep b9
            rw [hnext.out]
            have hl3 := blk_lt hL.out
            have ne5 : ∀ a, q5 = some a → a.block ≠ w3.heap.size := fun a ha => by have := s7 a ha; omega
            have ne6 : ∀ a, q6 = some a → a.block ≠ w3.heap.size := fun a ha => by have := s8 a ha; omega
            have gb := grown_trans (grownBy_setCell' w9 w3.heap.size 0 (.slice q5 m5 g5)) (grownBy_setCell' (w9.setCell ⟨w3.heap.size, 0, none⟩ (.slice q5 m5 g5)) w3.heap.size 1 (.slice q6 m6 g6))
            have hgk : (Value.slice (some ⟨gk, 0, none⟩) nk ck).ownBlock ≠ some w3.heap.size := fun e => Nat.lt_irrefl _ (HKB.out _ e)
            exact ⟨hss (hss L9), (s5.set ne5).set ne5, (s6.set ne6).set ne6, K9.set L9 (by decide) hgk gb, ((bl hBw.out b9 hBw.out.size).setCell hsz3.out _).setCell hsz3.out _, hsc (hsc X9 hne3.out) hne3.out⟩
          have z0 : (wr.alloc (.cells #[.slice a1 b1 d1, .slice a2 b2 d2] 47)).cell? ⟨wr.heap.size, 0, none⟩ = some (.slice a1 b1 d1) := cell_of_row _ _ 0 _ _ _ (hnew rfl)
          have z1 : (wr.alloc (.cells #[.slice a1 b1 d1, .slice a2 b2 d2] 47)).cell? ⟨wr.heap.size, 1, none⟩ = some (.slice a2 b2 d2) := cell_of_row _ _ 1 _ _ _ (hnew rfl)
          clear hXJ hLJ hCJ hYJ hx hkept fitK fitX lm1 lm2 t1 t2
          clear z0 z1 y0 y1
          go_wp2
          have z0 : (wr.alloc (.cells #[.slice a1 b1 d1, .slice a2 b2 d2] 47)).cell? ⟨wr.heap.size, 0, none⟩ = some (.slice a1 b1 d1) := cell_of_row _ _ 0 _ _ _ (hnew rfl)
          have z1 : (wr.alloc (.cells #[.slice a1 b1 d1, .slice a2 b2 d2] 47)).cell? ⟨wr.heap.size, 1, none⟩ = some (.slice a2 b2 d2) := cell_of_row _ _ 1 _ _ _ (hnew rfl)
          obtain ⟨y0, y1⟩ := cells2 (hal (o := .cells #[.slice a1 b1 d1, .slice a2 b2 d2] 47) hL.out)
          refine wp_region_late (fun ix => ([.val (.agg #[.slice q1 m1 g1, .slice q2 m2 g2]), .val (.pointer (some ⟨w3.heap.size, 0, none⟩)), .val (.slice q1 m1 g1), .val (.pointer (some ⟨wr.heap.size, 0, none⟩)), .val (.slice a1 b1 d1), .val (.int .i64 LJ), .val (B8 CJ), .val (.agg #[.slice a1 b1 d1, .slice a2 b2 d2]), .rowTN (wr.heap.size) (YJ) (0), .rowTN (wr.heap.size) (YJ) (0), .rowN (wr.heap.size) (YJ), .val (.int .i64 0), .any][ix]?).getD (.any)) 48 12 11 23 34 rfl (by kernel_rfl) (by decide) (by decide) (by decide) _ rfl rfl rfl (by decide) (fun a u x w h => run_extract1 _ rfl h) (by decide) ?_ ?_
          · refine ⟨?_, ?_, ?_, ?_, ?_, ?_, ?_, ?_, ?_, ?_, ?_, ?_, trivial⟩
            · intro a W hb0 hs hp hi; have hb := undrew hb0; clear hb0
              have tt : sl a 5 = .pointer (some ⟨w3.heap.size, 0, none⟩) := hi 5 (by decide)
              have dd0 := (hb.cell (p := ⟨w3.heap.size, 0, none⟩) (lt_of_cell y0)).trans y0
              have dd1 := (hb.cell (p := ⟨w3.heap.size, 1, none⟩) (lt_of_cell y1)).trans y1
              refine ite_y rfl (wp_val (.agg #[.slice q1 m1 g1, .slice q2 m2 g2]) ?_ ?_)
              · simp only [execOp, eval_tmp, tt]; simp [go_sem, dd0, dd1]
              · exact ⟨_, rfl, Below.refl _ _, rfl⟩
            · intro a W hb0 hs hp hi; have hb := undrew hb0; clear hb0
              have t5 : sl a 5 = .pointer (some ⟨w3.heap.size, 0, none⟩) := hi 5 (by decide)
              refine ite_y rfl (wp_val (.pointer (some ⟨w3.heap.size, 0, none⟩)) ?_ ?_)
              · simp only [execOp, eval_tmp, eval_const, t5]; simp [go_sem]
              · exact ⟨_, rfl, Below.refl _ _, rfl⟩
            · intro a W hb0 hs hp hi; have hb := undrew hb0; clear hb0
              have tt : sl a 25 = .pointer (some ⟨w3.heap.size, 0, none⟩) := hp 1 (by decide)
              have dd0 := (hb.cell (p := ⟨w3.heap.size, 0, none⟩) (lt_of_cell y0)).trans y0
              refine ite_y rfl (wp_val (.slice q1 m1 g1) ?_ ?_)
              · simp only [execOp, eval_tmp, tt]; simp [go_sem, dd0]
              · exact ⟨_, rfl, Below.refl _ _, rfl⟩
            · intro a W hb0 hs hp hi; have hb := undrew hb0; clear hb0
              have t7 : sl a 7 = .pointer (some ⟨wr.heap.size, 0, none⟩) := hi 7 (by decide)
              refine ite_y rfl (wp_val (.pointer (some ⟨wr.heap.size, 0, none⟩)) ?_ ?_)
              · simp only [execOp, eval_tmp, eval_const, t7]; simp [go_sem]
              · exact ⟨_, rfl, Below.refl _ _, rfl⟩
            · intro a W hb0 hs hp hi; have hb := undrew hb0; clear hb0
              have tt : sl a 27 = .pointer (some ⟨wr.heap.size, 0, none⟩) := hp 3 (by decide)
              have dd0 := (hb.cell (p := ⟨wr.heap.size, 0, none⟩) (lt_of_cell z0)).trans z0
              refine ite_y rfl (wp_val (.slice a1 b1 d1) ?_ ?_)
              · simp only [execOp, eval_tmp, tt]; simp [go_sem, dd0]
              · exact ⟨_, rfl, Below.refl _ _, rfl⟩
            · intro a W hb0 hs hp hi; have hb := undrew hb0; clear hb0
              have t28 : sl a 28 = .slice a1 b1 d1 := hp 4 (by decide)
              refine ite_y rfl (wp_enter 69 #[.slice a1 b1 d1] ?_ (HLD.out _ (T1.out.keep (AL.out.trans (hb.mono AL.out.size)))) ?_)
              · simp only [execOp, resolve, List.map_toArray, List.map, eval_tmp, eval_func, eval_const, t28]; simp [go_sem]
              · rintro e W' ⟨rfl, rfl⟩; exact ⟨_, rfl, _, rfl, Below.refl _ _, rfl⟩
            · intro a W hb0 hs hp hi; have hb := undrew hb0; clear hb0
              have t26 : sl a 26 = .slice q1 m1 g1 := hp 2 (by decide)
              have t29 : sl a 29 = .int .i64 LJ := hp 5 (by decide)
              refine ite_y rfl (wp_enter 68 #[.slice q1 m1 g1, .int .i64 LJ] ?_ (HAT.out _ (hS1.out.keep (AL.out.trans (hb.mono AL.out.size)))) ?_)
              · simp only [execOp, resolve, List.map_toArray, List.map, eval_tmp, eval_func, eval_const, t26, t29]; simp [go_sem]
              · rintro e W' ⟨rfl, rfl⟩; exact ⟨_, rfl, _, rfl, Below.refl _ _, rfl⟩
            · intro a W hb0 hs hp hi; have hb := undrew hb0; clear hb0
              have tt : sl a 7 = .pointer (some ⟨wr.heap.size, 0, none⟩) := hi 7 (by decide)
              have dd0 := (hb.cell (p := ⟨wr.heap.size, 0, none⟩) (lt_of_cell z0)).trans z0
              have dd1 := (hb.cell (p := ⟨wr.heap.size, 1, none⟩) (lt_of_cell z1)).trans z1
              refine ite_y rfl (wp_val (.agg #[.slice a1 b1 d1, .slice a2 b2 d2]) ?_ ?_)
              · simp only [execOp, eval_tmp, tt]; simp [go_sem, dd0, dd1]
              · exact ⟨_, rfl, Below.refl _ _, rfl⟩
            · intro a W hb0 hs hp hi; have hb := undrew hb0; clear hb0
              have t24 : sl a 24 = .agg #[.slice q1 m1 g1, .slice q2 m2 g2] := hp 0 (by decide)
              have t30 : sl a 30 = B8 CJ := hp 6 (by decide)
              have t31 : sl a 31 = .agg #[.slice a1 b1 d1, .slice a2 b2 d2] := hp 7 (by decide)
              refine ite_y rfl (wp_enter 67 #[.agg #[.slice q1 m1 g1, .slice q2 m2 g2], B8 CJ, .agg #[.slice a1 b1 d1, .slice a2 b2 d2]] ?_ (HLS.out _ (hS1.out.keep (AL.out.trans (hb.mono AL.out.size))) (hS2.out.keep (AL.out.trans (hb.mono AL.out.size))) (T1.out.keep (AL.out.trans (hb.mono AL.out.size))) (T2.out.keep (AL.out.trans (hb.mono AL.out.size)))) ?_)
              · simp only [execOp, resolve, List.map_toArray, List.map, eval_tmp, eval_func, eval_const, t24, t30, t31]; simp [go_sem]
              · rintro e W' ⟨q5, m5, g5, q6, m6, g6, e5, e6, rfl, o5, o6, hw⟩; have hbs := hb.size; simp at hbs; exact ⟨_, rfl, _, rfl, hw, _, rfl, q5, m5, g5, q6, m6, g6, rfl, Sl.of_owns o5, Sl.of_owns o6, fun a ha => Nat.le_trans (by omega) (owns_new o5 a ha).1, fun a ha => Nat.le_trans (by omega) (owns_new o6 a ha).1⟩
            · intro a W hb0 hs hp hi; have hb := undrew hb0; clear hb0
              have tt : RowTN (wr.heap.size) (YJ) (0) (sl a 32) W := hp 8 (by decide)
              exact ite_y rfl (wp_val (sl a 32) rfl ⟨_, rfl, Below.refl _ _, tt⟩)
            · intro a W hb0 hs hp hi; have hb := undrew hb0; clear hb0
              have tt : RowTN (wr.heap.size) (YJ) (0) (sl a 23) W := hp 9 (by decide)
              obtain ⟨u, tt, hr⟩ := tt
              exact ite_y rfl (wp_val u (by simp only [execOp, eval_tmp, tt]; rfl) ⟨_, rfl, Below.refl _ _, hr⟩)
            · intro a W hb0 hs hp hi; have hb := undrew hb0; clear hb0
              have tt : RowTN (wr.heap.size) (YJ) (0) (sl a 23) W := hp 9 (by decide)
              obtain ⟨u, tt, hr⟩ := tt
              exact ite_y rfl (wp_val (.int .i64 0) (by simp only [execOp, eval_tmp, tt]; rfl) ⟨_, rfl, Below.refl _ _, rfl⟩)
          · intro a w9 o ho hb hs hd hI ht
            simp at ho; subst ho
            have t5 : sl a 5 = .pointer (some ⟨w3.heap.size, 0, none⟩) := ht 5 (by decide)
            have t23 : RowTN (wr.heap.size) (YJ) (0) (sl a 23) w9 := hI 9 (by decide) (by decide)
            have t33 : RowN (wr.heap.size) (YJ) (sl a 33) w9 := hI 10 (by decide) (by decide)
            obtain ⟨uu, t23, -⟩ := t23
            obtain ⟨q5, m5, g5, q6, m6, g6, t33, s5, s6, s7, s8⟩ := t33
            have b9 : Below wr.heap.size wr w9 := AL.out.trans (hb.mono AL.out.size)
            have L9 : w9.heap[w3.heap.size]? = some (.cells #[.slice q1 m1 g1, .slice q2 m2 g2] 47 (0, 0)) := (b9.block _ (blk_lt hL.out)).trans hL.out
            obtain ⟨d0, d1⟩ := cells2 L9
            have f0 : w9.frozen? ⟨w3.heap.size, 0, none⟩ = false := frozen_of_row _ _ 0 _ _ L9
            have f1 : w9.frozen? ⟨w3.heap.size, 1, none⟩ = false := frozen_of_row _ _ 1 _ _ L9
            refine ⟨⟨_, _, t23⟩, wp_skipX (w' := (w9.setCell ⟨w3.heap.size, 0, none⟩ (.slice q5 m5 g5)).setCell ⟨w3.heap.size, 1, none⟩ (.slice q6 m6 g6)) ?_ ⟨rfl, fun b hbs hbd hbt => ?_⟩⟩
            · simp only [execOp, eval_tmp, t33, t5]; simp [go_sem, d0, d1, f0, f1]
            have ha := act_is [24, 25, 26, 27, 28, 29, 30, 31, 32, 23, 33, 34] hbs hbd (fun t h => (hbt t (fun e => by subst e; revert h; decide)).trans (ht t h)) (by decide)
            simp only [List.foldl] at ha
            generalize sl b 24 = u24 at ha
            generalize sl b 25 = u25 at ha
            generalize sl b 26 = u26 at ha
            generalize sl b 27 = u27 at ha
            generalize sl b 28 = u28 at ha
            generalize sl b 29 = u29 at ha
            generalize sl b 30 = u30 at ha
            generalize sl b 31 = u31 at ha
            generalize sl b 32 = u32 at ha
            generalize sl b 23 = u23 at ha
            generalize sl b 33 = u33 at ha
            generalize sl b 34 = u34 at ha
            simp only [Act.put, List.setIfInBounds_toArray, List.set_cons_zero, List.set_cons_succ] at ha
            rw [ha]; clear ha
            have NX := hNX.out w9 q5 m5 g5 q6 m6 g6 b9 s5 s6 s7 s8
            generalize (w9.setCell ⟨w3.heap.size, 0, none⟩ (.slice q5 m5 g5)).setCell ⟨w3.heap.size, 1, none⟩ (.slice q6 m6 g6) = wn at NX ⊢
            have NXH := Lib.hid NX
            clear NX s5 s6 s7 s8 hI ht hbt L9 d0 d1 f0 f1 b9 hb
            go_wp2
            go_roundw
            case rel => exact ⟨j + 1, q5, m5, g5, q6, m6, g6, by omega, by go_num, NXH.out.1, NXH.out.2.1, NXH.out.2.2.1, NXH.out.2.2.2.1, NXH.out.2.2.2.2.1, NXH.out.2.2.2.2.2⟩
            case measure => simp [intOf]; omega
        · have hjn : j = nk := by omega
          have hge : (nk : Int) ≤ (j : Int) := by omega
          obtain ⟨LF, hLF⟩ : ∃ LF, LF = restF (kF wd cells k) (rowF wd cells k, []) := ⟨_, rfl⟩
          have htk : (kF wd cells k).take j = kF wd cells k := List.take_of_length_le (by rw [hK.out.len]; omega)
          rw [htk, ← hLF] at hS1 hS2
          have hsucc : Hid (kF wd cells (k + 1) = if leadS LF.1 < 0 then kF wd cells k else kF wd cells k ++ [normS LF]) := by show _ = _; rw [kF_succ, hLF]; rfl
          have hx : Fit wd 0 (rowF wd cells k, []) := ⟨HRL.out k hlt, rfl⟩
          have hkept := HKK.out k (by omega)
          have fitX : Fit wd 0 LF := by rw [hLF]; exact hx.rest (fun a ha => (hkept.rows a ha).1)
          have lm1 : m1 = wd := by have := hS1.out.len; rw [fitX.1] at this; exact this.symm
          have lm2 : m2 = 0 := by have := hS2.out.len; rw [fitX.2] at this; exact this.symm
          have hzero : zeroS LF.1 = decide (leadS LF.1 < 0) := by
            rcases leadS_cases LF.1 with ⟨h1, _, h3⟩ | ⟨l, x, e, h1, h2, _⟩
            · rw [h1]; unfold zeroS; rw [List.all_eq_true.2 (fun x hx => decide_eq_true (h3 x hx))]; rfl
            · rw [e]
              have : zeroS LF.1 = false := by unfold zeroS; rw [List.all_eq_false]; exact ⟨x, List.mem_of_getElem? h1, by simpa using h2⟩
              rw [this]; exact (decide_eq_false (by omega)).symm
          have r1 : Hid (Room m1) := by rw [lm1]; exact HR
          have r2 : Hid (Room m2) := by show Room m2; rw [lm2]; unfold Room; omega
          have hsz3 : Hid (w.heap.size ≤ w3.heap.size) := BW3.out.size
          obtain ⟨y0, y1⟩ := cells2 hL.out
          have HJ := Lib.hid hjn
          clear hjn htk hLF hx hkept fitX lm1 lm2
          by_cases hneg : leadS LF.1 < 0
          · rw [decide_eq_true hneg] at hzero
            have HZ : Hid (∀ W, Sl B8 W q1 m1 g1 LF.1 → Calls Tryz.prog 61 #[.slice q1 m1 g1] W fun e w' => e = .returned (.bool true) ∧ W = w') := fun W h => by have := VZero_any _ _ _ LF.1 W h; rwa [hzero] at this
            have hs2 : Hid (kF wd cells (k + 1) = kF wd cells k) := by show _ = _; rw [hsucc.out, if_pos hneg]
            clear hzero hneg hsucc
            go_wp2_with fail
            refine Calls.mono (HZ.out _ hS1.out) ?_
            rintro e w' ⟨rfl, rfl⟩
            go_wp2
            go_roundw
            case rel => exact ⟨k + 1, nk, qk, ck, by omega, by omega, by go_num, rfl, by rw [hs2.out]; exact hK.out, hBw.out, hX.out⟩
            case measure => simp [intOf]; omega
          · rw [decide_eq_false hneg] at hzero
            have HZ : Hid (∀ W, Sl B8 W q1 m1 g1 LF.1 → Calls Tryz.prog 61 #[.slice q1 m1 g1] W fun e w' => e = .returned (.bool false) ∧ W = w') := fun W h => by have := VZero_any _ _ _ LF.1 W h; rwa [hzero] at this
            have hs2 : Hid (kF wd cells (k + 1) = kF wd cells k ++ [normS LF]) := by show _ = _; rw [hsucc.out, if_neg hneg]
            clear hzero hneg hsucc
            go_wp2_with fail
            refine Calls.mono (HZ.out _ hS1.out) ?_
            rintro e w' ⟨rfl, rfl⟩
            go_wp2_with fail
            refine Calls.mono (Norm_any q1 q2 m1 g1 m2 g2 LF.1 LF.2 _ hS1.out hS2.out r1.out r2.out) ?_
            rintro e w5 ⟨q5, m5, g5, q6, m6, g6, l5, l6, rfl, o5, o6, hb5⟩
            have s5 := hb5.size
            have K5 := hK.out.keep hb5
            have hB3 : ∀ o, Below w5.heap.size w5 (w5.alloc o) := fun o => al (Below.refl _ _) (Nat.le_refl _)
            have HB3 := Lib.hid hB3
            obtain ⟨vs, va, vb, vo, vr⟩ := K5
            have VO := Lib.hid vo; have VR := Lib.hid vr; have VA := Lib.hid va; have VB := Lib.hid vb
            have U1 : Hid (Bw 5 w5 w.heap.size (.slice q5 m5 g5) (normS LF).1) := ⟨q5, m5, g5, rfl, l5.out, owns_mono o5 hBw.out.size⟩
            have U2 : Hid (Bw 5 w5 w.heap.size (.slice q6 m6 g6) (normS LF).2) := ⟨q6, m6, g6, rfl, l6.out, owns_mono o6 hBw.out.size⟩
            have BW5 : Hid (Below w.heap.size w w5) := bl hBw.out hb5 hBw.out.size
            have X5 : Hid (w5.heap[w.heap.size]? = some (.cells #[.int .i64 h, .int .i64 wd, .slice p n c] 79 (0, 0))) := (hb5.block _ (blk_lt hX.out)).trans hX.out
            have nX : Hid (∀ kk, (Value.slice qk nk ck).ownBlock = some kk → kk ≠ w.heap.size) := fun kk hk e => by
              rcases vo.2 with ⟨hv, _⟩ | ⟨g', cap, cur, hv, _, hh, _⟩
              · simp at hv; rw [hv.1] at hk; simp [Value.ownBlock] at hk
              · simp at hv; rw [hv.1] at hk; simp [Value.ownBlock] at hk
                rw [hk, e, X5.out] at hh; injection hh with hh; injection hh with _ hh _; exact absurd hh (by decide)
            clear hK hBw hX hL hS1 hS2 o5 o6 hb5 vo vr va vb hB3 y0 y1 l5 l6 HZ r1 r2
            go_wp2_with (at_builtin; refine wpList_append_own _ rfl _ _ 41 rfl w.heap.size 47 r0 _ 2 48 Tryz.underlying41 hr0 hrz hr1 hr2 rfl (by omega) _ nk (fl2 vs) rfl (owns_keepv VO.out (HB3.out _)) ⟨w5.heap.size, 0, none⟩ 1 1 [.slice q5 m5 g5, .slice q6 m6 g6] rfl rfl ?c1 ?c2 ?c3 ?c4 ?c5 ?_)
            case c1 =>
              intro j x hj
              rw [Addr.add_lit, Nat.zero_add, cell_of_row _ _ j _ _ _ (hnew rfl)]
              match j with
              | 0 => simpa using hj
              | 1 => simpa using hj
              | j + 2 => simp at hj
            case c2 => intro x hx; simp at hx; rcases hx with rfl | rfl <;> rfl
            case c3 => unfold maxLen; omega
            case c4 => omega
            case c5 => have := BW5.out.size; simp; omega
            intro v' w6 ho6 hg6 _
            obtain ⟨qn, cn, rfl⟩ := owns_shape ho6
            have FIN : Hid (RwL 47 5 w6 w.heap.size (.slice qn (nk + 1) cn) (nk + 1) (kF wd cells (k + 1)) ∧ Below w.heap.size w w6 ∧ w6.heap[w.heap.size]? = some (.cells #[.int .i64 h, .int .i64 wd, .slice p n c] 79 (0, 0))) := by
              have hal := HB3.out (.cells #[.slice q5 m5 g5, .slice q6 m6 g6] 47)
              refine ⟨?_, ?_, ?_⟩
              · rw [hs2.out]
                exact RwL.push VA.out VB.out (owns_keepv VO.out hal) (fun j u hj => by obtain ⟨k', hk', g1, g2⟩ := VR.out j u hj; exact ⟨k', hk', g1.keep hal, g2.keep hal⟩) (by decide) (U1.out.keep hal) (U2.out.keep hal) ho6 hg6
              · exact (bl BW5.out hal BW5.out.size).grown hg6 (by have := BW5.out.size; simp; omega) (fun kk hk => (VO.out.lt kk hk).1)
              · rw [hg6.block _ (by have := BW5.out.size; simp; omega) (fun e => nX.out _ e.symm rfl), hal.block _ (blk_lt X5.out)]; exact X5.out
            clear ho6 hg6
            go_wp2
            go_roundw
            case rel => exact ⟨k + 1, nk + 1, qn, cn, by omega, by omega, by go_num, rfl, FIN.out.1, FIN.out.2.1, FIN.out.2.2⟩
            case measure => simp [intOf]; omega
    · have hkh : k = h := by omega
      have hge : (h : Int) ≤ (k : Int) := by omega
      have HL : Hid ((kF wd cells h).length = nk) := by show _ = _; rw [← hkh]; exact hK.out.len
      have HBF := Lib.hid hBw.out
      clear hkh hK hX hBw
      go_wp2
      go_ret
      exact ⟨by rw [HL.out]; rfl, HBF.out⟩
end Go.Proofs.YtcfdopiponlboaaGreatDoor
namespace Go.By
open Go.RowKit
/-- a slice of rows, as it reads -/
structure RwS (w : World) (p : Option Addr) (n c : Nat) (K : List (List UInt8 × List UInt8)) : Prop where
  len : K.length = n
  le : n ≤ c
  max : c ≤ maxLen
  nil : p = none → n = 0 ∧ c = 0
  row : ∀ (j : Nat) (k : List UInt8 × List UInt8), K[j]? = some k → ∃ b o q1 m1 c1 q2 m2 c2, p = some ⟨b, o, none⟩ ∧ w.cell? ⟨b, o + j * 2, none⟩ = some (.slice q1 m1 c1) ∧ w.cell? ⟨b, o + j * 2 + 1, none⟩ = some (.slice q2 m2 c2) ∧ Sl B8 w q1 m1 c1 k.1 ∧ Sl B8 w q2 m2 c2 k.2
theorem RwS.keep {w w' : World} {p : Option Addr} {n c : Nat} {K : List (List UInt8 × List UInt8)} (h : RwS w p n c K) (hb : Below w.heap.size w w') : RwS w' p n c K :=
  ⟨h.len, h.le, h.max, h.nil, fun j k hj => by
    obtain ⟨b, o, q1, m1, c1, q2, m2, c2, e, h1, h2, h3, h4⟩ := h.row j k hj
    exact ⟨b, o, q1, m1, c1, q2, m2, c2, e, (hb.cell (p := ⟨b, o + j * 2, none⟩) (lt_of_cell h1)).trans h1, (hb.cell (p := ⟨b, o + j * 2 + 1, none⟩) (lt_of_cell h2)).trans h2, h3.keep hb, h4.keep hb⟩⟩
theorem RwS.nil0 (w : World) : RwS w none 0 0 [] := ⟨rfl, Nat.le_refl _, by simp [maxLen], fun _ => ⟨rfl, rfl⟩, fun j k h => by simp at h⟩
theorem Sl.set2 {α : Type} {enc : α → Value} {w : World} {p : Option Addr} {n c g o : Nat} {v : Value} {xs : List α} (h : Sl enc w p n c xs) (hne : 0 < n → ∀ a, p = some a → a.block ≠ g) : Sl enc (w.setCell ⟨g, o, none⟩ v) p n c xs := by
  rcases Nat.eq_zero_or_pos n with h0 | h0
  · have hx : xs = [] := List.length_eq_zero_iff.1 (by rw [h.len, h0])
    subst hx
    exact ⟨h.len, h.le, h.max, h.nil, Rs.nil⟩
  · exact h.set (hne h0)
end Go.By
namespace Go.Proofs.YtcfdopiponlboaaGreatDoor
open Go.RowKit Go.By
end Go.Proofs.YtcfdopiponlboaaGreatDoor
namespace Go.By
open Go.RowKit
/-- the values of rows -/
def RwP (w : World) (u : Value × Value) (k : List UInt8 × List UInt8) : Prop := ∃ q1 m1 c1 q2 m2 c2, u = (.slice q1 m1 c1, .slice q2 m2 c2) ∧ Sl B8 w q1 m1 c1 k.1 ∧ Sl B8 w q2 m2 c2 k.2
theorem RwP.keep {w w' : World} {u : Value × Value} {k : List UInt8 × List UInt8} (h : RwP w u k) (hb : Below w.heap.size w w') : RwP w' u k := by
  obtain ⟨q1, m1, c1, q2, m2, c2, e, h1, h2⟩ := h; exact ⟨q1, m1, c1, q2, m2, c2, e, h1.keep hb, h2.keep hb⟩
/-- a slice of rows as the values of its cells -/
structure RwV (w : World) (p : Option Addr) (n c : Nat) (vs : List (Value × Value)) : Prop where
  len : vs.length = n
  le : n ≤ c
  max : c ≤ maxLen
  nil : p = none → n = 0 ∧ c = 0
  cell : ∀ (j : Nat) (u : Value), (fl2 vs)[j]? = some u → ∃ b o, p = some ⟨b, o, none⟩ ∧ w.cell? ⟨b, o + j, none⟩ = some u
  one : ∀ u, u ∈ fl2 vs → u.oneCell' = true
theorem RwS.vals {w : World} {p : Option Addr} {n c : Nat} {K : List (List UInt8 × List UInt8)} (h : RwS w p n c K) : ∃ vs, RwV w p n c vs ∧ ∀ (j : Nat) (u : Value × Value), vs[j]? = some u → ∃ k, K[j]? = some k ∧ RwP w u k := by
  have each : ∀ j, j < n → ∃ (u : Value × Value), ∃ b o, p = some ⟨b, o, none⟩ ∧ w.cell? ⟨b, o + j * 2, none⟩ = some u.1 ∧ w.cell? ⟨b, o + j * 2 + 1, none⟩ = some u.2 ∧ (∃ k, K[j]? = some k ∧ RwP w u k) ∧ u.1.oneCell' = true ∧ u.2.oneCell' = true := by
    intro j hj
    obtain ⟨k, hk⟩ : ∃ k, K[j]? = some k := ⟨_, List.getElem?_eq_getElem (by rw [h.len]; exact hj)⟩
    obtain ⟨b, o, q1, m1, c1, q2, m2, c2, e, h1, h2, h3, h4⟩ := h.row j k hk
    exact ⟨(.slice q1 m1 c1, .slice q2 m2 c2), b, o, e, h1, h2, ⟨k, hk, q1, m1, c1, q2, m2, c2, rfl, h3, h4⟩, rfl, rfl⟩
  obtain ⟨f, hf⟩ : ∃ f : Nat → Value × Value, ∀ j, j < n → ∃ b o, p = some ⟨b, o, none⟩ ∧ w.cell? ⟨b, o + j * 2, none⟩ = some (f j).1 ∧ w.cell? ⟨b, o + j * 2 + 1, none⟩ = some (f j).2 ∧ (∃ k, K[j]? = some k ∧ RwP w (f j) k) ∧ (f j).1.oneCell' = true ∧ (f j).2.oneCell' = true :=
    ⟨fun j => if hj : j < n then Classical.choose (each j hj) else (undef, undef), fun j hj => by simp only [dif_pos hj]; exact Classical.choose_spec (each j hj)⟩
  have hat : ∀ (j : Nat) (u : Value × Value), ((List.range n).map f)[j]? = some u → j < n ∧ u = f j := by
    intro j u hj
    have hj' := (List.getElem?_eq_some_iff.1 hj).1
    simp at hj'
    rw [List.getElem?_map, List.getElem?_range hj'] at hj
    exact ⟨hj', by simpa using hj.symm⟩
  refine ⟨(List.range n).map f, ⟨by simp, h.le, h.max, h.nil, ?_, ?_⟩, ?_⟩
  · intro i u hi
    have hlen := (List.getElem?_eq_some_iff.1 hi).1
    rw [fl2_length] at hlen
    have hj : i / 2 < n := by simp at hlen; omega
    obtain ⟨b, o, e, h1, h2, _⟩ := hf (i / 2) hj
    have hv : ((List.range n).map f)[i / 2]? = some (f (i / 2)) := by rw [List.getElem?_map, List.getElem?_range hj]; rfl
    obtain ⟨g1, g2⟩ := fl2_at hv
    refine ⟨b, o, e, ?_⟩
    rcases Nat.mod_two_eq_zero_or_one i with hm | hm
    · have : i / 2 * 2 = i := by omega
      rw [this] at g1 h1
      rw [g1] at hi; rw [h1, ← hi]
    · have : i / 2 * 2 + 1 = i := by omega
      rw [this] at g2
      rw [g2] at hi
      rw [show o + i = o + i / 2 * 2 + 1 by omega, h2, ← hi]
  · intro u hu
    obtain ⟨i, hi, rfl⟩ := List.getElem_of_mem hu
    rw [fl2_length] at hi
    have hj : i / 2 < n := by simp at hi; omega
    obtain ⟨b, o, e, _, _, _, o1, o2⟩ := hf (i / 2) hj
    have hv : ((List.range n).map f)[i / 2]? = some (f (i / 2)) := by rw [List.getElem?_map, List.getElem?_range hj]; rfl
    obtain ⟨g1, g2⟩ := fl2_at hv
    rcases Nat.mod_two_eq_zero_or_one i with hm | hm
    · have : i / 2 * 2 = i := by omega
      rw [this] at g1
      have : (fl2 ((List.range n).map f))[i] = (f (i / 2)).1 := by
        rw [List.getElem?_eq_getElem (by rw [fl2_length]; exact hi)] at g1; injection g1
      rw [this]; exact o1
    · have : i / 2 * 2 + 1 = i := by omega
      rw [this] at g2
      have : (fl2 ((List.range n).map f))[i] = (f (i / 2)).2 := by
        rw [List.getElem?_eq_getElem (by rw [fl2_length]; exact hi)] at g2; injection g2
      rw [this]; exact o2
  · intro j u hj
    obtain ⟨hjn, rfl⟩ := hat j u hj
    obtain ⟨b, o, _, _, _, hk, _⟩ := hf j hjn
    exact hk
theorem RwV.keep {w w' : World} {p : Option Addr} {n c : Nat} {vs : List (Value × Value)} (h : RwV w p n c vs) (hb : Below w.heap.size w w') : RwV w' p n c vs :=
  ⟨h.len, h.le, h.max, h.nil, fun j u hj => by
    obtain ⟨b, o, e, h1⟩ := h.cell j u hj
    exact ⟨b, o, e, (hb.cell (p := ⟨b, o + j, none⟩) (lt_of_cell h1)).trans h1⟩, h.one⟩
theorem wpList_append_two {P : Program} (w : World) {ops : Array Oper} {rest : List Oper} {o : Oper} {a : Act} {Q : Exit → Act → World → Prop} (hgd : o.guard = none) (s x : Operand) (t : TypeId)
    (ho : o.op = .call { callee := .builtin .append, args := #[s, x], argTypes := #[t, t] })
    (base : Nat) (e : TypeId) (i : TypeInfo) (z : Value) (bytes : Nat) (ht : P.underlying t = some (.slice e)) (hi : P.info? e = some i) (hz : i.zero = some z)
    (hsize : i.size = 2) (hby : i.bytes = bytes) (hzs : z.cells.size = 2)
    (v : Value) (n : Nat) (ys : List Value) (hs : a.eval s = v) (hown : w.ownsRow base e 2 v n ys)
    (p : Option Addr) (m c : Nat) (us : List (Value × Value)) (hx : a.eval x = .slice p m c) (hrs : RwV w p m c us)
    (h63 : n + m ≤ maxLen) (hbytes : (n + m) * bytes ≤ 140737488355328) (hbase : base ≤ w.heap.size)
    (h : ∀ v' w', w'.ownsRow base e 2 v' (n + m) (ys ++ fl2 us) → w.grownBy w' v.ownBlock → wpList P ops Q rest (a.put o.dst v') w') : wpList P ops Q (o :: rest) a w := by
  cases p with
  | none =>
    obtain ⟨rfl, rfl⟩ := hrs.nil rfl
    have : us = [] := List.eq_nil_of_length_eq_zero hrs.len
    subst this
    refine wpList_append_own_none hgd s x t ho base e i 2 ht hi v n ys hs hown hx (h v w (by simpa [fl2] using hown) (World.grownBy.refl _ _))
  | some ad =>
    refine wpList_append_own w hgd s x t ho base e i z 2 bytes ht hi hz hsize hby hzs (by omega) v n ys hs hown ad m c (fl2 us) hx (by rw [fl2_length, hrs.len]) ?_ hrs.one h63 hbytes hbase (fun v' w' h1 h2 _ => h v' w' h1 h2)
    intro j u hj
    obtain ⟨b, o', e', hc⟩ := hrs.cell j u hj
    cases e'
    rw [Addr.add_lit]; exact hc
end Go.By
namespace Go.By
open Go.RowKit
theorem fl2_take (vs : List (Value × Value)) : ∀ k, fl2 (vs.take k) = (fl2 vs).take (k * 2) := by
  induction vs with
  | nil => intro k; simp [fl2]
  | cons v vs ih =>
    intro k
    cases k with
    | zero => simp [fl2]
    | succ k =>
      rw [List.take_succ_cons, show (k + 1) * 2 = k * 2 + 2 by omega]
      show v.1 :: v.2 :: fl2 (vs.take k) = (v.1 :: v.2 :: fl2 vs).take (k * 2 + 2)
      rw [List.take_succ_cons, List.take_succ_cons, ih k]
theorem fl2_drop (vs : List (Value × Value)) : ∀ k, fl2 (vs.drop k) = (fl2 vs).drop (k * 2) := by
  induction vs with
  | nil => intro k; simp [fl2]
  | cons v vs ih =>
    intro k
    cases k with
    | zero => simp [fl2]
    | succ k =>
      rw [List.drop_succ_cons, show (k + 1) * 2 = k * 2 + 2 by omega]
      show fl2 (vs.drop k) = (v.1 :: v.2 :: fl2 vs).drop (k * 2 + 2)
      rw [List.drop_succ_cons, List.drop_succ_cons, ih k]
section
variable {w : World} {p : Option Addr} {n c j : Nat} {vs : List (Value × Value)}
theorem RwV.take (h : RwV w p n c vs) (hj : j ≤ n) : RwV w p j c (vs.take j) := by
  refine ⟨by rw [List.length_take, h.len]; omega, by have := h.le; omega, h.max, fun e => by have := h.nil e; omega, fun i u hi => ?_, fun u hu => ?_⟩
  · rw [fl2_take, List.getElem?_take] at hi
    split at hi
    · exact h.cell i u hi
    · cases hi
  · rw [fl2_take] at hu; exact h.one u (List.mem_of_mem_take hu)
theorem RwV.drop {b o : Nat} (h : RwV w (some ⟨b, o, none⟩) n c vs) (hj : j ≤ n) : RwV w (some ⟨b, o + j * 2, none⟩) (n - j) (c - j) (vs.drop j) := by
  refine ⟨by rw [List.length_drop, h.len], by have := h.le; omega, by have := h.max; omega, fun e => (by cases e), fun i u hi => ?_, fun u hu => ?_⟩
  · rw [fl2_drop, List.getElem?_drop] at hi
    obtain ⟨b', o', e, hc⟩ := h.cell (j * 2 + i) u hi
    cases e
    exact ⟨b, o + j * 2, rfl, by rw [show o + j * 2 + i = o + (j * 2 + i) by omega]; exact hc⟩
  · rw [fl2_drop] at hu; exact h.one u (List.mem_of_mem_drop hu)
theorem RwV.none (hp : p = none → c = 0) (hm : c ≤ maxLen) : RwV w p 0 c [] := ⟨rfl, Nat.zero_le _, hm, fun e => ⟨rfl, hp e⟩, fun i u h => by simp [fl2] at h, fun u h => by simp [fl2] at h⟩
/-- bytes lie in no block of slices -/
theorem Sl.away {g T : Nat} {fr : Nat × Nat} {p1 p2 q : Option Addr} {n1 c1 n2 c2 m k : Nat} {xs : List UInt8} (h : Sl B8 w q m k xs) (hg : w.heap[g]? = some (.cells #[.slice p1 n1 c1, .slice p2 n2 c2] T fr)) (h0 : 0 < m) : ∀ a, q = some a → a.block ≠ g := by
  intro a ha e
  obtain ⟨b, o, hp, hc⟩ := h.rs 0 (by rw [h.len]; exact h0)
  rw [hp] at ha; cases ha
  have e' : b = g := e
  subst e'
  rw [cell_of_row _ _ _ _ _ _ hg] at hc
  rcases ho : o + 0 with _ | _ | x
  · rw [ho] at hc; simp at hc
  · rw [ho] at hc; simp at hc
  · rw [ho] at hc; simp at hc
theorem two_cells {W : World} {u v : Value} {T g : Nat} (hg : g = W.heap.size) : ∀ (j : Nat) (y : Value), [u, v][j]? = some y → (W.alloc (.cells #[u, v] T)).cell? ((⟨g, 0, none⟩ : Addr).add j) = some y := by
  intro j y hj
  rw [Addr.add_lit, Nat.zero_add, cell_of_row _ _ j _ _ _ (hnew hg)]
  match j with
  | 0 => simpa using hj
  | 1 => simpa using hj
  | j + 2 => simp at hj
theorem two_ones (q1 q2 : Option Addr) (n1 c1 n2 c2 : Nat) : ∀ u, u ∈ [Value.slice q1 n1 c1, Value.slice q2 n2 c2] → u.oneCell' = true := by
  intro u hu; simp at hu; rcases hu with rfl | rfl <;> rfl
/-- what is owned reads so -/
theorem RwS.of_owns {base T n c : Nat} {q : Option Addr} {vs : List (Value × Value)} {K : List (List UInt8 × List UInt8)} (h : w.ownsRow base T 2 (.slice q n c) n (fl2 vs)) (hl : K.length = n) (hv : ∀ (j : Nat) (k : List UInt8 × List UInt8), K[j]? = some k → ∃ u, vs[j]? = some u ∧ RwP w u k) : RwS w q n c K := by
  rcases h.2 with ⟨h1, h2⟩ | ⟨g, cap, cur, h1, _, _, h3, h4, _⟩
  · cases h1
    have : K = [] := List.length_eq_zero_iff.1 (by omega)
    subst this
    exact ⟨hl, Nat.le_of_eq h2, by simp [maxLen], fun _ => ⟨h2, rfl⟩, fun j k hk => by simp at hk⟩
  · cases h1
    refine ⟨hl, h3, h4, fun e => (by cases e), fun j k hk => ?_⟩
    obtain ⟨u, hu, q1, m1, c1, q2, m2, c2, rfl, s1, s2⟩ := hv j k hk
    have hj := (List.getElem?_eq_some_iff.1 hk).1
    obtain ⟨g1, g2⟩ := fl2_at hu
    refine ⟨g, 0, q1, m1, c1, q2, m2, c2, rfl, ?_, ?_, s1, s2⟩
    · rw [Nat.zero_add, h.cellAt _ (by omega), g1]
    · rw [Nat.zero_add, h.cellAt _ (by omega), g2]
/-- rows in new memory: W the world ahead of it -/
def RwN (W w : World) (T : TypeId) (q : Option Addr) (n c : Nat) (K : List (List UInt8 × List UInt8)) : Prop :=
  Below W.heap.size W w ∧ K.length = n ∧ ∃ vs : List (Value × Value), w.ownsRow W.heap.size T 2 (.slice q n c) n (fl2 vs) ∧ ∀ (j : Nat) (k : List UInt8 × List UInt8), K[j]? = some k → ∃ u, vs[j]? = some u ∧ RwP W u k
theorem RwN.rwS {W : World} {T n c : Nat} {q : Option Addr} {K : List (List UInt8 × List UInt8)} (h : RwN W w T q n c K) : RwS w q n c K := by
  obtain ⟨hb, hl, vs, ho, hv⟩ := h
  exact RwS.of_owns ho hl fun j k hk => by obtain ⟨u, hu, hp⟩ := hv j k hk; exact ⟨u, hu, hp.keep hb⟩
end
end Go.By
namespace Go.Proofs.YtcfdopiponlboaaGreatDoor
open Go.RowKit Go.By
/-- rows in memory, as many as they are -/
def RetK (w : World) (K : List Rw) (e : Ending) (w' : World) : Prop := ∃ q n c, n = K.length ∧ e = .returned (.slice q n c) ∧ RwS w' q n c K ∧ Below w.heap.size w w'
theorem take_while_at {α : Type} {p : α → Bool} : ∀ {l : List α} {j : Nat}, j ≤ l.length → (∀ i a, i < j → l[i]? = some a → p a = true) → (∀ a, l[j]? = some a → p a = false) → l.takeWhile p = l.take j ∧ l.dropWhile p = l.drop j
  | [], 0, _, _, _ => ⟨rfl, rfl⟩
  | b :: l, 0, _, _, h => by
    have := h b rfl
    simp [List.takeWhile_cons, List.dropWhile_cons, this]
  | b :: l, j + 1, hl, h1, h2 => by
    have hb := h1 0 b (by omega) rfl
    obtain ⟨g1, g2⟩ := take_while_at (l := l) (j := j) (by simpa using hl) (fun i a hi ha => h1 (i + 1) a (by omega) (by simpa using ha)) (fun a ha => h2 a (by simpa using ha))
    simp [List.takeWhile_cons, List.dropWhile_cons, hb, g1, g2]
end Go.Proofs.YtcfdopiponlboaaGreatDoor
namespace Go.By
open Go.RowKit
theorem one_cell' {w : World} {v : Value} {T g : Nat} (hg : g = w.heap.size) : ∀ (j : Nat) (u : Value), [v][j]? = some u → (w.alloc (.cells #[v] T)).cell? ((⟨g, 0, none⟩ : Addr).add j) = some u := by
  intro j u hj
  rw [Addr.add_lit, Nat.zero_add, cell_of_row _ _ j _ _ _ (hnew hg)]
  match j with
  | 0 => simpa using hj
  | j + 1 => simp at hj
end Go.By
namespace Go.Proofs.YtcfdopiponlboaaGreatDoor
open Go.RowKit Go.By
def turnX (wd : Nat) (xss : List (List UInt8)) : List (List UInt8) := (List.range wd).map fun b => xss.map fun row => row.getD b 0
theorem range_map_succ {α : Type} (f : Nat → α) (k : Nat) : (List.range (k + 1)).map f = (List.range k).map f ++ [f k] := by rw [List.range_succ, List.map_append]; rfl
theorem take_map_succ' {α β : Type} (f : α → β) {xs : List α} {k : Nat} {x : α} (hx : xs[k]? = some x) : (xs.take (k + 1)).map f = (xs.take k).map f ++ [f x] := by
  rw [List.take_add_one, hx, List.map_append]; rfl
end Go.Proofs.YtcfdopiponlboaaGreatDoor
namespace Go.Proofs.YtcfdopiponlboaaGreatDoor
open Go.RowKit Go.By
/-- the reference's rows kept of a list -/
def iK (rows : List (List UInt8)) : List Rw := rows.foldl (fun K r => insF K (r, [])) []
theorem iK_snoc (rows : List (List UInt8)) (r : List UInt8) : iK (rows ++ [r]) = insF (iK rows) (r, []) := by unfold iK; rw [List.foldl_append]; rfl
theorem iK_take {rows : List (List UInt8)} {k : Nat} {r : List UInt8} (h : rows[k]? = some r) : iK (rows.take (k + 1)) = insF (iK (rows.take k)) (r, []) := by
  have e : rows.take (k + 1) = rows.take k ++ [r] := by rw [List.take_add_one, h]; rfl
  rw [e, iK_snoc]
theorem insF_len (K : List Rw) (x : Rw) : (insF K x).length ≤ K.length + 1 := by rw [(ins_perm K x).length_eq]; exact keepF_len K x
theorem iK_len (rows : List (List UInt8)) : ∀ k, (iK (rows.take k)).length ≤ k
  | 0 => by simp [iK]
  | k + 1 => by
    by_cases h : k < rows.length
    · rw [iK_take (List.getElem?_eq_getElem h)]; exact Nat.le_trans (insF_len _ _) (Nat.succ_le_succ (iK_len rows k))
    · have e : rows.take (k + 1) = rows.take k := by rw [List.take_of_length_le (by omega), List.take_of_length_le (by omega)]
      rw [e]; exact Nat.le_succ_of_le (iK_len rows k)
theorem iK_kept {wd : Nat} {rows : List (List UInt8)} (hl : ∀ r, r ∈ rows → r.length = wd) : ∀ k, KeptS wd 0 (iK (rows.take k))
  | 0 => by simpa [iK] using KeptS.nil wd 0
  | k + 1 => by
    by_cases h : k < rows.length
    · rw [iK_take (List.getElem?_eq_getElem h)]; exact (iK_kept hl k).step ⟨hl _ (List.getElem_mem h), rfl⟩
    · have e : rows.take (k + 1) = rows.take k := by rw [List.take_of_length_le (by omega), List.take_of_length_le (by omega)]
      rw [e]; exact iK_kept hl k
end Go.Proofs.YtcfdopiponlboaaGreatDoor
namespace Gf
def sumN : Nat → (Nat → UInt8) → UInt8
  | 0, _ => 0
  | n + 1, f => sumN n f ^^^ f n
theorem sumN_congr {n : Nat} {f g : Nat → UInt8} (h : ∀ i, i < n → f i = g i) : sumN n f = sumN n g := by
  induction n with
  | zero => rfl
  | succ n ih => simp only [sumN]; rw [ih (fun i hi => h i (by omega)), h n (by omega)]
theorem sumN_zero {n : Nat} {f : Nat → UInt8} (h : ∀ i, i < n → f i = 0) : sumN n f = 0 := by
  induction n with
  | zero => rfl
  | succ n ih => simp only [sumN]; rw [ih (fun i hi => h i (by omega)), h n (by omega), xor_self]
theorem sumN_add (n : Nat) (f g : Nat → UInt8) : sumN n (fun i => f i ^^^ g i) = sumN n f ^^^ sumN n g := by
  induction n with
  | zero => simp [sumN, xor_self]
  | succ n ih => simp only [sumN]; rw [ih, xor4]
theorem sumN_scale (n : Nat) (x : UInt8) (f : Nat → UInt8) : sumN n (fun i => gmul x (f i)) = gmul x (sumN n f) := by
  induction n with
  | zero => simp [sumN, gmul_zero]
  | succ n ih => simp only [sumN]; rw [ih, gmul_xor_right]
theorem sumN_one {n p : Nat} {f : Nat → UInt8} (hp : p < n) (h : ∀ i, i < n → i ≠ p → f i = 0) : sumN n f = f p := by
  induction n with
  | zero => omega
  | succ n ih =>
    simp only [sumN]
    by_cases e : p = n
    · subst e; rw [sumN_zero (fun i hi => h i (by omega) (by omega)), zero_xor]
    · rw [ih (by omega) (fun i hi hne => h i (by omega) hne), h n (by omega) (by omega), xor_zero]
theorem dsum (N : Nat) (f : Nat → Nat → UInt8) (h : ∀ i k, k < i → f i k = f k (i - 1)) : sumN (N + 1) (fun i => sumN N (f i)) = 0 := by
  induction N with
  | zero => simp [sumN, xor_self]
  | succ N ih =>
    have e : sumN (N + 2) (fun i => sumN (N + 1) (f i)) = sumN (N + 1) (fun i => sumN N (f i) ^^^ f i N) ^^^ sumN (N + 1) (f (N + 1)) := rfl
    have e2 : sumN (N + 1) (f (N + 1)) = sumN (N + 1) (fun i => f i N) := sumN_congr fun i hi => by rw [h (N + 1) i hi]; rfl
    rw [e, sumN_add, ih, zero_xor, e2, xor_self]
/-- columns but one -/
def skip (i k : Nat) : Nat := if k < i then k else k + 1
def minor (A : Nat → V) (i : Nat) : Nat → V := fun r c => A (r + 1) (skip i c)
def det : Nat → (Nat → V) → UInt8
  | 0, _ => 1
  | n + 1, A => sumN (n + 1) (fun i => gmul (A 0 i) (det n (minor A i)))
theorem det_succ (n : Nat) (A : Nat → V) : det (n + 1) A = sumN (n + 1) (fun i => gmul (A 0 i) (det n (minor A i))) := rfl
theorem skip_lt {i k n : Nat} (hk : k < n) : skip i k < n + 1 := by unfold skip; split <;> omega
theorem det_congr : ∀ {n : Nat} {A B : Nat → V}, (∀ r c, r < n → c < n → A r c = B r c) → det n A = det n B
  | 0, _, _, _ => rfl
  | n + 1, A, B, h => by
    rw [det_succ, det_succ]
    exact sumN_congr fun i hi => by
      rw [h 0 i (by omega) hi, det_congr (A := minor A i) (B := minor B i) (fun r c hr hc => h (r + 1) _ (by omega) (skip_lt hc))]
def setR (A : Nat → V) (r : Nat) (v : V) : Nat → V := fun k => if k = r then v else A k
theorem setR_same (A : Nat → V) (r : Nat) (v : V) : setR A r v r = v := by simp [setR]
theorem setR_ne (A : Nat → V) {r k : Nat} (v : V) (h : k ≠ r) : setR A r v k = A k := by simp [setR, h]
theorem setR_self (A : Nat → V) (r : Nat) : setR A r (A r) = A := by funext k; unfold setR; split <;> simp_all
theorem setR_setR (A : Nat → V) (r : Nat) (u v : V) : setR (setR A r u) r v = setR A r v := by funext k; unfold setR; split <;> simp_all
theorem setR_comm (A : Nat → V) {r s : Nat} (u v : V) (h : r ≠ s) : setR (setR A r u) s v = setR (setR A s v) r u := by
  funext k; unfold setR; split <;> split <;> simp_all
theorem minor_set0 (A : Nat → V) (v : V) (i : Nat) : minor (setR A 0 v) i = minor A i := by
  funext r c; simp [minor, setR]
theorem minor_set (A : Nat → V) (r : Nat) (v : V) (i : Nat) : minor (setR A (r + 1) v) i = setR (minor A i) r (fun c => v (skip i c)) := by
  funext k c; simp only [minor, setR]; by_cases h : k = r <;> simp [h, minor]
/-- linear in each row -/
theorem det_lin : ∀ {n r : Nat} (A : Nat → V) (x : UInt8) (u v : V), r < n → det n (setR A r (fun j => u j ^^^ gmul x (v j))) = det n (setR A r u) ^^^ gmul x (det n (setR A r v))
  | n + 1, 0, A, x, u, v, _ => by
    simp only [det_succ, minor_set0, setR_same]
    rw [← sumN_scale, ← sumN_add]
    exact sumN_congr fun i _ => by rw [gmul_xor_left, gmul_assoc]
  | n + 1, r + 1, A, x, u, v, h => by
    simp only [det_succ, minor_set]
    rw [← sumN_scale, ← sumN_add]
    refine sumN_congr fun i _ => ?_
    have e : ∀ w : V, setR A (r + 1) w 0 = A 0 := fun w => setR_ne _ _ (by omega)
    rw [e, e, e, det_lin (minor A i) x (fun c => u (skip i c)) (fun c => v (skip i c)) (by omega), gmul_xor_right]
    congr 1
    rw [← gmul_assoc, ← gmul_assoc, gmul_comm x]
theorem det_zero_row {n r : Nat} (A : Nat → V) (h : r < n) : det n (setR A r (fun _ => 0)) = 0 := by
  have := det_lin A 1 (fun _ => 0) (fun _ => 0) h
  have e : (fun (_ : Nat) => (0 : UInt8) ^^^ gmul 1 0) = fun _ => 0 := by funext j; rw [gmul_zero, xor_self]
  rw [e, one_gmul, xor_self] at this
  exact this
theorem det_scale {n r : Nat} (A : Nat → V) (x : UInt8) (v : V) (h : r < n) : det n (setR A r (fun j => gmul x (v j))) = gmul x (det n (setR A r v)) := by
  have := det_lin A x (fun _ => 0) v h
  have e : (fun (j : Nat) => (0 : UInt8) ^^^ gmul x (v j)) = fun j => gmul x (v j) := by funext j; rw [zero_xor]
  rw [e, det_zero_row A h, zero_xor] at this
  exact this
def sw (A : Nat → V) (r s : Nat) : Nat → V := setR (setR A r (A s)) s (A r)
theorem det_sw_of {n r s : Nat} (hr : r < n) (hs : s < n) (hne : r ≠ s) (alt : ∀ A : Nat → V, A r = A s → det n A = 0) (A : Nat → V) : det n (sw A r s) = det n A := by
  have key : ∀ x y : V, det n (setR (setR A r x) s y) = det n (setR (setR A r y) s x) := by
    intro x y
    have z : ∀ w : V, det n (setR (setR A r w) s w) = 0 := fun w => alt _ (by rw [setR_ne _ _ hne, setR_same, setR_same])
    have h1 := z (fun j => x j ^^^ gmul 1 (y j))
    rw [det_lin (setR A r _) 1 x y hs, setR_comm _ _ _ hne, det_lin (setR A s x) 1 x y hr, setR_comm A (s := s) (r := r) _ _ hne, det_lin (setR A s y) 1 x y hr] at h1
    rw [one_gmul, one_gmul, one_gmul] at h1
    rw [← setR_comm A x x hne, ← setR_comm A y y hne, z, z, zero_xor, xor_zero, ← setR_comm A y x hne, ← setR_comm A x y hne] at h1
    exact (xor_eq_zero h1).symm
  unfold sw
  rw [key, setR_self, setR_self]
theorem skip_skip {i k c : Nat} (h : k < i) : skip i (skip k c) = skip k (skip (i - 1) c) := by
  by_cases h1 : c < k
  · have a : skip k c = c := if_pos h1
    have b : skip (i - 1) c = c := if_pos (by omega)
    rw [a, b, a]; exact if_pos (by omega)
  · have a : skip k c = c + 1 := if_neg h1
    by_cases h2 : c + 1 < i
    · have b : skip (i - 1) c = c := if_pos (by omega)
      rw [a, b, a]; exact if_pos h2
    · have b : skip (i - 1) c = c + 1 := if_neg (by omega)
      have d : skip i (c + 1) = c + 1 + 1 := if_neg h2
      have f : skip k (c + 1) = c + 1 + 1 := if_neg (by omega)
      rw [a, b, d, f]
theorem minor_minor (A : Nat → V) {i k : Nat} (h : k < i) : minor (minor A i) k = minor (minor A k) (i - 1) := by
  funext r c
  simp only [minor]
  rw [skip_skip h]
/-- nought where two rows are the same -/
theorem det_alt : ∀ {n r s : Nat} (A : Nat → V), r < s → s < n → A r = A s → det n A = 0
  | n + 1, r + 1, s + 1, A, h1, h2, he => by
    rw [det_succ]
    exact sumN_zero fun i _ => by
      rw [det_alt (n := n) (r := r) (s := s) (minor A i) (by omega) (by omega) (by funext c; simp only [minor]; rw [he]), gmul_zero]
  | n + 2, 0, 1, A, _, _, he => by
    rw [det_succ]
    have e : ∀ i, i < n + 2 → gmul (A 0 i) (det (n + 1) (minor A i)) = sumN (n + 1) (fun k => gmul (A 0 i) (gmul (A 0 (skip i k)) (det n (minor (minor A i) k)))) := by
      intro i _
      rw [sumN_scale, det_succ]
      congr 1
      exact sumN_congr fun k _ => by simp only [minor]; rw [he]
    rw [sumN_congr e]
    refine dsum (n + 1) (fun i k => gmul (A 0 i) (gmul (A 0 (skip i k)) (det n (minor (minor A i) k)))) (fun i k hk => ?_)
    have s1 : skip i k = k := by unfold skip; rw [if_pos hk]
    have s2 : skip k (i - 1) = i := by unfold skip; rw [if_neg (by omega)]; omega
    rw [s1, s2, minor_minor A hk, ← gmul_assoc, ← gmul_assoc, gmul_comm (A 0 i)]
  | n + 2, 0, s + 2, A, _, h2, he => by
    have alt : ∀ B : Nat → V, B 1 = B (s + 2) → det (n + 2) B = 0 := by
      intro B hB
      rw [det_succ]
      exact sumN_zero fun i _ => by
        rw [det_alt (n := n + 1) (r := 0) (s := s + 1) (minor B i) (by omega) (by omega) (by funext c; simp only [minor]; rw [hB]), gmul_zero]
    rw [← det_sw_of (r := 1) (s := s + 2) (by omega) h2 (by omega) alt A, det_succ]
    have hz : (sw A 1 (s + 2)) 0 = (sw A 1 (s + 2)) 1 := by
      unfold sw
      rw [setR_ne _ _ (by omega), setR_ne _ _ (by omega), setR_ne _ _ (by omega), setR_same, he]
    obtain ⟨B, hB⟩ : ∃ B, B = sw A 1 (s + 2) := ⟨_, rfl⟩
    rw [← hB] at hz ⊢
    have e : ∀ i, i < n + 2 → gmul (B 0 i) (det (n + 1) (minor B i)) = sumN (n + 1) (fun k => gmul (B 0 i) (gmul (B 0 (skip i k)) (det n (minor (minor B i) k)))) := by
      intro i _
      rw [sumN_scale, det_succ]
      congr 1
      exact sumN_congr fun k _ => by simp only [minor]; rw [hz]
    rw [sumN_congr e]
    refine dsum (n + 1) (fun i k => gmul (B 0 i) (gmul (B 0 (skip i k)) (det n (minor (minor B i) k)))) (fun i k hk => ?_)
    have s1 : skip i k = k := by unfold skip; rw [if_pos hk]
    have s2 : skip k (i - 1) = i := by unfold skip; rw [if_neg (by omega)]; omega
    rw [s1, s2, minor_minor B hk, ← gmul_assoc, ← gmul_assoc, gmul_comm (B 0 i)]
  | 0, r, s, A, h1, h2, he => by omega
  | 1, 0, s, A, h1, h2, he => by omega
theorem det_same {n r s : Nat} (A : Nat → V) (hr : r < n) (hs : s < n) (hne : r ≠ s) (he : A r = A s) : det n A = 0 := by
  rcases Nat.lt_or_gt_of_ne hne with h | h
  · exact det_alt A h hs he
  · exact det_alt A h hr he.symm
theorem det_sw {n r s : Nat} (A : Nat → V) (hr : r < n) (hs : s < n) (hne : r ≠ s) : det n (sw A r s) = det n A := det_sw_of hr hs hne (fun B hB => det_same B hr hs hne hB) A
/-- a row more of another one -/
theorem det_less {n r s : Nat} (A : Nat → V) (x : UInt8) (hr : r < n) (hs : s < n) (hne : r ≠ s) : det n (setR A r (fun j => A r j ^^^ gmul x (A s j))) = det n A := by
  rw [det_lin A x (A r) (A s) hr, setR_self, det_same (setR A r (A s)) hr hs hne (by rw [setR_same, setR_ne _ _ (Ne.symm hne)]), gmul_zero, xor_zero]
theorem det_row {n r : Nat} (A : Nat → V) (x : UInt8) (hr : r < n) : det n (setR A r (fun j => gmul x (A r j))) = gmul x (det n A) := by
  rw [det_scale A x (A r) hr, setR_self]
theorem det_unit : ∀ n, det n unit = 1
  | 0 => rfl
  | n + 1 => by
    rw [det_succ, sumN_one (p := 0) (by omega) (fun i _ hi => by
      have : unit 0 i = 0 := by simp only [unit]; rw [if_neg (fun h => hi h.symm)]
      rw [this, zero_gmul])]
    have e : minor unit 0 = unit := by funext r c; simp [minor, unit, skip]
    rw [e, det_unit n]; simp [unit, one_gmul]
theorem det_sum {n p : Nat} (A : Nat → V) (hp : p < n) (d : Nat → UInt8) (B : Nat → V) : ∀ m, det n (setR A p (fun j => sumN m (fun i => gmul (d i) (B i j)))) = sumN m (fun i => gmul (d i) (det n (setR A p (B i))))
  | 0 => by simp only [sumN]; exact det_zero_row A hp
  | m + 1 => by
    simp only [sumN]
    rw [det_lin A (d m) _ (B m) hp, det_sum A hp d B m]
/-- rows that depend: nought -/
theorem det_dep {n p : Nat} (A : Nat → V) (c : Nat → UInt8) (hp : p < n) (hc : c p ≠ 0) (hz : ∀ j, sumN n (fun i => gmul (c i) (A i j)) = 0) : det n A = 0 := by
  have h1 := det_sum A hp c A n
  have e : (fun j => sumN n (fun i => gmul (c i) (A i j))) = fun _ => 0 := by funext j; exact hz j
  rw [e, det_zero_row A hp, sumN_one hp (fun i hi hne => by
    rw [det_same (setR A p (A i)) hp hi (Ne.symm hne) (by rw [setR_same, setR_ne _ _ hne]), gmul_zero]), setR_self] at h1
  rcases gmul_eq_zero h1.symm with h | h
  · exact absurd h hc
  · exact h
theorem comb_sumN (j : Nat) : ∀ (c : List UInt8) (A : List V), c.length = A.length → comb c A j = sumN A.length (fun i => gmul (c.getD i 0) ((A.getD i fun _ => 0) j))
  | [], [], _ => rfl
  | x :: c, a :: A, h => by
    have sh : ∀ (f : Nat → UInt8) (n : Nat), sumN (n + 1) f = f 0 ^^^ sumN n (fun i => f (i + 1)) := by
      intro f n
      induction n with
      | zero => simp [sumN, xor_comm]
      | succ n ih =>
        have e : sumN (n + 2) f = sumN (n + 1) f ^^^ f (n + 1) := rfl
        rw [e, ih, xor_assoc]; rfl
    rw [List.length_cons, sh, comb_cons, comb_sumN j c A (by simpa using h)]
    rfl
theorem det_not_ind {n : Nat} {A : List V} (hn : A.length = n) (h : ¬ Ind A) : det n (fun i => A.getD i fun _ => 0) = 0 := by
  have hex : ∃ c : List UInt8, c.length = A.length ∧ (∀ j, comb c A j = 0) ∧ ∃ x, x ∈ c ∧ x ≠ 0 := by
    apply Classical.byContradiction
    intro hne
    apply h
    intro c hc hz x hx
    apply Classical.byContradiction
    intro hx0
    exact hne ⟨c, hc, hz, x, hx, hx0⟩
  obtain ⟨c, hc, hz, x, hx, hx0⟩ := hex
  obtain ⟨p, hp, rfl⟩ := List.getElem_of_mem hx
  refine det_dep (p := p) _ (fun i => c.getD i 0) (by omega) (by simpa [List.getD_eq_getElem?_getD, List.getElem?_eq_getElem hp] using hx0) (fun j => ?_)
  have := hz j
  rw [comb_sumN j c A hc, hn] at this
  exact this
end Gf
namespace Go.Proofs.YtcfdopiponlboaaGreatDoor
open Go.By Gf
def rowsV (n : Nat) (A : Nat → V) : List V := (List.range n).map A
theorem rowsV_mem {n i : Nat} {A : Nat → V} (h : i < n) : Sp (rowsV n A) (A i) := Sp.mem (List.mem_map.2 ⟨i, List.mem_range.2 h, rfl⟩)
/-- what the steps keep of the rows of a square -/
structure Kin (n : Nat) (G : List V) (A : Nat → V) : Prop where
  det : det n (fun i => G.getD i fun _ => 0) = 0 → Gf.det n A = 0
  span : ∀ g, g ∈ G → Sp (rowsV n A) g
theorem Kin.of {n : Nat} {G : List V} {A B : Nat → V} (h : Kin n G A) (hd : Gf.det n A = 0 → Gf.det n B = 0) (hs : ∀ i, i < n → Sp (rowsV n B) (A i)) : Kin n G B :=
  ⟨fun e => hd (h.det e), fun g hg => Sp.trans (fun a ha => by
    obtain ⟨i, hi, rfl⟩ := List.mem_map.1 ha
    exact hs i (List.mem_range.1 hi)) (h.span g hg)⟩
theorem Kin.row {n r : Nat} {G : List V} {A : Nat → V} {x y : UInt8} (h : Kin n G A) (hr : r < n) (hxy : gmul y x = 1) : Kin n G (setR A r (fun j => gmul x (A r j))) := by
  refine h.of (fun e => by rw [det_row A x hr, e, gmul_zero]) (fun i hi => ?_)
  by_cases hir : i = r
  · have h1 := Sp.scale y (rowsV_mem (A := setR A r (fun j => gmul x (A r j))) hr)
    rw [setR_same] at h1
    have e : (fun j => gmul y (gmul x (A r j))) = A r := by funext j; rw [← gmul_assoc, hxy, one_gmul]
    rw [e] at h1; rw [hir]; exact h1
  · have h1 := rowsV_mem (A := setR A r (fun j => gmul x (A r j))) hi
    rwa [setR_ne _ _ hir] at h1
theorem Kin.less {n r s : Nat} {G : List V} {A : Nat → V} (x : UInt8) (h : Kin n G A) (hr : r < n) (hs : s < n) (hne : r ≠ s) : Kin n G (setR A r (fun j => A r j ^^^ gmul x (A s j))) := by
  refine h.of (fun e => by rw [det_less A x hr hs hne, e]) (fun i hi => ?_)
  by_cases hir : i = r
  · have h1 := rowsV_mem (A := setR A r (fun j => A r j ^^^ gmul x (A s j))) hr
    have h2 := Sp.scale x (rowsV_mem (A := setR A r (fun j => A r j ^^^ gmul x (A s j))) hs)
    rw [setR_same] at h1
    rw [setR_ne _ _ (Ne.symm hne)] at h2
    have h3 := Sp.add h1 h2
    have e : (fun j => (A r j ^^^ gmul x (A s j)) ^^^ gmul x (A s j)) = A r := by funext j; rw [xor_assoc, xor_self, xor_zero]
    rw [e] at h3; rw [hir]; exact h3
  · have h1 := rowsV_mem (A := setR A r (fun j => A r j ^^^ gmul x (A s j))) hi
    rwa [setR_ne _ _ hir] at h1
theorem Kin.sw {n r s : Nat} {G : List V} {A : Nat → V} (h : Kin n G A) (hr : r < n) (hs : s < n) : Kin n G (Gf.sw A r s) := by
  by_cases hne : r = s
  · subst hne
    have e : Gf.sw A r r = A := by unfold Gf.sw; rw [setR_setR, setR_self]
    rw [e]; exact h
  · refine h.of (fun e => by rw [det_sw A hr hs hne, e]) (fun i hi => ?_)
    by_cases h1 : i = r
    · have := rowsV_mem (A := Gf.sw A r s) hs
      unfold Gf.sw at this; rw [setR_same] at this; rw [h1]; exact this
    · by_cases h2 : i = s
      · have := rowsV_mem (A := Gf.sw A r s) hr
        unfold Gf.sw at this; rw [setR_ne _ _ hne, setR_same] at this; rw [h2]; exact this
      · have := rowsV_mem (A := Gf.sw A r s) hi
        unfold Gf.sw at this; rw [setR_ne _ _ h2, setR_ne _ _ h1] at this; exact this
def updF (F : Nat → Rw) (i : Nat) (r : Rw) : Nat → Rw := fun k => if k = i then r else F k
theorem updF_same (F : Nat → Rw) (i : Nat) (r : Rw) : updF F i r i = r := by simp [updF]
theorem updF_ne (F : Nat → Rw) {i k : Nat} (r : Rw) (h : k ≠ i) : updF F i r k = F k := by simp [updF, h]
def vrow (F : Nat → Rw) : Nat → V := fun i => vf (F i).1
theorem vrow_upd (F : Nat → Rw) (i : Nat) (r : Rw) : vrow (updF F i r) = setR (vrow F) i (vf r.1) := by
  funext k; unfold vrow updF setR; split <;> rfl
/-- a row and its data fit the square -/
def Goodr (n : Nat) (G : List V) (r : Rw) : Prop := Fit n n r ∧ vf r.1 = mulV n G (vf r.2)
theorem Goodr.less {n : Nat} {G : List V} {x o : Rw} (c : UInt8) (hx : Goodr n G x) (ho : Goodr n G o) : Goodr n G (lessF x c o) := by
  refine ⟨hx.1.less ho.1, ?_⟩
  show vf (axpy c o.1 x.1) = mulV n G (vf (axpy c o.2 x.2))
  rw [vf_axpy (by rw [ho.1.1, hx.1.1]), vf_axpy (by rw [ho.1.2, hx.1.2]), mulV_add, hx.2, ho.2, mulV_scale]
theorem norm_split {n t : Nat} {y : Rw} (hy : Fit n t y) (h : ¬ leadS y.1 < 0) : ∃ (l : Nat) (c : UInt8), c ≠ 0 ∧ leadS y.1 = (l : Int) ∧ LeadAt (normS y) l ∧ Fit n t (normS y) ∧ vf (normS y).1 = (fun j => gmul c (vf y.1 j)) ∧ vf (normS y).2 = fun j => gmul c (vf y.2 j) := by
  obtain ⟨l, c, h1, h2, h3, h4, h5⟩ := norm_row hy h
  have cut : ∀ (r : Rw), Fit n t r → (∀ j, j < n → vf (cat r) j = vf r.1 j) ∧ ∀ j, vf (cat r) (n + j) = vf r.2 j := by
    intro r hr
    refine ⟨fun j hj => vf_app_left (by rw [hr.1]; exact hj), fun j => ?_⟩
    unfold vf cat
    rw [List.getD_eq_getElem?_getD, List.getElem?_append_right (by rw [hr.1]; omega), hr.1, Nat.add_sub_cancel_left, List.getD_eq_getElem?_getD]
  refine ⟨l, c, h1, h2, h3, h4, ?_, ?_⟩
  · funext j
    by_cases hj : j < n
    · rw [← (cut _ h4).1 j hj, h5, ← (cut _ hy).1 j hj]
    · rw [(vf_wide (normS y).1) j (by rw [h4.1]; omega), (vf_wide y.1) j (by rw [hy.1]; omega), gmul_zero]
  · funext j
    rw [← (cut _ h4).2 j, h5, ← (cut _ hy).2 j]
theorem Goodr.norm {n : Nat} {G : List V} {y : Rw} (hy : Goodr n G y) (h : ¬ leadS y.1 < 0) : Goodr n G (normS y) := by
  obtain ⟨l, c, _, _, _, h4, h5, h6⟩ := norm_split hy.1 h
  refine ⟨h4, ?_⟩
  rw [h5, h6, mulV_scale, hy.2]
/-- c columns are done -/
structure GJ (n : Nat) (G : List V) (F : Nat → Rw) (c : Nat) : Prop where
  good : ∀ i, i < n → Goodr n G (F i)
  col : ∀ i, i < n → ∀ j, j < c → vf (F i).1 j = if i = j then 1 else 0
  kin : Kin n G (vrow F)
/-- .. and of column c the first k rows -/
structure GJm (n : Nat) (G : List V) (F : Nat → Rw) (c k : Nat) : Prop where
  good : ∀ i, i < n → Goodr n G (F i)
  col : ∀ i, i < n → ∀ j, j < c → vf (F i).1 j = if i = j then 1 else 0
  kin : Kin n G (vrow F)
  lead : vf (F c).1 c = 1
  clr : ∀ i, i < k → i < n → i ≠ c → vf (F i).1 c = 0
theorem at_vf (v : List UInt8) (c : Nat) : atS v (c : Int) = vf v c := by simp [vf, atS]
theorem GJm.done {n : Nat} {G : List V} {F : Nat → Rw} {c : Nat} (h : GJm n G F c n) : GJ n G F (c + 1) :=
  ⟨h.good, fun i hi j hj => by
    by_cases hjc : j < c
    · exact h.col i hi j hjc
    · have e : j = c := by omega
      subst e
      by_cases hij : i = j
      · subst hij; rw [if_pos rfl]; exact h.lead
      · rw [if_neg hij]; exact h.clr i hi hi hij, h.kin⟩
theorem GJm.skip {n : Nat} {G : List V} {F : Nat → Rw} {c : Nat} (h : GJm n G F c c) : GJm n G F c (c + 1) :=
  ⟨h.good, h.col, h.kin, h.lead, fun i hi hn hne => h.clr i (by omega) hn hne⟩
theorem GJm.step {n : Nat} {G : List V} {F : Nat → Rw} {c k : Nat} (h : GJm n G F c k) (hc : c < n) (hk : k < n) (hne : k ≠ c) :
    GJm n G (updF F k (lessF (F k) (atS (F k).1 (c : Int)) (F c))) c (k + 1) := by
  have gk := h.good k hk
  have gc := h.good c hc
  have e1 : vf (lessF (F k) (atS (F k).1 (c : Int)) (F c)).1 = fun j => vf (F k).1 j ^^^ gmul (vf (F k).1 c) (vf (F c).1 j) := by
    show vf (axpy _ (F c).1 (F k).1) = _
    rw [vf_axpy (by rw [gc.1.1, gk.1.1]), at_vf]
  refine ⟨fun i hi => ?_, fun i hi j hj => ?_, ?_, ?_, fun i hi hn hic => ?_⟩
  · by_cases hik : i = k
    · rw [hik, updF_same]; exact gk.less _ gc
    · rw [updF_ne _ _ hik]; exact h.good i hi
  · by_cases hik : i = k
    · subst hik
      rw [updF_same, e1]
      show vf (F i).1 j ^^^ gmul _ (vf (F c).1 j) = _
      rw [h.col i hi j hj, h.col c hc j hj, if_neg (by omega : ¬ c = j), gmul_zero, xor_zero]
    · rw [updF_ne _ _ hik]; exact h.col i hi j hj
  · rw [vrow_upd, e1]; exact h.kin.less _ hk hc hne
  · rw [updF_ne _ _ (Ne.symm hne)]; exact h.lead
  · by_cases hik : i = k
    · subst hik
      rw [updF_same, e1]
      show vf (F i).1 c ^^^ gmul (vf (F i).1 c) (vf (F c).1 c) = 0
      rw [h.lead, gmul_one, xor_self]
    · rw [updF_ne _ _ hik]; exact h.clr i (by omega) hn hic
def swF (F : Nat → Rw) (c p : Nat) : Nat → Rw := updF (updF F c (F p)) p (F c)
theorem swF_at (F : Nat → Rw) (c p : Nat) : swF F c p c = F p := by
  unfold swF updF; by_cases h : c = p
  · rw [if_pos h, h]
  · rw [if_neg h, if_pos rfl]
theorem GJ.swap {n : Nat} {G : List V} {F : Nat → Rw} {c p : Nat} (h : GJ n G F c) (hc : c < n) (hp : p < n) (hcp : c ≤ p) : GJ n G (swF F c p) c := by
  refine ⟨fun i hi => ?_, fun i hi j hj => ?_, ?_⟩
  · unfold swF updF
    split
    · exact h.good c hc
    · split
      · exact h.good p hp
      · exact h.good i hi
  · unfold swF updF
    split
    · rename_i e; rw [h.col c hc j hj, if_neg (by omega), if_neg (by omega)]
    · split
      · rename_i e; rw [h.col p hp j hj, if_neg (by omega), if_neg (by omega)]
      · exact h.col i hi j hj
  · have e : vrow (swF F c p) = Gf.sw (vrow F) c p := by unfold swF; rw [vrow_upd, vrow_upd]; rfl
    rw [e]; exact h.kin.sw hc hp
theorem GJ.norm {n : Nat} {G : List V} {F : Nat → Rw} {c : Nat} (h : GJ n G F c) (hc : c < n) (hx : vf (F c).1 c ≠ 0) : GJm n G (updF F c (normS (F c))) c 0 := by
  have gc := h.good c hc
  have hnn : ¬ leadS (F c).1 < 0 := fun hneg => hx (vf_zero (leadS_neg hneg) c)
  obtain ⟨l, x, hx0, hl, hL, hF, e1, e2⟩ := norm_split gc.1 hnn
  have hN : vf (normS (F c)).1 l = 1 := by
    have := at_of hL.2.1
    rwa [at_vf] at this
  have hlc : l = c := by
    rcases Nat.lt_trichotomy l c with g | g | g
    · rw [e1] at hN
      have hN' : gmul x (vf (F c).1 l) = 1 := hN
      rw [h.col c hc l g, if_neg (by omega), gmul_zero] at hN'
      exact absurd hN' (by decide)
    · exact g
    · have hz : vf (normS (F c)).1 c = 0 := by
        unfold vf; rw [List.getD_eq_getElem?_getD]
        cases e : (normS (F c)).1[c]? with
        | none => rfl
        | some y => exact hL.2.2 c y g e
      rw [e1] at hz
      rcases gmul_eq_zero hz with h1 | h1
      · exact absurd h1 hx0
      · exact absurd h1 hx
  refine ⟨fun i hi => ?_, fun i hi j hj => ?_, ?_, ?_, fun i hi => by omega⟩
  · by_cases hic : i = c
    · rw [hic, updF_same]; exact gc.norm hnn
    · rw [updF_ne _ _ hic]; exact h.good i hi
  · by_cases hic : i = c
    · subst hic
      rw [updF_same, e1]
      show gmul x (vf (F i).1 j) = _
      rw [h.col i hi j hj, if_neg (by omega), gmul_zero]
    · rw [updF_ne _ _ hic]; exact h.col i hi j hj
  · rw [vrow_upd, e1]; exact h.kin.row hc (ginv_gmul x hx0)
  · rw [updF_same]; rw [hlc] at hN; exact hN
theorem GJ.init {n : Nat} {G : List V} {F : Nat → Rw} (hn : G.length = n) (hF : ∀ i, i < n → Fit n n (F i)) (h1 : ∀ i, i < n → G[i]? = some (vf (F i).1)) (h2 : ∀ i, i < n → vf (F i).2 = unit i) : GJ n G F 0 := by
  refine ⟨fun i hi => ⟨hF i hi, ?_⟩, fun i hi j hj => by omega, ⟨fun e => ?_, fun g hg => ?_⟩⟩
  · rw [h2 i hi, mulV_unit hn (h1 i hi)]
  · rw [← e]; exact det_congr fun r c hr hc => by
      rw [List.getD_eq_getElem?_getD, h1 r hr]; rfl
  · obtain ⟨i, hi, rfl⟩ := List.getElem_of_mem hg
    have h3 := h1 i (by omega)
    rw [List.getElem?_eq_getElem hi] at h3
    injection h3 with h3
    rw [h3]; exact rowsV_mem (A := vrow F) (by omega)
/-- no row leads there: the rank isn't full -/
theorem GJ.fail {n c r : Nat} {G : List V} {F : Nat → Rw} (h : GJ n G F c) (hc : c < n) (hz : ∀ i, c ≤ i → i < n → vf (F i).1 c = 0) (hr : Rk G r) : r < n := by
  have hW : ∀ g, g ∈ G → Sp ((List.range c).map (vrow F) ++ (List.range (n - 1 - c)).map (fun m => unit (c + 1 + m))) g := by
    intro g hg
    refine Sp.trans ?_ (h.kin.span g hg)
    intro a ha
    obtain ⟨i, hi, rfl⟩ := List.mem_map.1 ha
    have hin := List.mem_range.1 hi
    by_cases hic : i < c
    · exact Sp.mem (List.mem_append_left _ (List.mem_map.2 ⟨i, List.mem_range.2 hic, rfl⟩))
    · have hw : Wide n (vrow F i) := by have := vf_wide (F i).1; rw [(h.good i hin).1.1] at this; exact this
      rw [← coords hw]
      refine Sp.trans (A := (List.range (n - 1 - c)).map (fun m => unit (c + 1 + m))) (fun a ha => Sp.mem (List.mem_append_right _ ha)) ?_
      obtain ⟨m, hm⟩ : ∃ m, m = n - 1 - c := ⟨_, rfl⟩
      rw [← hm]
      have hs : n = (c + 1) + m := by omega
      refine ⟨(List.range m).map (fun m => vrow F i (c + 1 + m)), by simp, ?_⟩
      unfold units
      rw [hs, List.range_add, List.map_append, List.map_append]
      funext j
      rw [comb_append _ _ _ _ _ (by simp)]
      have e1 : comb ((List.range (c + 1)).map (vrow F i)) ((List.range (c + 1)).map unit) j = 0 := by
        have e2 : (List.range (c + 1)).map (vrow F i) = List.replicate (c + 1) 0 := by
          apply List.ext_getElem (by simp)
          intro k h1 h2
          simp at h1
          simp only [List.getElem_map, List.getElem_range, List.getElem_replicate]
          by_cases hk : k < c
          · show vf (F i).1 k = 0
            rw [h.col i hin k hk, if_neg (by omega)]
          · have : k = c := by omega
            rw [this]; exact hz i (by omega) hin
        rw [e2, comb_zeros]
      rw [e1, zero_xor, List.map_map, List.map_map]
      rfl
  have := hr.le_length hW
  simp at this
  omega
/-- all columns are done -/
theorem GJ.whole {n : Nat} {G : List V} {F : Nat → Rw} (h : GJ n G F n) : ((List.range n).map fun i => vf (F i).2).map (mulV n G) = units n := by
  rw [List.map_map]
  apply List.map_congr_left
  intro i hi
  have hin := List.mem_range.1 hi
  show mulV n G (vf (F i).2) = unit i
  rw [← (h.good i hin).2]
  funext j
  by_cases hj : j < n
  · rw [h.col i hin j hj]; rfl
  · rw [(vf_wide (F i).1) j (by rw [(h.good i hin).1.1]; omega), unit_wide hin j (by omega)]
theorem GJ.full {n r : Nat} {G : List V} {F : Nat → Rw} (h : GJ n G F n) (hn : G.length = n) (hr : Rk G r) : r = n := by
  have hu : Rk (units n) n := ⟨units n, units_ind n, units_length n, fun b hb => Sp.mem hb, fun b hb => Sp.mem hb⟩
  refine Nat.le_antisymm (by have := hr.le_length (W := G) (fun a ha => Sp.mem ha); omega) (hu.le hr ?_)
  intro u huu
  rw [← h.whole] at huu
  obtain ⟨d, -, rfl⟩ := List.mem_map.1 huu
  exact mulV_sp hn d
theorem GJ.det {n : Nat} {G : List V} {F : Nat → Rw} (h : GJ n G F n) : Gf.det n (fun i => G.getD i fun _ => 0) ≠ 0 := by
  intro e
  have h1 := h.kin.det e
  have h2 : Gf.det n (vrow F) = Gf.det n unit := det_congr fun i j hi hj => by
    show vf (F i).1 j = unit i j
    rw [h.col i hi j hj]; rfl
  rw [h2, det_unit] at h1
  exact absurd h1 (by decide)
end Go.Proofs.YtcfdopiponlboaaGreatDoor
namespace Go.Proofs.YtcfdopiponlboaaGreatDoor
open Go.RowKit Go.By
end Go.Proofs.YtcfdopiponlboaaGreatDoor
namespace Go.Proofs.YtcfdopiponlboaaGreatDoor
open Go.RowKit Go.By
/-- a row's two slices, not of block g -/
def RowOff (w : World) (g : Nat) (u v : Value) (r : Rw) : Prop := ∃ q1 m1 c1 q2 m2 c2, u = .slice q1 m1 c1 ∧ v = .slice q2 m2 c2 ∧ Sl B8 w q1 m1 c1 r.1 ∧ Sl B8 w q2 m2 c2 r.2 ∧ (∀ a, q1 = some a → a.block ≠ g) ∧ ∀ a, q2 = some a → a.block ≠ g
theorem RowOff.keep {w w' : World} {g : Nat} {u v : Value} {r : Rw} (h : RowOff w g u v r) (hb : Below w.heap.size w w') : RowOff w' g u v r := by
  obtain ⟨q1, m1, c1, q2, m2, c2, h1, h2, h3, h4, h5, h6⟩ := h
  exact ⟨q1, m1, c1, q2, m2, c2, h1, h2, h3.keep hb, h4.keep hb, h5, h6⟩
theorem RowOff.set {w : World} {g o : Nat} {u v x : Value} {r : Rw} (h : RowOff w g u v r) : RowOff (w.setCell ⟨g, o, none⟩ x) g u v r := by
  obtain ⟨q1, m1, c1, q2, m2, c2, h1, h2, h3, h4, h5, h6⟩ := h
  exact ⟨q1, m1, c1, q2, m2, c2, h1, h2, h3.set h5, h4.set h6, h5, h6⟩
def RMem (w : World) (g T n : Nat) (F : Nat → Rw) : Prop := ∃ cs : Array Value, w.heap[g]? = some (.cells cs T (0, 0)) ∧ cs.size = n * 2 ∧ ∀ i, i < n → ∃ u v, cs[i * 2]? = some u ∧ cs[i * 2 + 1]? = some v ∧ RowOff w g u v (F i)
theorem RMem.keep {w w' : World} {g T n : Nat} {F : Nat → Rw} (h : RMem w g T n F) (hb : Below w.heap.size w w') : RMem w' g T n F := by
  obtain ⟨cs, h1, h2, h3⟩ := h
  refine ⟨cs, (hb.block _ (blk_lt h1)).trans h1, h2, fun i hi => ?_⟩
  obtain ⟨u, v, a, b, c⟩ := h3 i hi
  exact ⟨u, v, a, b, c.keep hb⟩
theorem RMem.set {w : World} {g T n i : Nat} {F : Nat → Rw} {u v : Value} {r : Rw} (h : RMem w g T n F) (hi : i < n) (hr : RowOff w g u v r) : RMem ((w.setCell ⟨g, i * 2, none⟩ u).setCell ⟨g, i * 2 + 1, none⟩ v) g T n (updF F i r) := by
  obtain ⟨cs, h1, h2, h3⟩ := h
  refine ⟨_, hss (hss h1), by simp [h2], fun k hk => ?_⟩
  by_cases hki : k = i
  · subst hki
    refine ⟨u, v, ?_, ?_, by rw [updF_same]; exact hr.set.set⟩
    · simp [Array.getElem?_setIfInBounds]; omega
    · simp [Array.getElem?_setIfInBounds]; omega
  · obtain ⟨a, b, e1, e2, e3⟩ := h3 k hk
    refine ⟨a, b, ?_, ?_, by rw [updF_ne _ _ hki]; exact e3.set.set⟩
    · rw [Array.getElem?_setIfInBounds, if_neg (by omega), Array.getElem?_setIfInBounds, if_neg (by omega)]; exact e1
    · rw [Array.getElem?_setIfInBounds, if_neg (by omega), Array.getElem?_setIfInBounds, if_neg (by omega)]; exact e2
end Go.Proofs.YtcfdopiponlboaaGreatDoor
namespace Go.Proofs.YtcfdopiponlboaaGreatDoor
open Go.By Gf
def vR (r : Rw) : V := vf (cat r)
structure Red (n t : Nat) (K : List Rw) : Prop where
  kept : KeptS n t K
  red : K.Pairwise (fun a b => vR a (leadN b) = 0)
theorem Red.nil (n t : Nat) : Red n t [] := ⟨KeptS.nil n t, List.Pairwise.nil⟩
theorem KeptS.tail {n t : Nat} {k : Rw} {K : List Rw} (h : KeptS n t (k :: K)) : KeptS n t K := ⟨fun a ha => h.rows a (by simp [ha]), (List.pairwise_cons.1 h.sorted).2⟩
theorem Red.tail {n t : Nat} {k : Rw} {K : List Rw} (h : Red n t (k :: K)) : Red n t K := ⟨h.kept.tail, (List.pairwise_cons.1 h.red).2⟩
theorem vR_lead {n t : Nat} {r : Rw} (hf : Fit n t r) (hl : Led r) : vR r (leadN r) = 1 := vf_lead hl.at hf
/-- what is in the span, by its bytes where the rows lead -/
theorem coords_red {n t : Nat} : ∀ {K : List Rw} {v : V}, Red n t K → Sp (K.map vR) v → v = comb (K.map fun k => v (leadN k)) (K.map vR)
  | [], v, _, ⟨c, hc, e⟩ => by rw [e]; funext j; rw [List.map_nil, comb_nil, List.map_nil, comb_nil]
  | k :: K, v, h, ⟨c, hc, e⟩ => by
    cases c with
    | nil => simp at hc
    | cons x c =>
      obtain ⟨hf, hl⟩ := h.kept.rows k (by simp)
      have hs := (List.pairwise_cons.1 h.kept.sorted).1
      have hr := (List.pairwise_cons.1 h.red).1
      have hu : Sp (K.map vR) (comb c (K.map vR)) := ⟨c, by simpa using hc, rfl⟩
      have hv : ∀ j, v j = gmul x (vR k j) ^^^ comb c (K.map vR) j := fun j => by rw [e, List.map_cons, comb_cons]
      have h0 : comb c (K.map vR) (leadN k) = 0 := hu.at_zero fun a ha => by
        obtain ⟨b, hb, rfl⟩ := List.mem_map.1 ha
        exact vf_before (h.kept.rows b (by simp [hb])).1 (h.kept.rows b (by simp [hb])).2 (hs b hb)
      have hx : v (leadN k) = x := by rw [hv, vR_lead hf hl, gmul_one, h0, xor_zero]
      have hc2 : (K.map fun b => v (leadN b)) = K.map fun b => comb c (K.map vR) (leadN b) := List.map_congr_left fun b hb => by
        rw [hv, hr b hb, gmul_zero, zero_xor]
      have ih := coords_red h.tail hu
      funext j
      rw [List.map_cons, List.map_cons, comb_cons, hx, hc2, ← ih, hv]
theorem comb_map_zero {α : Type} (f : α → UInt8) (g : α → V) (j : Nat) : ∀ (K : List α), (∀ k, k ∈ K → gmul (f k) (g k j) = 0) → comb (K.map f) (K.map g) j = 0
  | [], _ => by rw [List.map_nil, comb_nil']
  | k :: K, h => by rw [List.map_cons, List.map_cons, comb_cons, h k (by simp), comb_map_zero f g j K (fun a ha => h a (by simp [ha])), xor_self]
/-- what is in the span leads where a row does -/
theorem lead_red {n t l : Nat} {K : List Rw} {v : V} (h : Red n t K) (hv : Sp (K.map vR) v) (h0 : ∀ j, j < l → v j = 0) (h1 : v l ≠ 0) : ∃ k, k ∈ K ∧ leadN k = l := by
  apply Classical.byContradiction
  intro hn
  refine h1 ?_
  rw [coords_red h hv]
  refine comb_map_zero _ _ _ K fun k hk => ?_
  rcases Nat.lt_trichotomy (leadN k) l with g | g | g
  · rw [h0 _ g, zero_gmul]
  · exact absurd ⟨k, hk, g⟩ hn
  · rw [show vR k l = 0 from vf_before (h.kept.rows k hk).1 (h.kept.rows k hk).2 g, gmul_zero]
theorem sorted_ext : ∀ {l m : List Nat}, l.Pairwise (· < ·) → m.Pairwise (· < ·) → (∀ x, x ∈ l ↔ x ∈ m) → l = m
  | [], m, _, _, h => by
    cases m with
    | nil => rfl
    | cons b m => exact absurd ((h b).2 (by simp)) (by simp)
  | a :: l, [], _, _, h => absurd ((h a).1 (by simp)) (by simp)
  | a :: l, b :: m, h1, h2, h => by
    obtain ⟨g1, g2⟩ := List.pairwise_cons.1 h1
    obtain ⟨k1, k2⟩ := List.pairwise_cons.1 h2
    have e : a = b := by
      rcases List.mem_cons.1 ((h a).1 (by simp)) with e | e
      · exact e
      · rcases List.mem_cons.1 ((h b).2 (by simp)) with e' | e'
        · exact e'.symm
        · exact absurd (g1 b e') (by have := k1 a e; omega)
    subst e
    rw [sorted_ext g2 k2 fun x => ⟨fun hx => by
      rcases List.mem_cons.1 ((h x).1 (by simp [hx])) with e | e
      · subst e; exact absurd (g1 x hx) (Nat.lt_irrefl x)
      · exact e, fun hx => by
      rcases List.mem_cons.1 ((h x).2 (by simp [hx])) with e | e
      · subst e; exact absurd (k1 x hx) (Nat.lt_irrefl x)
      · exact e⟩]
theorem Red.leads {n t : Nat} {K : List Rw} (h : Red n t K) : (K.map leadN).Pairwise (· < ·) := List.pairwise_map.2 h.kept.sorted
theorem Red.delta {n t i j : Nat} {K : List Rw} {a b : Rw} (h : Red n t K) (ha : K[i]? = some a) (hb : K[j]? = some b) : vR a (leadN b) = if i = j then 1 else 0 := by
  have ma := h.kept.rows a (List.mem_of_getElem? ha)
  obtain ⟨hi, ea⟩ := List.getElem?_eq_some_iff.1 ha
  obtain ⟨hj, eb⟩ := List.getElem?_eq_some_iff.1 hb
  rcases Nat.lt_trichotomy i j with g | g | g
  · rw [if_neg (by omega)]
    have := List.pairwise_iff_getElem.1 h.red i j hi hj g
    rwa [ea, eb] at this
  · subst g; rw [ha] at hb; cases hb
    rw [if_pos rfl]; exact vR_lead ma.1 ma.2
  · rw [if_neg (by omega)]
    have := List.pairwise_iff_getElem.1 h.kept.sorted j i hj hi g
    rw [ea, eb] at this
    exact vf_before ma.1 ma.2 this
/-- reduced rows of one span are the same -/
theorem Red.unique {n t : Nat} {K M : List Rw} (h : Red n t K) (g : Red n t M) (h1 : ∀ k, k ∈ K → Sp (M.map vR) (vR k)) (h2 : ∀ k, k ∈ M → Sp (K.map vR) (vR k)) : K = M := by
  have key : ∀ {A B : List Rw}, Red n t A → Red n t B → (∀ k, k ∈ A → Sp (B.map vR) (vR k)) → ∀ x, x ∈ A.map leadN → x ∈ B.map leadN := by
    intro A B hA hB hs x hx
    obtain ⟨a, ha, rfl⟩ := List.mem_map.1 hx
    obtain ⟨hf, hl⟩ := hA.kept.rows a ha
    obtain ⟨b, hb, e⟩ := lead_red hB (hs a ha) (l := leadN a) (fun j hj => vf_before hf hl hj) (by rw [vR_lead hf hl]; decide)
    exact List.mem_map.2 ⟨b, hb, e⟩
  have hl : K.map leadN = M.map leadN := sorted_ext h.leads g.leads fun x => ⟨key h g h1 x, key g h h2 x⟩
  have hlen : K.length = M.length := by have := congrArg List.length hl; simpa using this
  have lead_at : ∀ {i : Nat} {a b : Rw}, K[i]? = some a → M[i]? = some b → leadN a = leadN b := by
    intro i a b ha hb
    have := congrArg (fun l => l[i]?) hl
    simp only [List.getElem?_map, ha, hb, Option.map_some] at this
    injection this
  apply List.ext_getElem?
  intro i
  by_cases hi : i < K.length
  · have ha : K[i]? = some K[i] := List.getElem?_eq_getElem hi
    have hb : M[i]? = some (M[i]'(by omega)) := List.getElem?_eq_getElem (by omega)
    rw [ha, hb]
    congr 1
    obtain ⟨f1, -⟩ := h.kept.rows _ (List.mem_of_getElem? ha)
    obtain ⟨f2, -⟩ := g.kept.rows _ (List.mem_of_getElem? hb)
    have e1 := coords_red h (v := vR K[i]) (Sp.mem (List.mem_map.2 ⟨_, List.mem_of_getElem? ha, rfl⟩))
    have e2 := coords_red h (h2 _ (List.mem_of_getElem? hb))
    have e3 : (K.map fun k => vR K[i] (leadN k)) = K.map fun k => vR (M[i]'(by omega)) (leadN k) := by
      apply List.map_congr_left
      intro k hk
      obtain ⟨j, hj, rfl⟩ := List.getElem_of_mem hk
      have hkj : K[j]? = some K[j] := List.getElem?_eq_getElem hj
      have hmj : M[j]? = some (M[j]'(by omega)) := List.getElem?_eq_getElem (by omega)
      rw [h.delta ha hkj, lead_at hkj hmj, g.delta hb hmj]
    have ev : vR K[i] = vR (M[i]'(by omega)) := by rw [e1, e2, e3]
    have hc : cat K[i] = cat (M[i]'(by omega)) := vf_inj (by rw [f1.cat, f2.cat]) fun j _ => by
      have := congrFun ev j; exact this
    have l1 : (K[i]).1.length = ((M[i]'(by omega)) : Rw).1.length := by rw [f1.1, f2.1]
    unfold cat at hc
    obtain ⟨p1, p2⟩ := List.append_inj hc l1
    exact Prod.ext p1 p2
  · rw [List.getElem?_eq_none (by omega), List.getElem?_eq_none (by omega)]
end Go.Proofs.YtcfdopiponlboaaGreatDoor
namespace Go.Proofs.YtcfdopiponlboaaGreatDoor
open Go.By Gf
theorem leadAt_of {n t l : Nat} {r : Rw} (hf : Fit n t r) (hl : l < n) (h1 : vR r l = 1) (h0 : ∀ j, j < l → vR r j = 0) : LeadAt r l := by
  have hv : ∀ j, j < n → ∀ y, r.1[j]? = some y → vR r j = y := fun j hj y hy => by
    show vf (cat r) j = y
    rw [vf_at hf hj, at_of hy]
  have hx : r.1[l]? = some (r.1[l]'(by rw [hf.1]; exact hl)) := List.getElem?_eq_getElem (by rw [hf.1]; exact hl)
  have e1 : r.1[l]'(by rw [hf.1]; exact hl) = 1 := by rw [← hv l hl _ hx]; exact h1
  rw [e1] at hx
  have hz : ∀ (j : Nat) (y : UInt8), j < l → r.1[j]? = some y → y = 0 := fun j y hj hy => by rw [← hv j (by omega) y hy]; exact h0 j hj
  exact ⟨idxf_found hx (by decide) fun j y hj hy => by rw [hz j y hj hy]; rfl, hx, hz⟩
theorem vR_less {n t : Nat} {x o : Rw} (c : UInt8) (hx : Fit n t x) (ho : Fit n t o) : vR (lessF x c o) = fun j => vR x j ^^^ gmul c (vR o j) := by
  unfold vR; rw [cat_less c hx ho, vf_axpy (by rw [ho.cat, hx.cat])]
theorem vR_at {n t l : Nat} {x : Rw} (hx : Fit n t x) (hl : l < n) : atS x.1 (l : Int) = vR x l := (vf_at hx hl).symm
/-- what is left of a row leads with a 1, once normed, where no row leads -/
theorem rest_norm {n t : Nat} {K : List Rw} {x : Rw} (h : KeptS n t K) (hx : Fit n t x) (hn : ¬ leadS (restF K x).1 < 0) :
    ∃ l, LeadAt (normS (restF K x)) l ∧ Fit n t (normS (restF K x)) ∧ (∀ k, k ∈ K → vR (normS (restF K x)) (leadN k) = 0) ∧ Sp (vR x :: K.map vR) (vR (normS (restF K x))) ∧ ∃ d, Sp (K.map vR) (fun j => vR x j ^^^ gmul d (vR (normS (restF K x)) j)) := by
  have hr := hx.rest (fun k hk => (h.rows k hk).1)
  have hred := rest_red h.rows hx
  have hspan := red_span (tri K) (vf (cat x))
  rw [tri_fst] at hspan
  obtain ⟨l, c, hc, hl, hL, hF, hv⟩ := norm_row hr hn
  refine ⟨l, hL, hF, fun k hk => ?_, ?_, ginv c, ?_⟩
  · show vf (cat _) _ = 0
    rw [hv]
    show gmul c (vf (cat (restF K x)) (leadN k)) = 0
    rw [hred, red_at h.kept.tri (vf (cat k), leadN k) (List.mem_map.2 ⟨k, hk, rfl⟩), gmul_zero]
  · show Sp _ (vf (cat _))
    rw [hv, hred]
    refine Sp.scale c ?_
    have e : red (tri K) (vf (cat x)) = fun j => vf (cat x) j ^^^ (vf (cat x) j ^^^ red (tri K) (vf (cat x)) j) := by funext j; rw [← xor_assoc, xor_self, zero_xor]
    rw [e]
    exact Sp.add (Sp.mem (by simp [vR])) (hspan.cons _)
  · have e : (fun j => vR x j ^^^ gmul (ginv c) (vR (normS (restF K x)) j)) = fun j => vf (cat x) j ^^^ red (tri K) (vf (cat x)) j := by
      funext j
      show _ ^^^ gmul (ginv c) (vf (cat (normS (restF K x))) j) = _
      rw [hv, hred]
      show _ ^^^ gmul (ginv c) (gmul c _) = _
      rw [← gmul_assoc, ginv_gmul c hc, one_gmul]; rfl
    rw [e]; exact hspan
theorem ne_lead {n t l : Nat} {K : List Rw} {y : Rw} (hL : LeadAt y l) (hF : Fit n t y) (h0 : ∀ k, k ∈ K → vR y (leadN k) = 0) : ∀ k, k ∈ K → leadN k ≠ l := fun k hk e => by
  have h1 : vR y l = 1 := vf_lead hL hF
  rw [← e, h0 k hk] at h1
  exact absurd h1 (by decide)
/-- a row put in among rows by rising places -/
def putAt (M : List Rw) (y : Rw) : List Rw := M.takeWhile (fun r => decide (leadS r.1 ≤ leadS y.1)) ++ y :: M.dropWhile (fun r => decide (leadS r.1 ≤ leadS y.1))
theorem putAt_mem {M : List Rw} {y k : Rw} : k ∈ putAt M y ↔ k = y ∨ k ∈ M := by
  unfold putAt
  rw [List.mem_append, List.mem_cons]
  conv => rhs; rw [← List.takeWhile_append_dropWhile (p := fun r : Rw => decide (leadS r.1 ≤ leadS y.1)) (l := M), List.mem_append]
  constructor
  · rintro (h | h | h)
    · exact .inr (.inl h)
    · exact .inl h
    · exact .inr (.inr h)
  · rintro (h | h | h)
    · exact .inr (.inl h)
    · exact .inl h
    · exact .inr (.inr h)
theorem putAt_kept {n t l : Nat} {M : List Rw} {y : Rw} (h : KeptS n t M) (hL : LeadAt y l) (hF : Fit n t y) (hne : ∀ k, k ∈ M → leadN k ≠ l) : KeptS n t (putAt M y) := by
  refine ⟨fun k hk => ?_, ?_⟩
  · rcases putAt_mem.1 hk with rfl | hk
    · exact ⟨hF, l, hL⟩
    · exact h.rows k hk
  unfold putAt
  have hln := leadN_of hL
  rw [hL.1]
  have hlead : ∀ k, k ∈ M → leadS k.1 = (leadN k : Int) := fun k hk => (h.rows k hk).2.at.1
  have hs : (M.takeWhile (fun r => decide (leadS r.1 ≤ (l : Int))) ++ M.dropWhile (fun r => decide (leadS r.1 ≤ (l : Int)))).Pairwise (fun a b => leadN a < leadN b) := by
    rw [List.takeWhile_append_dropWhile]; exact h.sorted
  have mT : ∀ k, k ∈ M.takeWhile (fun r => decide (leadS r.1 ≤ (l : Int))) → leadN k < l := by
    intro k hk
    have h1 := (List.takeWhile_sublist _).mem hk
    have := mem_take hk
    rw [decide_eq_true_eq, hlead k h1] at this
    have := hne k h1
    omega
  obtain ⟨h1, h2, h3⟩ := List.pairwise_append.1 hs
  have mD : ∀ k, k ∈ M.dropWhile (fun r => decide (leadS r.1 ≤ (l : Int))) → l < leadN k := by
    cases e : M.dropWhile (fun r => decide (leadS r.1 ≤ (l : Int))) with
    | nil => intro k hk; simp at hk
    | cons a r =>
      have ha : a ∈ M := (List.dropWhile_sublist _).mem (by rw [e]; simp)
      have hd := drop_head e
      rw [decide_eq_false_iff_not, hlead a ha] at hd
      have hla : l < leadN a := by omega
      rw [e] at h2
      intro k hk
      rcases List.mem_cons.1 hk with rfl | hk
      · exact hla
      · exact Nat.lt_trans hla ((List.pairwise_cons.1 h2).1 k hk)
  refine List.pairwise_append.2 ⟨h1, List.pairwise_cons.2 ⟨fun k hk => by rw [hln]; exact mD k hk, h2⟩, ?_⟩
  intro a ha b hb
  rcases List.mem_cons.1 hb with rfl | hb
  · rw [hln]; exact mT a ha
  · exact h3 a ha b hb
/-- the rows behind another equation, as a system puts it -/
def clrF (y r : Rw) : Rw := lessF r (atS r.1 (leadS y.1)) y
def putF (K : List Rw) (x : Rw) : List Rw := putAt (K.map (clrF (normS (restF K x)))) (normS (restF K x))
theorem clr_row {n t l : Nat} {y r : Rw} (hL : LeadAt y l) (hF : Fit n t y) (hr : Fit n t r) (hl : Led r) (h0 : vR y (leadN r) = 0) : Fit n t (clrF y r) ∧ LeadAt (clrF y r) (leadN r) ∧ vR (clrF y r) = (fun j => vR r j ^^^ gmul (vR r l) (vR y j)) ∧ vR (clrF y r) l = 0 := by
  have hln := hL.lt hF
  have e : clrF y r = lessF r (vR r l) y := by unfold clrF; rw [hL.1, vR_at hr hln]
  have hv : vR (clrF y r) = fun j => vR r j ^^^ gmul (vR r l) (vR y j) := by rw [e, vR_less _ hr hF]
  have hf : Fit n t (clrF y r) := by rw [e]; exact hr.less hF
  have y1 : vR y l = 1 := vf_lead hL hF
  refine ⟨hf, leadAt_of hf (hl.at.lt hr) ?_ fun j hj => ?_, hv, ?_⟩
  · rw [hv]; show _ ^^^ gmul _ (vR y (leadN r)) = 1
    rw [h0, gmul_zero, xor_zero]; exact vR_lead hr hl
  · rw [hv]; show vR r j ^^^ gmul (vR r l) (vR y j) = 0
    rw [show vR r j = 0 from vf_before hr hl hj, zero_xor]
    rcases Nat.lt_or_ge l (leadN r) with g | g
    · rw [show vR r l = 0 from vf_before hr hl g, zero_gmul]
    · have hyL : Led y := ⟨l, hL⟩
      have : vR y j = 0 := vf_before hF hyL (by rw [leadN_of hL]; omega)
      rw [this, gmul_zero]
  · rw [hv]; show vR r l ^^^ gmul (vR r l) (vR y l) = 0
    rw [y1, gmul_one, xor_self]
theorem putF_red {n t : Nat} {K : List Rw} {x : Rw} (h : Red n t K) (hx : Fit n t x) (hn : ¬ leadS (restF K x).1 < 0) :
    Red n t (putF K x) ∧ (∀ k, k ∈ putF K x → Sp (vR x :: K.map vR) (vR k)) ∧ (∀ k, k ∈ K → Sp ((putF K x).map vR) (vR k)) ∧ Sp ((putF K x).map vR) (vR x) ∧ (putF K x).length = K.length + 1 := by
  obtain ⟨l, hL, hF, h0, hsp, d, hd⟩ := rest_norm h.kept hx hn
  have hne := ne_lead hL hF h0
  have hclr := fun r (hr : r ∈ K) => clr_row hL hF (h.kept.rows r hr).1 (h.kept.rows r hr).2 (h0 r hr)
  obtain ⟨y, hy⟩ : ∃ y, y = normS (restF K x) := ⟨_, rfl⟩
  unfold putF
  rw [← hy] at hL hF h0 hsp hd hclr ⊢
  have hlead : ∀ r, r ∈ K → leadN (clrF y r) = leadN r := fun r hr => leadN_of (hclr r hr).2.1
  have hM : KeptS n t (K.map (clrF y)) := by
    refine ⟨fun k hk => ?_, List.pairwise_map.2 (h.kept.sorted.imp_of_mem fun {a b} ha hb hab => by rw [hlead a ha, hlead b hb]; exact hab)⟩
    obtain ⟨r, hr, rfl⟩ := List.mem_map.1 hk
    exact ⟨(hclr r hr).1, _, (hclr r hr).2.1⟩
  have hneM : ∀ k, k ∈ K.map (clrF y) → leadN k ≠ l := fun k hk => by
    obtain ⟨r, hr, rfl⟩ := List.mem_map.1 hk
    rw [hlead r hr]; exact hne r hr
  have hyM : ∀ k, k ∈ K.map (clrF y) → vR y (leadN k) = 0 ∧ vR k l = 0 := fun k hk => by
    obtain ⟨r, hr, rfl⟩ := List.mem_map.1 hk
    rw [hlead r hr]; exact ⟨h0 r hr, (hclr r hr).2.2.2⟩
  have hrM : (K.map (clrF y)).Pairwise (fun a b => vR a (leadN b) = 0) := List.pairwise_map.2 (h.red.imp_of_mem fun {a b} ha hb hab => by
    rw [hlead b hb, (hclr a ha).2.2.1]
    show vR a (leadN b) ^^^ gmul _ (vR y (leadN b)) = 0
    rw [hab, h0 b hb, gmul_zero, xor_self])
  have inP : ∀ {k : Rw}, k = y ∨ k ∈ K.map (clrF y) → Sp ((putAt (K.map (clrF y)) y).map vR) (vR k) := fun hk => Sp.mem (List.mem_map.2 ⟨_, putAt_mem.2 hk, rfl⟩)
  have back : ∀ k, k ∈ K → Sp ((putAt (K.map (clrF y)) y).map vR) (vR k) := fun k hk => by
    have e : vR k = fun j => vR (clrF y k) j ^^^ gmul (vR k l) (vR y j) := by
      funext j
      rw [(hclr k hk).2.2.1]
      show _ = (vR k j ^^^ gmul (vR k l) (vR y j)) ^^^ gmul (vR k l) (vR y j)
      rw [xor_cancel]
    rw [e]
    exact Sp.add (inP (.inr (List.mem_map.2 ⟨k, hk, rfl⟩))) (Sp.scale _ (inP (.inl rfl)))
  refine ⟨⟨putAt_kept hM hL hF hneM, ?_⟩, fun k hk => ?_, back, ?_, ?_⟩
  · unfold putAt
    have hs := hrM
    rw [← List.takeWhile_append_dropWhile (p := fun r : Rw => decide (leadS r.1 ≤ leadS y.1)) (l := K.map (clrF y))] at hs
    obtain ⟨g1, g2, g3⟩ := List.pairwise_append.1 hs
    refine List.pairwise_append.2 ⟨g1, List.pairwise_cons.2 ⟨fun b hb => (hyM b ((List.dropWhile_sublist _).mem hb)).1, g2⟩, fun a ha b hb => ?_⟩
    rcases List.mem_cons.1 hb with rfl | hb
    · rw [leadN_of hL]; exact (hyM a ((List.takeWhile_sublist _).mem ha)).2
    · exact g3 a ha b hb
  · rcases putAt_mem.1 hk with rfl | hk
    · exact hsp
    · obtain ⟨r, hr, rfl⟩ := List.mem_map.1 hk
      rw [(hclr r hr).2.2.1]
      exact Sp.add (Sp.mem (List.mem_cons_of_mem _ (List.mem_map.2 ⟨r, hr, rfl⟩))) (Sp.scale _ hsp)
  · have e : vR x = fun j => (vR x j ^^^ gmul d (vR y j)) ^^^ gmul d (vR y j) := by funext j; rw [xor_cancel]
    rw [e]
    refine Sp.add (Sp.trans (fun a ha => ?_) hd) (Sp.scale _ (inP (.inl rfl)))
    obtain ⟨k, hk, rfl⟩ := List.mem_map.1 ha
    exact back k hk
  · unfold putAt
    rw [List.length_append, List.length_cons]
    have := congrArg List.length (List.takeWhile_append_dropWhile (p := fun r : Rw => decide (leadS r.1 ≤ leadS y.1)) (l := K.map (clrF y)))
    rw [List.length_append, List.length_map] at this
    omega
/-- the same of the document's rows -/
theorem insF_span {n t : Nat} {K : List Rw} {x : Rw} (h : KeptS n t K) (hx : Fit n t x) (hn : ¬ leadS (restF K x).1 < 0) :
    (∀ k, k ∈ insF K x → Sp (vR x :: K.map vR) (vR k)) ∧ (∀ k, k ∈ K → Sp ((insF K x).map vR) (vR k)) ∧ Sp ((insF K x).map vR) (vR x) := by
  obtain ⟨l, hL, hF, h0, hsp, d, hd⟩ := rest_norm h hx hn
  have hm : ∀ k, k ∈ insF K x ↔ k ∈ K ∨ k = normS (restF K x) := fun k => by
    rw [(ins_perm K x).mem_iff]; unfold keepF; rw [if_neg hn, List.mem_append, List.mem_singleton]
  have inP : ∀ {k : Rw}, k ∈ K ∨ k = normS (restF K x) → Sp ((insF K x).map vR) (vR k) := fun hk => Sp.mem (List.mem_map.2 ⟨_, (hm _).2 hk, rfl⟩)
  refine ⟨fun k hk => ?_, fun k hk => inP (.inl hk), ?_⟩
  · rcases (hm k).1 hk with hk | rfl
    · exact Sp.mem (List.mem_cons_of_mem _ (List.mem_map.2 ⟨k, hk, rfl⟩))
    · exact hsp
  · have e : vR x = fun j => (vR x j ^^^ gmul d (vR (normS (restF K x)) j)) ^^^ gmul d (vR (normS (restF K x)) j) := by funext j; rw [xor_cancel]
    rw [e]
    refine Sp.add (Sp.trans (fun a ha => ?_) hd) (Sp.scale _ (inP (.inr rfl)))
    obtain ⟨k, hk, rfl⟩ := List.mem_map.1 ha
    exact inP (.inl hk)
end Go.Proofs.YtcfdopiponlboaaGreatDoor
namespace Go.Proofs.YtcfdopiponlboaaGreatDoor
open Go.By Gf
def stepB (F : Nat → Rw) (i k : Nat) : Nat → Rw := if k = i then F else updF F i (lessF (F i) (atS (F i).1 (leadS (F k).1)) (F k))
def rowB (i : Nat) : Nat → (Nat → Rw) → (Nat → Rw)
  | 0, F => F
  | k + 1, F => stepB (rowB i k F) i k
def backB (m : Nat) : Nat → (Nat → Rw) → (Nat → Rw)
  | 0, F => F
  | i + 1, F => rowB i m (backB m i F)
structure BI (n t m : Nat) (L : Nat → Nat) (W : List V) (F : Nat → Rw) (i k : Nat) : Prop where
  good : ∀ a, a < m → Fit n t (F a) ∧ LeadAt (F a) (L a)
  done : ∀ a, a < i → a < m → ∀ b, b < m → b ≠ a → vR (F a) (L b) = 0
  cur : ∀ b, b < k → b < m → b ≠ i → vR (F i) (L b) = 0
  sp1 : ∀ a, a < m → Sp W (vR (F a))
  sp2 : ∀ v, v ∈ W → Sp ((List.range m).map fun a => vR (F a)) v
theorem BI.led {n t m : Nat} {L : Nat → Nat} {W : List V} {F : Nat → Rw} {i k a : Nat} (h : BI n t m L W F i k) (ha : a < m) : Fit n t (F a) ∧ Led (F a) ∧ leadN (F a) = L a :=
  ⟨(h.good a ha).1, ⟨_, (h.good a ha).2⟩, leadN_of (h.good a ha).2⟩
theorem BI.step {n t m : Nat} {L : Nat → Nat} {W : List V} {F : Nat → Rw} {i k : Nat} (h : BI n t m L W F i k) (hL : ∀ a b, a < b → b < m → L a < L b) (hi : i < m) (hk : k < m) : BI n t m L W (stepB F i k) i (k + 1) := by
  unfold stepB
  by_cases hki : k = i
  · rw [if_pos hki]
    exact ⟨h.good, h.done, fun b hb hbm hne => h.cur b (by omega) hbm hne, h.sp1, h.sp2⟩
  · rw [if_neg hki]
    obtain ⟨fi, li, ni⟩ := h.led hi
    obtain ⟨fk, lk, nk⟩ := h.led hk
    have hLk : L k < n := (h.good k hk).2.lt fk
    have e : lessF (F i) (atS (F i).1 (leadS (F k).1)) (F k) = lessF (F i) (vR (F i) (L k)) (F k) := by rw [(h.good k hk).2.1, vR_at fi hLk]
    rw [e]
    obtain ⟨Y, hY⟩ : ∃ Y, Y = lessF (F i) (vR (F i) (L k)) (F k) := ⟨_, rfl⟩
    rw [← hY]
    have hv : vR Y = fun j => vR (F i) j ^^^ gmul (vR (F i) (L k)) (vR (F k) j) := by rw [hY, vR_less _ fi fk]
    have fY : Fit n t Y := by rw [hY]; exact fi.less fk
    have vk1 : vR (F k) (L k) = 1 := by rw [← nk]; exact vR_lead fk lk
    have kz : ∀ j, j < L k → vR (F k) j = 0 := fun j hj => vf_before fk lk (by rw [nk]; exact hj)
    have iz : ∀ j, j < L i → vR (F i) j = 0 := fun j hj => vf_before fi li (by rw [ni]; exact hj)
    have vi1 : vR (F i) (L i) = 1 := by rw [← ni]; exact vR_lead fi li
    -- up to where row i leads nothing turns
    have same : ∀ j, j ≤ L i → vR Y j = vR (F i) j := fun j hj => by
      rw [hv]
      show vR (F i) j ^^^ gmul (vR (F i) (L k)) (vR (F k) j) = _
      rcases Nat.lt_or_ge k i with g | g
      · rw [iz (L k) (hL k i g hi), zero_gmul, xor_zero]
      · rw [kz j (by have := hL i k (by omega) hk; omega), gmul_zero, xor_zero]
    have lY : LeadAt Y (L i) := leadAt_of fY ((h.good i hi).2.lt fi) (by rw [same _ (Nat.le_refl _)]; exact vi1) fun j hj => by rw [same j (by omega)]; exact iz j hj
    have ui : updF F i Y i = Y := updF_same F i Y
    have un : ∀ a, a ≠ i → updF F i Y a = F a := fun a ha => updF_ne F Y ha
    refine ⟨fun a ha => ?_, fun a ha ham b hb hne => ?_, fun b hb hbm hne => ?_, fun a ha => ?_, fun v hvW => ?_⟩
    · by_cases e : a = i
      · subst e; rw [ui]; exact ⟨fY, lY⟩
      · rw [un a e]; exact h.good a ha
    · rw [un a (by omega)]; exact h.done a ha ham b hb hne
    · rw [ui, hv]
      show vR (F i) (L b) ^^^ gmul (vR (F i) (L k)) (vR (F k) (L b)) = 0
      by_cases e : b = k
      · subst e; rw [vk1, gmul_one, xor_self]
      · have hbk : b < k := by omega
        rw [h.cur b hbk hbm hne, kz (L b) (hL b k hbk hk), gmul_zero, xor_self]
    · by_cases e : a = i
      · subst e; rw [ui, hv]; exact Sp.add (h.sp1 a hi) (Sp.scale _ (h.sp1 k hk))
      · rw [un a e]; exact h.sp1 a ha
    · refine Sp.trans (fun u hu => ?_) (h.sp2 v hvW)
      obtain ⟨a, ha, rfl⟩ := List.mem_map.1 hu
      have ham := List.mem_range.1 ha
      have mem : ∀ c, c < m → Sp ((List.range m).map fun a => vR (updF F i Y a)) (vR (updF F i Y c)) := fun c hc => Sp.mem (List.mem_map.2 ⟨c, List.mem_range.2 hc, rfl⟩)
      by_cases e : a = i
      · subst e
        have e2 : vR (F a) = fun j => vR Y j ^^^ gmul (vR (F a) (L k)) (vR (F k) j) := by
          funext j; rw [hv]; show _ = (vR (F a) j ^^^ _) ^^^ _; rw [xor_cancel]
        show Sp _ (vR (F a))
        rw [e2]
        have m1 := mem a hi; rw [ui] at m1
        have m2 := mem k hk; rw [un k hki] at m2
        exact Sp.add m1 (Sp.scale _ m2)
      · have m1 := mem a ham; rw [un a e] at m1; exact m1
theorem BI.row {n t m : Nat} {L : Nat → Nat} {W : List V} {F : Nat → Rw} {i : Nat} (h : BI n t m L W F i 0) (hL : ∀ a b, a < b → b < m → L a < L b) (hi : i < m) : ∀ k, k ≤ m → BI n t m L W (rowB i k F) i k
  | 0, _ => h
  | k + 1, hk => (BI.row h hL hi k (by omega)).step hL hi (by omega)
theorem BI.next {n t m : Nat} {L : Nat → Nat} {W : List V} {F : Nat → Rw} {i : Nat} (h : BI n t m L W F i m) : BI n t m L W F (i + 1) 0 :=
  ⟨h.good, fun a ha ham b hb hne => by
    by_cases e : a = i
    · subst e; exact h.cur b hb hb hne
    · exact h.done a (by omega) ham b hb hne, fun b hb => by omega, h.sp1, h.sp2⟩
theorem BI.all {n t m : Nat} {L : Nat → Nat} {W : List V} {F : Nat → Rw} (h : BI n t m L W F 0 0) (hL : ∀ a b, a < b → b < m → L a < L b) : ∀ i, i ≤ m → BI n t m L W (backB m i F) i 0
  | 0, _ => h
  | i + 1, hi => ((BI.all h hL i (by omega)).row hL (by omega) m (Nat.le_refl m)).next
theorem BI.red {n t m : Nat} {L : Nat → Nat} {W : List V} {F : Nat → Rw} (h : BI n t m L W F m 0) (hL : ∀ a b, a < b → b < m → L a < L b) : Red n t ((List.range m).map F) := by
  refine ⟨⟨fun k hk => ?_, ?_⟩, ?_⟩
  · obtain ⟨a, ha, rfl⟩ := List.mem_map.1 hk
    exact ⟨(h.led (List.mem_range.1 ha)).1, (h.led (List.mem_range.1 ha)).2.1⟩
  · refine List.pairwise_map.2 (List.pairwise_iff_getElem.2 fun i j hi hj hij => ?_)
    simp only [List.length_range] at hi hj
    simp only [List.getElem_range]
    rw [(h.led hi).2.2, (h.led hj).2.2]; exact hL i j hij hj
  · refine List.pairwise_map.2 (List.pairwise_iff_getElem.2 fun i j hi hj hij => ?_)
    simp only [List.length_range] at hi hj
    simp only [List.getElem_range]
    rw [(h.led hj).2.2]; exact h.done i hi hi j hj (by omega)
def listF (K : List Rw) : Nat → Rw := fun i => K.getD i ([], [])
theorem listF_map (K : List Rw) : (List.range K.length).map (listF K) = K := by
  apply List.ext_getElem?
  intro i
  by_cases hi : i < K.length
  · rw [List.getElem?_map, List.getElem?_range hi, List.getElem?_eq_getElem hi]
    simp [listF, hi]
  · rw [List.getElem?_eq_none (by simpa using hi), List.getElem?_eq_none (by omega)]
/-- the document's rows: reduced -/
def redL (K : List Rw) : List Rw := (List.range K.length).map (backB K.length K.length (listF K))
theorem redL_red {n t : Nat} {K : List Rw} (h : KeptS n t K) : Red n t (redL K) ∧ (∀ k, k ∈ redL K → Sp (K.map vR) (vR k)) ∧ (∀ k, k ∈ K → Sp ((redL K).map vR) (vR k)) ∧ (redL K).map leadN = K.map leadN := by
  have hat : ∀ a, a < K.length → listF K a ∈ K := fun a ha => by
    have : listF K a = K[a] := by simp [listF, ha]
    rw [this]; exact List.getElem_mem ha
  have hL : ∀ a b, a < b → b < K.length → leadN (listF K a) < leadN (listF K b) := fun a b hab hb => by
    have e1 : listF K a = K[a] := by simp [listF, show a < K.length by omega]
    have e2 : listF K b = K[b] := by simp [listF, hb]
    rw [e1, e2]; exact List.pairwise_iff_getElem.1 h.sorted a b (by omega) hb hab
  have h0 : BI n t K.length (fun a => leadN (listF K a)) (K.map vR) (listF K) 0 0 := by
    refine ⟨fun a ha => ⟨(h.rows _ (hat a ha)).1, (h.rows _ (hat a ha)).2.at⟩, fun a ha => by omega, fun b hb => by omega, fun a ha => Sp.mem (List.mem_map.2 ⟨_, hat a ha, rfl⟩), fun v hv => ?_⟩
    have e : ((List.range K.length).map fun a => vR (listF K a)) = K.map vR := by
      conv => rhs; rw [← listF_map K]
      rw [List.map_map]; rfl
    rw [e]; exact Sp.mem hv
  have hA := h0.all hL K.length (Nat.le_refl _)
  refine ⟨hA.red hL, fun k hk => ?_, fun k hk => ?_, ?_⟩
  · obtain ⟨a, ha, rfl⟩ := List.mem_map.1 hk
    exact hA.sp1 a (List.mem_range.1 ha)
  · have := hA.sp2 (vR k) (List.mem_map.2 ⟨k, hk, rfl⟩)
    unfold redL
    rw [List.map_map]; exact this
  · conv => rhs; rw [← listF_map K]
    unfold redL
    rw [List.map_map, List.map_map]
    apply List.map_congr_left
    intro a ha
    exact (hA.led (List.mem_range.1 ha)).2.2
/-- what is left of a row is the same, cleared by either -/
theorem rest_same {n t : Nat} {K M : List Rw} {x : Rw} (h : KeptS n t K) (g : Red n t M) (hx : Fit n t x) (h1 : ∀ k, k ∈ K → Sp (M.map vR) (vR k)) (hl : M.map leadN = K.map leadN) : restF K x = restF M x := by
  have fK := hx.rest (fun k hk => (h.rows k hk).1)
  have fM := hx.rest (fun k hk => (g.kept.rows k hk).1)
  have rK : vR (restF K x) = red (tri K) (vR x) := rest_red h.rows hx
  have rM : vR (restF M x) = red (tri M) (vR x) := rest_red g.kept.rows hx
  have s1 := red_span (tri K) (vR x)
  have s2 := red_span (tri M) (vR x)
  rw [tri_fst] at s1 s2
  have hD : Sp (M.map vR) (fun j => vR (restF K x) j ^^^ vR (restF M x) j) := by
    have e : (fun j => vR (restF K x) j ^^^ vR (restF M x) j) = fun j => (vR x j ^^^ red (tri K) (vR x) j) ^^^ (vR x j ^^^ red (tri M) (vR x) j) := by
      funext j; rw [rK, rM, xor4, xor_self, zero_xor]
    rw [e]
    exact Sp.add (Sp.trans (fun a ha => by obtain ⟨k, hk, rfl⟩ := List.mem_map.1 ha; exact h1 k hk) s1) s2
  have hz : ∀ k, k ∈ M → vR (restF K x) (leadN k) ^^^ vR (restF M x) (leadN k) = 0 := fun k hk => by
    have m1 : leadN k ∈ K.map leadN := by rw [← hl]; exact List.mem_map.2 ⟨k, hk, rfl⟩
    obtain ⟨k', hk', e⟩ := List.mem_map.1 m1
    rw [rK, rM]
    rw [red_at g.kept.kept.tri (vf (cat k), leadN k) (List.mem_map.2 ⟨k, hk, rfl⟩)]
    rw [← e, red_at h.kept.tri (vf (cat k'), leadN k') (List.mem_map.2 ⟨k', hk', rfl⟩), xor_self]
  have hzero : ∀ j, vR (restF K x) j ^^^ vR (restF M x) j = 0 := fun j => by
    have := congrFun (coords_red g hD) j
    rw [this]
    exact comb_map_zero _ _ j M fun k hk => by rw [hz k hk, zero_gmul]
  have hc : cat (restF K x) = cat (restF M x) := vf_inj (by rw [fK.cat, fM.cat]) fun j _ => xor_eq_zero (hzero j)
  unfold cat at hc
  obtain ⟨p1, p2⟩ := List.append_inj hc (by rw [fK.1, fM.1])
  exact Prod.ext p1 p2
/-- a system and what the document has of the same equations: K0 the rows put one by one -/
structure Sys (n t : Nat) (K0 K : List Rw) : Prop where
  kept : KeptS n t K0
  same : K = redL K0
theorem Sys.nil (n t : Nat) : Sys n t [] [] := ⟨KeptS.nil n t, rfl⟩
theorem Sys.red {n t : Nat} {K0 K : List Rw} (h : Sys n t K0 K) : Red n t K := by rw [h.same]; exact (redL_red h.kept).1
theorem Sys.rest {n t : Nat} {K0 K : List Rw} {x : Rw} (h : Sys n t K0 K) (hx : Fit n t x) : restF K0 x = restF K x := by
  obtain ⟨r1, r2, r3, r4⟩ := redL_red h.kept
  rw [h.same]; exact rest_same h.kept r1 hx r3 r4
theorem Sys.put {n t : Nat} {K0 K : List Rw} {x : Rw} (h : Sys n t K0 K) (hx : Fit n t x) (hn : ¬ leadS (restF K x).1 < 0) : Sys n t (insF K0 x) (putF K x) := by
  have hn0 : ¬ leadS (restF K0 x).1 < 0 := by rw [h.rest hx]; exact hn
  have hk0 := h.kept.step hx
  obtain ⟨r1, r2, r3, r4⟩ := redL_red h.kept
  obtain ⟨q1, q2, q3, q4⟩ := redL_red hk0
  obtain ⟨i1, i2, i3⟩ := insF_span h.kept hx hn0
  obtain ⟨p1, p2, p3, p4, -⟩ := putF_red h.red hx hn
  rw [← h.same] at r1 r2 r3
  refine ⟨hk0, p1.unique q1 (fun k hk => ?_) fun k hk => ?_⟩
  · refine Sp.trans (fun a ha => ?_) (p2 k hk)
    rcases List.mem_cons.1 ha with rfl | ha
    · exact Sp.trans (fun b hb => by obtain ⟨c, hc, rfl⟩ := List.mem_map.1 hb; exact q3 c hc) i3
    · obtain ⟨c, hc, rfl⟩ := List.mem_map.1 ha
      refine Sp.trans (fun b hb => ?_) (r2 c hc)
      obtain ⟨d, hd, rfl⟩ := List.mem_map.1 hb
      exact Sp.trans (fun b hb => by obtain ⟨c, hc, rfl⟩ := List.mem_map.1 hb; exact q3 c hc) (i2 d hd)
  · refine Sp.trans (fun a ha => ?_) (q2 k hk)
    obtain ⟨c, hc, rfl⟩ := List.mem_map.1 ha
    refine Sp.trans (fun b hb => ?_) (i1 c hc)
    rcases List.mem_cons.1 hb with rfl | hb
    · exact p4
    · obtain ⟨d, hd, rfl⟩ := List.mem_map.1 hb
      exact Sp.trans (fun b hb => by obtain ⟨e, he, rfl⟩ := List.mem_map.1 hb; exact p3 e he) (r3 d hd)
end Go.Proofs.YtcfdopiponlboaaGreatDoor
namespace Go.Proofs.YtcfdopiponlboaaGreatDoor
open Go.RowKit Go.By
end Go.Proofs.YtcfdopiponlboaaGreatDoor
