/- Vectors of n places: units, coordinates; products of rows; rows and columns have one rank; what is inverse from the left is from the right. -/
import Derived.Test.YtofhdakggapahaaK1
namespace Gf
def unit (i : Nat) : V := fun j => if i = j then 1 else 0
def units (n : Nat) : List V := (List.range n).map unit
/-- nought from place n on -/
def Wide (n : Nat) (v : V) : Prop := ∀ j, n ≤ j → v j = 0
theorem units_length (n : Nat) : (units n).length = n := by simp [units]
theorem unit_wide {i n : Nat} (h : i < n) : Wide n (unit i) := fun j hj => by simp [unit]; omega
theorem units_wide {n : Nat} : ∀ u, u ∈ units n → Wide n u := fun u hu => by
  simp only [units, List.mem_map, List.mem_range] at hu
  obtain ⟨i, hi, rfl⟩ := hu; exact unit_wide hi
theorem lin_zero {L : V → V} (hs : ∀ x u, L (fun j => gmul x (u j)) = fun j => gmul x (L u j)) : L (fun _ => 0) = fun _ => 0 := by
  have := hs 0 (fun _ => 0)
  simp only [zero_gmul] at this
  exact this
theorem lin_comb {L : V → V} (ha : ∀ u v, L (fun j => u j ^^^ v j) = fun j => L u j ^^^ L v j) (hs : ∀ x u, L (fun j => gmul x (u j)) = fun j => gmul x (L u j)) : ∀ (c : List UInt8) (A : List V), L (comb c A) = comb c (A.map L)
  | [], A => by
    have e : comb [] A = fun _ => 0 := by funext j; exact comb_nil' A j
    have e' : comb [] (A.map L) = fun _ => 0 := by funext j; exact comb_nil' _ j
    rw [e, e']; exact lin_zero hs
  | c :: cs, [] => lin_zero hs
  | c :: cs, a :: as => by
    show L (fun j => (fun j => gmul c (a j)) j ^^^ comb cs as j) = _
    rw [ha, hs, lin_comb ha hs cs as]; rfl
theorem coords_at (v : V) : ∀ (n j : Nat), comb ((List.range n).map v) (units n) j = if j < n then v j else 0
  | 0, j => by simp [units, comb_nil]
  | n + 1, j => by
    unfold units
    rw [List.range_succ, List.map_append, List.map_append, comb_append _ _ _ _ _ (by simp)]
    have := coords_at v n j
    unfold units at this
    rw [this]
    simp only [List.map_cons, List.map_nil, comb_cons, comb_nil, unit, xor_zero]
    by_cases h1 : j < n
    · rw [if_pos h1, if_neg (by omega), if_pos (by omega), gmul_zero, xor_zero]
    · by_cases h2 : n = j
      · subst h2; rw [if_neg h1, if_pos rfl, if_pos (by omega), gmul_one, zero_xor]
      · rw [if_neg h1, if_neg h2, if_neg (by omega), gmul_zero, xor_self]
theorem coords {n : Nat} {v : V} (h : Wide n v) : comb ((List.range n).map v) (units n) = v := by
  funext j
  rw [coords_at]
  split
  · rfl
  · exact (h j (by omega)).symm
theorem Wide.sp {n : Nat} {v : V} (h : Wide n v) : Sp (units n) v := ⟨(List.range n).map v, by simp [units], (coords h).symm⟩
theorem comb_units_zero {n : Nat} {c : List UInt8} (hc : c.length = n) (h : ∀ j, comb c (units n) j = 0) : ∀ x, x ∈ c → x = 0 := by
  intro x hx
  obtain ⟨i, hi, rfl⟩ := List.getElem_of_mem hx
  have e : (List.range n).map (fun j => c.getD j 0) = c := by
    apply List.ext_getElem?
    intro k
    rw [List.getElem?_map]
    by_cases hk : k < n
    · rw [List.getElem?_range hk]; simp [List.getD_eq_getElem?_getD, List.getElem?_eq_getElem (show k < c.length by omega)]
    · rw [List.getElem?_eq_none (by simp; omega), List.getElem?_eq_none (by omega)]; rfl
  have := coords_at (fun j => c.getD j 0) n i
  rw [e, h i, if_pos (by omega)] at this
  rw [List.getD_eq_getElem?_getD, List.getElem?_eq_getElem hi] at this
  exact this.symm
theorem units_ind (n : Nat) : Ind (units n) := fun c hc hz => comb_units_zero (by rw [hc, units_length]) hz
theorem comb_wide {n : Nat} {A : List V} (h : ∀ a, a ∈ A → Wide n a) (c : List UInt8) : Wide n (comb c A) := fun j hj => comb_at_zero j c A (fun a ha => h a ha j hj)
theorem Rk.le_width {A : List V} {r n : Nat} (h : Rk A r) (hw : ∀ a, a ∈ A → Wide n a) : r ≤ n := by
  have := h.le_length (fun a ha => (hw a ha).sp)
  rwa [units_length] at this
/-- a row times rows -/
def mulV (n : Nat) (B : List V) (a : V) : V := comb ((List.range n).map a) B
theorem mulV_add (n : Nat) (B : List V) (u v : V) : mulV n B (fun j => u j ^^^ v j) = fun j => mulV n B u j ^^^ mulV n B v j := by
  funext j
  unfold mulV
  rw [← comb_add j _ _ _ (by simp)]
  congr 1
  apply List.ext_getElem?
  intro k
  simp only [List.getElem?_map, List.getElem?_zipWith]
  cases (List.range n)[k]? <;> rfl
theorem mulV_scale (n : Nat) (B : List V) (x : UInt8) (u : V) : mulV n B (fun j => gmul x (u j)) = fun j => gmul x (mulV n B u j) := by
  funext j
  unfold mulV
  rw [← comb_scale, List.map_map]; rfl
theorem mulV_comb (n : Nat) (B : List V) (c : List UInt8) (A : List V) : mulV n B (comb c A) = comb c (A.map (mulV n B)) := lin_comb (mulV_add n B) (mulV_scale n B) c A
theorem comb_single (j : Nat) : ∀ (B : List V) (i k n : Nat) (b : V), B.length = n → B[i]? = some b → comb ((List.range n).map (fun m => unit (i + k) (m + k))) B j = b j
  | [], i, k, n, b, _, h => by simp at h
  | b0 :: B, 0, k, n, b, hn, h => by
    obtain rfl : b0 = b := by simpa using h
    cases n with
    | zero => simp at hn
    | succ n =>
      rw [List.range_succ_eq_map]
      simp only [List.map_cons, List.map_map, comb_cons]
      have e : ((List.range n).map ((fun m => unit (0 + k) (m + k)) ∘ Nat.succ)) = List.replicate n 0 := by
        rw [List.eq_replicate_iff]
        refine ⟨by simp, ?_⟩
        intro x hx
        simp only [List.mem_map, Function.comp] at hx
        obtain ⟨m, _, rfl⟩ := hx
        simp [unit]
      rw [e, comb_zeros]
      simp [unit, one_gmul, xor_zero]
  | b0 :: B, i + 1, k, n, b, hn, h => by
    cases n with
    | zero => simp at hn
    | succ n =>
      rw [List.range_succ_eq_map]
      simp only [List.map_cons, List.map_map, comb_cons]
      have ih := comb_single j B i (k + 1) n b (by simpa using hn) (by simpa using h)
      have e : ((fun m => unit (i + 1 + k) (m + k)) ∘ Nat.succ) = fun m => unit (i + (k + 1)) (m + (k + 1)) := by
        funext m; simp only [Function.comp]; congr 1 <;> omega
      rw [e, ih]
      have e0 : unit (i + 1 + k) (0 + k) = 0 := by simp [unit]
      rw [e0, zero_gmul, zero_xor]
theorem mulV_unit {n i : Nat} {B : List V} {b : V} (hn : B.length = n) (h : B[i]? = some b) : mulV n B (unit i) = b := by
  funext j
  exact comb_single j B i 0 n b hn h
theorem mulV_sp {n : Nat} {B : List V} (hn : B.length = n) (a : V) : Sp B (mulV n B a) := ⟨_, by simp [hn], rfl⟩
/-- a product's rank is no greater than that of the second one -/
theorem rank_mul_right {A B : List V} {n r s : Nat} (hn : B.length = n) (h : Rk (A.map (mulV n B)) r) (g : Rk B s) : r ≤ s :=
  h.le g (fun a ha => by obtain ⟨x, _, rfl⟩ := List.mem_map.1 ha; exact mulV_sp hn x)
/-- nor than that of the first one -/
theorem rank_mul_left {A B : List V} {n r s : Nat} (h : Rk (A.map (mulV n B)) r) (g : Rk A s) : r ≤ s := by
  obtain ⟨R, r1, rfl, r3, r4⟩ := g
  have := h.le_length (W := R.map (mulV n B)) (fun a ha => by
    obtain ⟨x, hx, rfl⟩ := List.mem_map.1 ha
    obtain ⟨c, hc, rfl⟩ := r4 x hx
    exact ⟨c, by simp [hc], mulV_comb n B c R⟩)
  simpa using this
/-- the columns of rows -/
def cols (n : Nat) (A : List V) : List V := (List.range n).map fun k i => (A.getD i fun _ => 0) k
theorem cols_length (n : Nat) (A : List V) : (cols n A).length = n := by simp [cols]
theorem cols_wide {n : Nat} {A : List V} : ∀ c, c ∈ cols n A → Wide A.length c := by
  intro c hc j hj
  simp only [cols, List.mem_map] at hc
  obtain ⟨k, _, rfl⟩ := hc
  simp [List.getD_eq_getElem?_getD, List.getElem?_eq_none hj]
theorem cols_cols {n m : Nat} {A : List V} (hm : A.length = m) (hw : ∀ a, a ∈ A → Wide n a) : cols m (cols n A) = A := by
  apply List.ext_getElem?
  intro i
  by_cases hi : i < m
  · have hi' : i < A.length := by omega
    rw [List.getElem?_eq_getElem hi']
    have hr : (cols m (cols n A))[i]? = some (fun k => ((cols n A).getD k fun _ => 0) i) := by
      unfold cols
      rw [List.getElem?_map, List.getElem?_range hi]; rfl
    rw [hr]
    congr 1
    funext k
    by_cases hk : k < n
    · have : (cols n A).getD k (fun _ => 0) = fun i => (A.getD i fun _ => 0) k := by
        unfold cols
        rw [List.getD_eq_getElem?_getD, List.getElem?_map, List.getElem?_range hk]; rfl
      rw [this]
      simp [List.getD_eq_getElem?_getD, List.getElem?_eq_getElem hi']
    · have : (cols n A).getD k (fun _ => 0) = fun _ => 0 := by
        rw [List.getD_eq_getElem?_getD, List.getElem?_eq_none (by rw [cols_length]; omega)]; rfl
      rw [this]
      exact (hw _ (List.getElem_mem hi') k (by omega)).symm
  · rw [List.getElem?_eq_none (by rw [cols_length]; omega), List.getElem?_eq_none (by omega)]
theorem col_comb (k i : Nat) : ∀ (B : List V) (cs : Nat → List UInt8), (cs i).length = B.length → comb (B.map (· k)) ((List.range B.length).map (fun l i => (cs i).getD l 0)) i = comb (cs i) B k
  | [], cs, h => by
    have : cs i = [] := List.length_eq_zero_iff.1 h
    rw [this]; rfl
  | b :: B, cs, h => by
    rw [List.length_cons, List.range_succ_eq_map]
    simp only [List.map_cons, List.map_map, comb_cons]
    have ih := col_comb k i B (fun i => (cs i).tail) (by simp [h])
    have e : ((fun l i => (cs i).getD l 0) ∘ Nat.succ : Nat → V) = fun l i => ((cs i).tail).getD l 0 := by
      funext l i'
      simp [List.getD_eq_getElem?_getD]
    rw [e, ih]
    cases hc : cs i with
    | nil => rw [hc] at h; simp at h
    | cons c c' => simp only [List.tail_cons, comb_cons, List.getD_cons_zero]; rw [gmul_comm]
theorem cols_rank_le {A : List V} {n r s : Nat} (h : Rk A r) (g : Rk (cols n A) s) : s ≤ r := by
  obtain ⟨B, b1, rfl, b3, b4⟩ := h
  have hex : ∀ i : Nat, ∃ c : List UInt8, c.length = B.length ∧ (A.getD i fun _ => 0) = comb c B := by
    intro i
    by_cases hi : i < A.length
    · have : (A.getD i fun _ => 0) = A[i] := by simp [List.getD_eq_getElem?_getD, List.getElem?_eq_getElem hi]
      rw [this]
      exact b4 _ (List.getElem_mem hi)
    · have : (A.getD i fun _ => 0) = fun _ => 0 := by simp [List.getD_eq_getElem?_getD, List.getElem?_eq_none (show A.length ≤ i by omega)]
      rw [this]
      exact Sp.zero B
  obtain ⟨cs, hcs⟩ : ∃ cs : Nat → List UInt8, ∀ i, (cs i).length = B.length ∧ (A.getD i fun _ => 0) = comb (cs i) B :=
    ⟨fun i => Classical.choose (hex i), fun i => Classical.choose_spec (hex i)⟩
  have := g.le_length (W := (List.range B.length).map (fun l i => (cs i).getD l 0)) (fun a ha => by
    simp only [cols, List.mem_map] at ha
    obtain ⟨k, _, rfl⟩ := ha
    refine ⟨B.map (· k), by simp, ?_⟩
    funext i
    rw [col_comb k i B cs (hcs i).1, (hcs i).2])
  simpa using this
/-- rows and columns have one rank -/
theorem cols_rank {A : List V} {n r s : Nat} (hw : ∀ a, a ∈ A → Wide n a) (h : Rk A r) (g : Rk (cols n A) s) : r = s := by
  refine Nat.le_antisymm ?_ (cols_rank_le h g)
  refine cols_rank_le g (n := A.length) ?_
  rw [cols_cols rfl hw]; exact h
theorem Ind.cons {A : List V} {v : V} (h : Ind A) (hv : ¬ Sp A v) : Ind (v :: A) := by
  intro c hc hz
  cases c with
  | nil => simp
  | cons x cs =>
    have hx : x = 0 := by
      apply Classical.byContradiction
      intro hx
      apply hv
      have : v = fun j => gmul (ginv x) (comb cs A j) := by
        funext j
        have := hz j
        rw [comb_cons] at this
        have e := xor_eq_zero this
        rw [← e, ← gmul_assoc, ginv_gmul x hx, one_gmul]
      rw [this]
      exact Sp.scale _ ⟨cs, by simpa using hc, rfl⟩
    subst hx
    have := h cs (by simpa using hc) (fun j => by have := hz j; rwa [comb_cons, zero_gmul, zero_xor] at this)
    intro y hy
    rcases List.mem_cons.1 hy with rfl | hy
    · rfl
    · exact this y hy
/-- n independent vectors of n places: all others are their combinations -/
theorem ind_full {A : List V} {n : Nat} (h : Ind A) (hn : A.length = n) (hw : ∀ a, a ∈ A → Wide n a) {v : V} (hv : Wide n v) : Sp A v := by
  apply Classical.byContradiction
  intro hs
  have := exchange (units n) (v :: A) (h.cons hs) (fun a ha => by
    rcases List.mem_cons.1 ha with rfl | ha
    · exact hv.sp
    · exact (hw a ha).sp)
  rw [units_length, List.length_cons, hn] at this
  omega
/-- vectors of full rank are independent -/
theorem Rk.ind {A : List V} {r : Nat} (h : Rk A r) (hr : A.length = r) : Ind A := by
  obtain ⟨B, b1, rfl, b3, b4⟩ := h
  apply Classical.byContradiction
  intro hn
  have hex : ∃ c : List UInt8, c.length = A.length ∧ (∀ j, comb c A j = 0) ∧ ∃ x, x ∈ c ∧ x ≠ 0 := by
    apply Classical.byContradiction
    intro hne
    apply hn
    intro c hc hz x hx
    apply Classical.byContradiction
    intro hx0
    exact hne ⟨c, hc, hz, x, hx, hx0⟩
  obtain ⟨c, hc, hz, x, hx, hx0⟩ := hex
  obtain ⟨c1, c2, rfl⟩ := List.append_of_mem hx
  have hl : c1.length < A.length := by rw [← hc]; simp
  have hA : A = A.take c1.length ++ A[c1.length] :: A.drop (c1.length + 1) := by
    rw [← List.drop_eq_getElem_cons hl, List.take_append_drop]
  obtain ⟨a, ha⟩ : ∃ a, a = A[c1.length] := ⟨_, rfl⟩
  rw [← ha] at hA
  obtain ⟨A1, hA1⟩ : ∃ A1, A1 = A.take c1.length := ⟨_, rfl⟩
  obtain ⟨A2, hA2⟩ : ∃ A2, A2 = A.drop (c1.length + 1) := ⟨_, rfl⟩
  have l1 : c1.length = A1.length := by rw [hA1, List.length_take]; omega
  have l2 : c2.length = A2.length := by rw [hA2, List.length_drop]; simp at hc; omega
  rw [← hA1, ← hA2] at hA
  have e : a = fun j => gmul (ginv x) (comb c1 A1 j ^^^ comb c2 A2 j) := by
    funext j
    have := hz j
    rw [hA, comb_append _ _ _ _ _ l1, comb_cons] at this
    have e2 : gmul x (a j) = comb c1 A1 j ^^^ comb c2 A2 j := by
      apply xor_eq_zero
      rw [← this, xor_left_comm, ← xor_assoc]
    rw [← e2, ← gmul_assoc, ginv_gmul x hx0, one_gmul]
  have hs : Sp (A1 ++ A2) a := by
    rw [e]
    refine Sp.scale _ ⟨c1 ++ c2, by simp [l1, l2], ?_⟩
    funext j
    rw [comb_append _ _ _ _ _ l1]
  have := exchange (A1 ++ A2) B b1 (fun b hb => by
    refine Sp.trans ?_ (b3 b hb)
    intro y hy
    rw [hA] at hy
    rcases List.mem_append.1 hy with h | h
    · exact Sp.mem (by simp [h])
    · rcases List.mem_cons.1 h with rfl | h
      · exact hs
      · exact Sp.mem (by simp [h]))
  have hl2 := congrArg List.length hA
  rw [List.length_append, List.length_cons] at hl2
  rw [List.length_append] at this
  omega
/-- what has a left inverse: a vector that the inverse takes to a unit is that row -/
theorem inv_row {n i : Nat} {D G : List V} (hg : G.length = n) (hd : D.length = n) (h : D.map (mulV n G) = units n) {e b : V} (he : Wide n e) (hi : G[i]? = some b) (h1 : mulV n D e = unit i) : e = b := by
  have h2 : e = comb ((List.range n).map e) (D.map (mulV n G)) := by rw [h, coords he]
  rw [h2, ← mulV_comb]
  have h3 : comb ((List.range n).map e) D = unit i := h1
  rw [h3, mulV_unit hg hi]
theorem inv_ind {n : Nat} {D G : List V} (hd : D.length = n) (h : D.map (mulV n G) = units n) : Ind D := by
  intro c hc hz
  refine comb_units_zero (n := n) (by omega) (fun j => ?_)
  rw [← h, ← mulV_comb]
  have : comb c D = fun _ => 0 := by funext j; exact hz j
  rw [this, lin_zero (mulV_scale n G)]
/-- what is inverse from the left is from the right -/
theorem inv_both {n : Nat} {D G : List V} (hg : G.length = n) (hd : D.length = n) (wd : ∀ d, d ∈ D → Wide n d) (h : D.map (mulV n G) = units n) : G.map (mulV n D) = units n := by
  apply List.ext_getElem?
  intro i
  by_cases hi : i < n
  · obtain ⟨b, hb⟩ : ∃ b, G[i]? = some b := ⟨_, List.getElem?_eq_getElem (by omega)⟩
    obtain ⟨c, hc, he⟩ := ind_full (inv_ind hd h) hd wd (unit_wide hi)
    have e : (List.range n).map (fun j => c.getD j 0) = c := by
      apply List.ext_getElem?
      intro k
      rw [List.getElem?_map]
      by_cases hk : k < n
      · rw [List.getElem?_range hk]; simp [List.getD_eq_getElem?_getD, List.getElem?_eq_getElem (show k < c.length by omega)]
      · rw [List.getElem?_eq_none (by simp; omega), List.getElem?_eq_none (by omega)]; rfl
    have h1 : mulV n D (fun j => c.getD j 0) = unit i := by unfold mulV; rw [e, ← he]
    have := inv_row hg hd h (e := fun j => c.getD j 0) (fun j hj => by simp [List.getD_eq_getElem?_getD, List.getElem?_eq_none (show c.length ≤ j by omega)]) hb h1
    rw [List.getElem?_map, hb, ← this]
    unfold units
    rw [List.getElem?_map, List.getElem?_range hi]
    simp only [Option.map_some]
    rw [h1]
  · rw [List.getElem?_eq_none (by simp; omega), List.getElem?_eq_none (by rw [units_length]; omega)]
end Gf
