/- The document's reduced rows: one behind the other cleared, in place; they are the system's. The contracts of the reference's Same of layer 3, and of a law's rows: made, and as the document's. The contract of a grid's Turned. The contracts of grid.Of where rows fit, or are uneven. The contract of the law's Made. The contract of a grid's Mul. A region that draws its order, with two stores (an exchange): each value that comes up is told ahead; the world is one of two till the last store. A system of equations in memory; New, Size, Rank. Small parts of chapter 8's law; the reference's rows in one block. A drawn region with one store into a block of its own: a row in new memory. The contract of the reference's Rows of chapter 8: each equation put in by Insert, then cleared in place. -/
import Derived.Test.YtofhdakggapahaaZq4
import Derived.Deep.RegionWith
import Derived.Laws.CopyOwn
import Derived.BigRegion
namespace Go.Proofs.Ytofhdakggapahaa
open Go.By Gf
def stepB (F : Nat → Rw) (i k : Nat) : Nat → Rw := if k = i then F else updF F i (lessF (F i) (atS (F i).1 (leadS (F k).1)) (F k))
def rowB (i : Nat) : Nat → (Nat → Rw) → (Nat → Rw)
  | 0, F => F
  | k + 1, F => stepB (rowB i k F) i k
def backB (m : Nat) : Nat → (Nat → Rw) → (Nat → Rw)
  | 0, F => F
  | i + 1, F => rowB i m (backB m i F)
structure BI (n t m : Nat) (L : Nat → Nat) (W : List V) (F : Nat → Rw) (i k : Nat) : Prop where
  good : ∀ a, a < m → Fit n t (F a) ∧ LeadAt (F a) (L a)
  done : ∀ a, a < i → a < m → ∀ b, b < m → b ≠ a → vR (F a) (L b) = 0
  cur : ∀ b, b < k → b < m → b ≠ i → vR (F i) (L b) = 0
  sp1 : ∀ a, a < m → Sp W (vR (F a))
  sp2 : ∀ v, v ∈ W → Sp ((List.range m).map fun a => vR (F a)) v
theorem BI.led {n t m : Nat} {L : Nat → Nat} {W : List V} {F : Nat → Rw} {i k a : Nat} (h : BI n t m L W F i k) (ha : a < m) : Fit n t (F a) ∧ Led (F a) ∧ leadN (F a) = L a :=
  ⟨(h.good a ha).1, ⟨_, (h.good a ha).2⟩, leadN_of (h.good a ha).2⟩
theorem BI.step {n t m : Nat} {L : Nat → Nat} {W : List V} {F : Nat → Rw} {i k : Nat} (h : BI n t m L W F i k) (hL : ∀ a b, a < b → b < m → L a < L b) (hi : i < m) (hk : k < m) : BI n t m L W (stepB F i k) i (k + 1) := by
  unfold stepB
  by_cases hki : k = i
  · rw [if_pos hki]
    exact ⟨h.good, h.done, fun b hb hbm hne => h.cur b (by omega) hbm hne, h.sp1, h.sp2⟩
  · rw [if_neg hki]
    obtain ⟨fi, li, ni⟩ := h.led hi
    obtain ⟨fk, lk, nk⟩ := h.led hk
    have hLk : L k < n := (h.good k hk).2.lt fk
    have e : lessF (F i) (atS (F i).1 (leadS (F k).1)) (F k) = lessF (F i) (vR (F i) (L k)) (F k) := by rw [(h.good k hk).2.1, vR_at fi hLk]
    rw [e]
    obtain ⟨Y, hY⟩ : ∃ Y, Y = lessF (F i) (vR (F i) (L k)) (F k) := ⟨_, rfl⟩
    rw [← hY]
    have hv : vR Y = fun j => vR (F i) j ^^^ gmul (vR (F i) (L k)) (vR (F k) j) := by rw [hY, vR_less _ fi fk]
    have fY : Fit n t Y := by rw [hY]; exact fi.less fk
    have vk1 : vR (F k) (L k) = 1 := by rw [← nk]; exact vR_lead fk lk
    have kz : ∀ j, j < L k → vR (F k) j = 0 := fun j hj => vf_before fk lk (by rw [nk]; exact hj)
    have iz : ∀ j, j < L i → vR (F i) j = 0 := fun j hj => vf_before fi li (by rw [ni]; exact hj)
    have vi1 : vR (F i) (L i) = 1 := by rw [← ni]; exact vR_lead fi li
    -- up to where row i leads nothing turns
    have same : ∀ j, j ≤ L i → vR Y j = vR (F i) j := fun j hj => by
      rw [hv]
      show vR (F i) j ^^^ gmul (vR (F i) (L k)) (vR (F k) j) = _
      rcases Nat.lt_or_ge k i with g | g
      · rw [iz (L k) (hL k i g hi), zero_gmul, xor_zero]
      · rw [kz j (by have := hL i k (by omega) hk; omega), gmul_zero, xor_zero]
    have lY : LeadAt Y (L i) := leadAt_of fY ((h.good i hi).2.lt fi) (by rw [same _ (Nat.le_refl _)]; exact vi1) fun j hj => by rw [same j (by omega)]; exact iz j hj
    have ui : updF F i Y i = Y := updF_same F i Y
    have un : ∀ a, a ≠ i → updF F i Y a = F a := fun a ha => updF_ne F Y ha
    refine ⟨fun a ha => ?_, fun a ha ham b hb hne => ?_, fun b hb hbm hne => ?_, fun a ha => ?_, fun v hvW => ?_⟩
    · by_cases e : a = i
      · subst e; rw [ui]; exact ⟨fY, lY⟩
      · rw [un a e]; exact h.good a ha
    · rw [un a (by omega)]; exact h.done a ha ham b hb hne
    · rw [ui, hv]
      show vR (F i) (L b) ^^^ gmul (vR (F i) (L k)) (vR (F k) (L b)) = 0
      by_cases e : b = k
      · subst e; rw [vk1, gmul_one, xor_self]
      · have hbk : b < k := by omega
        rw [h.cur b hbk hbm hne, kz (L b) (hL b k hbk hk), gmul_zero, xor_self]
    · by_cases e : a = i
      · subst e; rw [ui, hv]; exact Sp.add (h.sp1 a hi) (Sp.scale _ (h.sp1 k hk))
      · rw [un a e]; exact h.sp1 a ha
    · refine Sp.trans (fun u hu => ?_) (h.sp2 v hvW)
      obtain ⟨a, ha, rfl⟩ := List.mem_map.1 hu
      have ham := List.mem_range.1 ha
      have mem : ∀ c, c < m → Sp ((List.range m).map fun a => vR (updF F i Y a)) (vR (updF F i Y c)) := fun c hc => Sp.mem (List.mem_map.2 ⟨c, List.mem_range.2 hc, rfl⟩)
      by_cases e : a = i
      · subst e
        have e2 : vR (F a) = fun j => vR Y j ^^^ gmul (vR (F a) (L k)) (vR (F k) j) := by
          funext j; rw [hv]; show _ = (vR (F a) j ^^^ _) ^^^ _; rw [xor_cancel]
        show Sp _ (vR (F a))
        rw [e2]
        have m1 := mem a hi; rw [ui] at m1
        have m2 := mem k hk; rw [un k hki] at m2
        exact Sp.add m1 (Sp.scale _ m2)
      · have m1 := mem a ham; rw [un a e] at m1; exact m1
theorem BI.row {n t m : Nat} {L : Nat → Nat} {W : List V} {F : Nat → Rw} {i : Nat} (h : BI n t m L W F i 0) (hL : ∀ a b, a < b → b < m → L a < L b) (hi : i < m) : ∀ k, k ≤ m → BI n t m L W (rowB i k F) i k
  | 0, _ => h
  | k + 1, hk => (BI.row h hL hi k (by omega)).step hL hi (by omega)
theorem BI.next {n t m : Nat} {L : Nat → Nat} {W : List V} {F : Nat → Rw} {i : Nat} (h : BI n t m L W F i m) : BI n t m L W F (i + 1) 0 :=
  ⟨h.good, fun a ha ham b hb hne => by
    by_cases e : a = i
    · subst e; exact h.cur b hb hb hne
    · exact h.done a (by omega) ham b hb hne, fun b hb => by omega, h.sp1, h.sp2⟩
theorem BI.all {n t m : Nat} {L : Nat → Nat} {W : List V} {F : Nat → Rw} (h : BI n t m L W F 0 0) (hL : ∀ a b, a < b → b < m → L a < L b) : ∀ i, i ≤ m → BI n t m L W (backB m i F) i 0
  | 0, _ => h
  | i + 1, hi => ((BI.all h hL i (by omega)).row hL (by omega) m (Nat.le_refl m)).next
theorem BI.red {n t m : Nat} {L : Nat → Nat} {W : List V} {F : Nat → Rw} (h : BI n t m L W F m 0) (hL : ∀ a b, a < b → b < m → L a < L b) : Red n t ((List.range m).map F) := by
  refine ⟨⟨fun k hk => ?_, ?_⟩, ?_⟩
  · obtain ⟨a, ha, rfl⟩ := List.mem_map.1 hk
    exact ⟨(h.led (List.mem_range.1 ha)).1, (h.led (List.mem_range.1 ha)).2.1⟩
  · refine List.pairwise_map.2 (List.pairwise_iff_getElem.2 fun i j hi hj hij => ?_)
    simp only [List.length_range] at hi hj
    simp only [List.getElem_range]
    rw [(h.led hi).2.2, (h.led hj).2.2]; exact hL i j hij hj
  · refine List.pairwise_map.2 (List.pairwise_iff_getElem.2 fun i j hi hj hij => ?_)
    simp only [List.length_range] at hi hj
    simp only [List.getElem_range]
    rw [(h.led hj).2.2]; exact h.done i hi hi j hj (by omega)
def listF (K : List Rw) : Nat → Rw := fun i => K.getD i ([], [])
theorem listF_map (K : List Rw) : (List.range K.length).map (listF K) = K := by
  apply List.ext_getElem?
  intro i
  by_cases hi : i < K.length
  · rw [List.getElem?_map, List.getElem?_range hi, List.getElem?_eq_getElem hi]
    simp [listF, hi]
  · rw [List.getElem?_eq_none (by simpa using hi), List.getElem?_eq_none (by omega)]
/-- the document's rows: reduced -/
def redL (K : List Rw) : List Rw := (List.range K.length).map (backB K.length K.length (listF K))
theorem redL_red {n t : Nat} {K : List Rw} (h : KeptS n t K) : Red n t (redL K) ∧ (∀ k, k ∈ redL K → Sp (K.map vR) (vR k)) ∧ (∀ k, k ∈ K → Sp ((redL K).map vR) (vR k)) ∧ (redL K).map leadN = K.map leadN := by
  have hat : ∀ a, a < K.length → listF K a ∈ K := fun a ha => by
    have : listF K a = K[a] := by simp [listF, ha]
    rw [this]; exact List.getElem_mem ha
  have hL : ∀ a b, a < b → b < K.length → leadN (listF K a) < leadN (listF K b) := fun a b hab hb => by
    have e1 : listF K a = K[a] := by simp [listF, show a < K.length by omega]
    have e2 : listF K b = K[b] := by simp [listF, hb]
    rw [e1, e2]; exact List.pairwise_iff_getElem.1 h.sorted a b (by omega) hb hab
  have h0 : BI n t K.length (fun a => leadN (listF K a)) (K.map vR) (listF K) 0 0 := by
    refine ⟨fun a ha => ⟨(h.rows _ (hat a ha)).1, (h.rows _ (hat a ha)).2.at⟩, fun a ha => by omega, fun b hb => by omega, fun a ha => Sp.mem (List.mem_map.2 ⟨_, hat a ha, rfl⟩), fun v hv => ?_⟩
    have e : ((List.range K.length).map fun a => vR (listF K a)) = K.map vR := by
      conv => rhs; rw [← listF_map K]
      rw [List.map_map]; rfl
    rw [e]; exact Sp.mem hv
  have hA := h0.all hL K.length (Nat.le_refl _)
  refine ⟨hA.red hL, fun k hk => ?_, fun k hk => ?_, ?_⟩
  · obtain ⟨a, ha, rfl⟩ := List.mem_map.1 hk
    exact hA.sp1 a (List.mem_range.1 ha)
  · have := hA.sp2 (vR k) (List.mem_map.2 ⟨k, hk, rfl⟩)
    unfold redL
    rw [List.map_map]; exact this
  · conv => rhs; rw [← listF_map K]
    unfold redL
    rw [List.map_map, List.map_map]
    apply List.map_congr_left
    intro a ha
    exact (hA.led (List.mem_range.1 ha)).2.2
/-- what is left of a row is the same, cleared by either -/
theorem rest_same {n t : Nat} {K M : List Rw} {x : Rw} (h : KeptS n t K) (g : Red n t M) (hx : Fit n t x) (h1 : ∀ k, k ∈ K → Sp (M.map vR) (vR k)) (hl : M.map leadN = K.map leadN) : restF K x = restF M x := by
  have fK := hx.rest (fun k hk => (h.rows k hk).1)
  have fM := hx.rest (fun k hk => (g.kept.rows k hk).1)
  have rK : vR (restF K x) = red (tri K) (vR x) := rest_red h.rows hx
  have rM : vR (restF M x) = red (tri M) (vR x) := rest_red g.kept.rows hx
  have s1 := red_span (tri K) (vR x)
  have s2 := red_span (tri M) (vR x)
  rw [tri_fst] at s1 s2
  have hD : Sp (M.map vR) (fun j => vR (restF K x) j ^^^ vR (restF M x) j) := by
    have e : (fun j => vR (restF K x) j ^^^ vR (restF M x) j) = fun j => (vR x j ^^^ red (tri K) (vR x) j) ^^^ (vR x j ^^^ red (tri M) (vR x) j) := by
      funext j; rw [rK, rM, xor4, xor_self, zero_xor]
    rw [e]
    exact Sp.add (Sp.trans (fun a ha => by obtain ⟨k, hk, rfl⟩ := List.mem_map.1 ha; exact h1 k hk) s1) s2
  have hz : ∀ k, k ∈ M → vR (restF K x) (leadN k) ^^^ vR (restF M x) (leadN k) = 0 := fun k hk => by
    have m1 : leadN k ∈ K.map leadN := by rw [← hl]; exact List.mem_map.2 ⟨k, hk, rfl⟩
    obtain ⟨k', hk', e⟩ := List.mem_map.1 m1
    rw [rK, rM]
    rw [red_at g.kept.kept.tri (vf (cat k), leadN k) (List.mem_map.2 ⟨k, hk, rfl⟩)]
    rw [← e, red_at h.kept.tri (vf (cat k'), leadN k') (List.mem_map.2 ⟨k', hk', rfl⟩), xor_self]
  have hzero : ∀ j, vR (restF K x) j ^^^ vR (restF M x) j = 0 := fun j => by
    have := congrFun (coords_red g hD) j
    rw [this]
    exact comb_map_zero _ _ j M fun k hk => by rw [hz k hk, zero_gmul]
  have hc : cat (restF K x) = cat (restF M x) := vf_inj (by rw [fK.cat, fM.cat]) fun j _ => xor_eq_zero (hzero j)
  unfold cat at hc
  obtain ⟨p1, p2⟩ := List.append_inj hc (by rw [fK.1, fM.1])
  exact Prod.ext p1 p2
/-- a system and what the document has of the same equations: K0 the rows put one by one -/
structure Sys (n t : Nat) (K0 K : List Rw) : Prop where
  kept : KeptS n t K0
  same : K = redL K0
theorem Sys.nil (n t : Nat) : Sys n t [] [] := ⟨KeptS.nil n t, rfl⟩
theorem Sys.red {n t : Nat} {K0 K : List Rw} (h : Sys n t K0 K) : Red n t K := by rw [h.same]; exact (redL_red h.kept).1
theorem Sys.rest {n t : Nat} {K0 K : List Rw} {x : Rw} (h : Sys n t K0 K) (hx : Fit n t x) : restF K0 x = restF K x := by
  obtain ⟨r1, r2, r3, r4⟩ := redL_red h.kept
  rw [h.same]; exact rest_same h.kept r1 hx r3 r4
theorem Sys.put {n t : Nat} {K0 K : List Rw} {x : Rw} (h : Sys n t K0 K) (hx : Fit n t x) (hn : ¬ leadS (restF K x).1 < 0) : Sys n t (insF K0 x) (putF K x) := by
  have hn0 : ¬ leadS (restF K0 x).1 < 0 := by rw [h.rest hx]; exact hn
  have hk0 := h.kept.step hx
  obtain ⟨r1, r2, r3, r4⟩ := redL_red h.kept
  obtain ⟨q1, q2, q3, q4⟩ := redL_red hk0
  obtain ⟨i1, i2, i3⟩ := insF_span h.kept hx hn0
  obtain ⟨p1, p2, p3, p4, -⟩ := putF_red h.red hx hn
  rw [← h.same] at r1 r2 r3
  refine ⟨hk0, p1.unique q1 (fun k hk => ?_) fun k hk => ?_⟩
  · refine Sp.trans (fun a ha => ?_) (p2 k hk)
    rcases List.mem_cons.1 ha with rfl | ha
    · exact Sp.trans (fun b hb => by obtain ⟨c, hc, rfl⟩ := List.mem_map.1 hb; exact q3 c hc) i3
    · obtain ⟨c, hc, rfl⟩ := List.mem_map.1 ha
      refine Sp.trans (fun b hb => ?_) (r2 c hc)
      obtain ⟨d, hd, rfl⟩ := List.mem_map.1 hb
      exact Sp.trans (fun b hb => by obtain ⟨c, hc, rfl⟩ := List.mem_map.1 hb; exact q3 c hc) (i2 d hd)
  · refine Sp.trans (fun a ha => ?_) (q2 k hk)
    obtain ⟨c, hc, rfl⟩ := List.mem_map.1 ha
    refine Sp.trans (fun b hb => ?_) (i1 c hc)
    rcases List.mem_cons.1 hb with rfl | hb
    · exact p4
    · obtain ⟨d, hd, rfl⟩ := List.mem_map.1 hb
      exact Sp.trans (fun b hb => by obtain ⟨e, he, rfl⟩ := List.mem_map.1 hb; exact p3 e he) (r3 d hd)
end Go.Proofs.Ytofhdakggapahaa
namespace Go.Proofs.Ytofhdakggapahaa
open Go.RowKit Go.By
set_option maxRecDepth 100000 in
set_option maxHeartbeats 1000000 in
theorem RVSame_any (p1 p2 p3 p4 : Option Addr) (n1 c1 n2 c2 n3 c3 n4 c4 : Nat) (v d x y : List UInt8) (w : World) (h1 : Sl B8 w p1 n1 c1 v) (h2 : Sl B8 w p2 n2 c2 d) (h3 : Sl B8 w p3 n3 c3 x) (h4 : Sl B8 w p4 n4 c4 y) :
    Calls Try.prog 40 #[.agg #[.slice p1 n1 c1, .slice p2 n2 c2], .agg #[.slice p3 n3 c3, .slice p4 n4 c4]] w fun e w' => e = .returned (.bool (decide ((v, d) = (x, y)))) ∧ Below w.heap.size w w' := by
  have H1 := Lib.hid h1; have H2 := Lib.hid h2; have H3 := Lib.hid h3; have H4 := Lib.hid h4
  clear h1 h2 h3 h4
  have hB : ∀ o1 o2, Below w.heap.size w ((w.alloc o1).alloc o2) := fun o1 o2 => al (al (Below.refl _ _) (Nat.le_refl _)) (by simp)
  go_enter Try.func40, Try.ntmps40
  go_wp2_with fail
  refine (Same_d _ _ _ _ _ _ v x _ (H1.out.keep (hB _ _)) (H3.out.keep (hB _ _))).mono ?_; rintro e w1 ⟨rfl, q, rfl⟩
  by_cases e1 : v = x
  · rw [decide_eq_true e1]
    have HE : Hid (decide ((v, d) = (x, y)) = decide (d = y)) := by simp [Hid, e1]
    clear e1
    go_wp2_with fail
    refine (Same_d _ _ _ _ _ _ d y _ (dr (H2.out.keep (hB _ _)) q) (dr (H4.out.keep (hB _ _)) q)).mono ?_; rintro e w1 ⟨rfl, q', rfl⟩
    generalize decide (d = y) = z at HE ⊢
    go_wp2
    go_ret
    exact ⟨by rw [HE.out]; rfl, bdn (hB _ _)⟩
  · rw [decide_eq_false e1]
    have HE : Hid (decide ((v, d) = (x, y)) = false) := by simp [Hid, e1]
    clear e1
    go_wp2_with fail
    go_ret
    exact ⟨by rw [HE.out]; rfl, bdn (hB _ _)⟩
set_option maxHeartbeats 400000 in
theorem OMake_any (p1 p2 : Option Addr) (n1 c1 n2 c2 : Nat) (v d : List UInt8) (w : World) (h1 : Sl B8 w p1 n1 c1 v) (h2 : Sl B8 w p2 n2 c2 d) (r1 : Room n1) (r2 : Room n2) :
    Calls Try.prog 34 #[.agg #[.slice p1 n1 c1, .slice p2 n2 c2]] w (RetR 5 w (v, d)) := by
  have hi := info_row
  have H1 := Lib.hid h1; have H2 := Lib.hid h2; clear h1 h2
  go_enter Try.func34, Try.ntmps34
  go_wp2_with fail
  have hB : ∀ o1 o2, Below w.heap.size w ((w.alloc o1).alloc o2) := fun o1 o2 => al (al (Below.refl _ _) (Nat.le_refl _)) (by simp)
  refine (Of_any _ _ _ _ _ _ v d _ (H1.out.keep (hB _ _)) (H2.out.keep (hB _ _)) r1 r2).mono ?_; rintro e w1 ⟨q1, m1, c1', q2, m2, c2', g1, g2, rfl, ho1, ho2, hb⟩
  have HO1 := Lib.hid ho1; have HO2 := Lib.hid ho2; clear ho1 ho2
  have e2 : w1.heap[w.heap.size + 1]? = some (.cells #[.slice none 0 0, .slice none 0 0] 61 (0, 0)) := by
    rw [hb.block _ (by simp)]; exact hnew (by simp)
  have f0 : w1.cell? ⟨w.heap.size + 1, 0, none⟩ = some (.slice none 0 0) := cell_of_row _ _ 0 _ _ _ e2
  have f1 : w1.cell? ⟨w.heap.size + 1, 1, none⟩ = some (.slice none 0 0) := cell_of_row _ _ 1 _ _ _ e2
  have z0 : w1.frozen? ⟨w.heap.size + 1, 0, none⟩ = false := frozen_of_row _ _ 0 _ _ e2
  have z1 : w1.frozen? ⟨w.heap.size + 1, 1, none⟩ = false := frozen_of_row _ _ 1 _ _ e2
  have E2 := Lib.hid e2; clear e2
  go_wp2
  refine bodyPost_ret (results_cell_row rfl _ _ _ 61 #[.slice q1 m1 c1', .slice q2 m2 c2'] (0, 0) _ rfl (hss (hss E2.out)) Try.underlying61 rfl hi) rfl ⟨q1, m1, c1', q2, m2, c2', g1, g2, rfl, ?_, ?_, ((bl (hB _ _) hb (by simp; omega)).setCell (by simp) _).setCell (by simp) _⟩
  · exact owns_mono (owns_set (owns_set HO1.out (by simp)) (by simp)) (by simp; omega)
  · exact owns_mono (owns_set (owns_set HO2.out (by simp)) (by simp)) (by simp; omega)
set_option maxHeartbeats 400000 in
theorem ORef_any (p1 p2 : Option Addr) (n1 c1 n2 c2 : Nat) (w : World) :
    Calls Try.prog 38 #[.agg #[.slice p1 n1 c1, .slice p2 n2 c2]] w fun e w' => e = .returned (.agg #[.slice p1 n1 c1, .slice p2 n2 c2]) ∧ Below w.heap.size w w' := by
  have hi := info_ref
  go_enter Try.func38, Try.ntmps38
  go_wp2
  exact bodyPost_ret (results_cell_row rfl _ _ _ 68 #[.slice p1 n1 c1, .slice p2 n2 c2] (0, 0) _ rfl (hnew (by simp)) Try.underlying68 rfl hi) rfl ⟨rfl, al (al (Below.refl _ _) (Nat.le_refl _)) (by simp)⟩
set_option maxHeartbeats 400000 in
theorem Of03_any (p1 p2 : Option Addr) (n1 c1 n2 c2 : Nat) (w : World) :
    Calls Try.prog 41 #[.agg #[.slice p1 n1 c1, .slice p2 n2 c2]] w fun e w' => e = .returned (.agg #[.slice p1 n1 c1, .slice p2 n2 c2]) ∧ Below w.heap.size w w' := by
  have hi := info_ref
  go_enter Try.func41, Try.ntmps41
  go_wp2
  exact bodyPost_ret (results_cell_row rfl _ _ _ 68 #[.slice p1 n1 c1, .slice p2 n2 c2] (0, 0) _ rfl (hnew (by simp)) Try.underlying68 rfl hi) rfl ⟨rfl, al (al (Below.refl _ _) (Nat.le_refl _)) (by simp)⟩
end Go.Proofs.Ytofhdakggapahaa
namespace Go.Proofs.Ytofhdakggapahaa
open Go.RowKit Go.By
theorem use_w1 {P : Program} {f : FuncId} {args : Array Value} {W : World} {Q : Ending → World → Prop} (I : World → Prop) (h : I W) (k : ∀ W', I W' → Calls P f args W' Q) : Calls P f args W Q := k W h
/-- turned so far: rows ahead of i, and of row i the places ahead of j -/
structure TurnP (h wd : Nat) (cells : List UInt8) (i j : Nat) (L : List UInt8) : Prop where
  len : L.length = wd * h
  at_ : ∀ a b, a < h → b < wd → L[b * h + a]? = some (if a < i ∨ (a = i ∧ b < j) then cells.getD (a * wd + b) 0 else 0)
theorem idx_lt {n m a b : Nat} (ha : a < n) (hb : b < m) : a * m + b < n * m := by
  have : (a + 1) * m ≤ n * m := Nat.mul_le_mul_right _ ha
  rw [Nat.add_mul, Nat.one_mul] at this; omega
theorem idx_inj {m a b a' b' : Nat} (hb : b < m) (hb' : b' < m) (e : a * m + b = a' * m + b') : a = a' ∧ b = b' := by
  have d1 : (a * m + b) / m = a := by rw [Nat.mul_comm, Nat.mul_add_div (by omega), Nat.div_eq_of_lt hb]; rfl
  have d2 : (a' * m + b') / m = a' := by rw [Nat.mul_comm, Nat.mul_add_div (by omega), Nat.div_eq_of_lt hb']; rfl
  rw [e, d2] at d1
  subst d1
  exact ⟨rfl, by omega⟩
theorem TurnP.start (h wd : Nat) (cells : List UInt8) : TurnP h wd cells 0 0 (List.replicate (wd * h) 0) :=
  ⟨by simp, fun a b ha hb => by rw [List.getElem?_replicate_of_lt (idx_lt hb ha), if_neg (by omega)]⟩
theorem TurnP.put {h wd : Nat} {cells : List UInt8} {i j : Nat} {L : List UInt8} {x : UInt8} (t : TurnP h wd cells i j L) (hi : i < h) (hj : j < wd) (hx : cells[i * wd + j]? = some x) : TurnP h wd cells i (j + 1) (L.set (j * h + i) x) := by
  refine ⟨by rw [List.length_set]; exact t.len, fun a b ha hb => ?_⟩
  rw [List.getElem?_set]
  by_cases e : j * h + i = b * h + a
  · obtain ⟨rfl, rfl⟩ := idx_inj hi ha e
    rw [if_pos rfl, if_pos (by rw [t.len]; exact idx_lt hj hi), if_pos (.inr ⟨rfl, by omega⟩)]
    simp [List.getD_eq_getElem?_getD, hx]
  · rw [if_neg e, t.at_ a b ha hb]
    by_cases h1 : a < i ∨ (a = i ∧ b < j)
    · rw [if_pos h1, if_pos (by omega)]
    · rw [if_neg h1, if_neg (fun h2 => by
        rcases h2 with h2 | ⟨rfl, h2⟩
        · exact h1 (.inl h2)
        · have : b = j := by omega
          subst this; exact e rfl)]
theorem TurnP.next {h wd : Nat} {cells : List UInt8} {i : Nat} {L : List UInt8} (t : TurnP h wd cells i wd L) : TurnP h wd cells (i + 1) 0 L :=
  ⟨t.len, fun a b ha hb => by
    rw [t.at_ a b ha hb]
    by_cases h1 : a < i ∨ (a = i ∧ b < wd)
    · rw [if_pos h1, if_pos (by omega)]
    · rw [if_neg h1, if_neg (by omega)]⟩
/-- a grid's columns -/
def turnR (h wd : Nat) (cells : List UInt8) : List (List UInt8) := (List.range wd).map fun b => (List.range h).map fun a => cells.getD (a * wd + b) 0
theorem TurnP.rows {h wd : Nat} {cells : List UInt8} {L : List UInt8} (t : TurnP h wd cells h 0 L) : (List.range wd).map (rowF h L) = turnR h wd cells := by
  unfold turnR
  refine List.map_congr_left (fun b hb => ?_)
  have hb' := List.mem_range.1 hb
  apply List.ext_getElem?
  intro a
  unfold rowF
  by_cases ha : a < h
  · rw [List.getElem?_take, if_pos ha, List.getElem?_drop, t.at_ a b ha hb', if_pos (.inl ha), List.getElem?_map, List.getElem?_range ha]; rfl
  · rw [List.getElem?_take, if_neg ha, List.getElem?_eq_none (by simp; omega)]
set_option maxRecDepth 100000 in
set_option maxHeartbeats 4000000 in
theorem Turned_any (h wd : Nat) (p : Option Addr) (n c : Nat) (cells : List UInt8) (w : World) (hs : Sl B8 w p n c cells) (hn : n = h * wd) (hr : Room (wd * h)) (hh : h ≤ 9223372036854775807) (hw : wd ≤ 9223372036854775807) :
    Calls Try.prog 21 #[.agg #[.int .i64 h, .int .i64 wd, .slice p n c]] w fun e w' => ∃ L, TurnP h wd cells h 0 L ∧ RetG 5 w wd h L e w' := by
  have hinfo := info_grid
  have HBL := Lib.hid (fun W => blank_any wd h W hr hw hh)
  have HS := Lib.hid hs; have HN := Lib.hid hn; have HLEN := Lib.hid hs.len
  obtain ⟨N, hN⟩ : ∃ N, N = wd * h := ⟨_, rfl⟩
  have HNE := Lib.hid hN
  have HB0 : Hid (∀ o1 o2, Below w.heap.size w ((w.alloc o1).alloc o2)) := fun o1 o2 => al (al (Below.refl _ _) (Nat.le_refl _)) (by simp)
  obtain ⟨f0, f1, f2⟩ := cells3 (hal (w := w.alloc (.cells #[.int .i64 h, .int .i64 wd, .slice p n c] 27)) (o := .cells #[.int .i64 0, .int .i64 0, .slice none 0 0] 27) (hnew rfl))
  clear hs hn hr hN f0 f1 f2
  go_enter Try.func21, Try.ntmps21
  go_wp2_with fail
  refine use_w1 (fun W => Below w.heap.size w W ∧ W.heap[w.heap.size]? = some (.cells #[.int .i64 h, .int .i64 wd, .slice p n c] 27 (0, 0)) ∧ W.heap[w.heap.size + 1]? = some (.cells #[.int .i64 0, .int .i64 0, .slice none 0 0] 27 (0, 0)) ∧ w.heap.size + 2 ≤ W.heap.size) ⟨HB0.out _ _, hal (hnew rfl), hnew (by simp), by simp⟩ ?_
  rintro w0 ⟨b0, x0, z0, s0⟩
  refine Calls.mono (HBL.out _) ?_; rintro e w1 ⟨q, n1, c1, hn1, rfl, ho, hb⟩
  obtain rfl : n1 = N := hn1.trans HNE.out.symm
  have X1 : Hid (w1.heap[w.heap.size]? = some (.cells #[.int .i64 h, .int .i64 wd, .slice p n c] 27 (0, 0))) := (hb.block _ (blk_lt x0)).trans x0
  have Z1 : Hid (w1.heap[w.heap.size + 1]? = some (.cells #[.int .i64 0, .int .i64 0, .slice none 0 0] 27 (0, 0))) := (hb.block _ (blk_lt z0)).trans z0
  have K1 : Hid (Below w.heap.size w w1) := bl b0 hb b0.size
  have O1 : Hid (w1.ownsRow (w.heap.size + 2) 5 1 (.slice q n1 c1) n1 ((List.replicate (wd * h) 0).map B8)) := owns_mono ho s0
  have TP0 := Lib.hid (TurnP.start h wd cells)
  have hs1 : Hid (w.heap.size + 2 ≤ w1.heap.size) := Nat.le_trans s0 hb.size
  clear b0 x0 z0 s0 ho hb hn1 HB0 HBL
  obtain ⟨y0, y1, y2⟩ := cells3 (hal (o := .cells #[.int .i64 wd, .int .i64 h, .slice q n1 c1] 27) X1.out)
  go_wp2
  clear y0 y1 y2
  go_loopw [14] (fun i wr => ∃ (k : Nat) (L : List UInt8), k ≤ h ∧ i = .int .i64 k ∧ Hid (TurnP h wd cells k 0 L) ∧ Hid (wr.ownsRow (w.heap.size + 2) 5 1 (.slice q n1 c1) n1 (L.map B8)) ∧ Hid (Below w.heap.size w wr) ∧
    Hid (wr.heap[w1.heap.size]? = some (.cells #[.int .i64 wd, .int .i64 h, .slice q n1 c1] 27 (0, 0))) ∧ Hid (wr.heap[w.heap.size]? = some (.cells #[.int .i64 h, .int .i64 wd, .slice p n c] 27 (0, 0))) ∧
    Hid (wr.heap[w.heap.size + 1]? = some (.cells #[.int .i64 0, .int .i64 0, .slice none 0 0] 27 (0, 0)))) (fun i _ => h - (intOf i).toNat)
  case atStart => exact ⟨0, _, Nat.zero_le _, rfl, TP0.out, owns_keep O1.out (al (Below.refl _ _) (Nat.le_refl _)), al K1.out K1.out.size, hnew rfl, hal X1.out, hal Z1.out⟩
  case round =>
    obtain ⟨k, L, hk, rfl, hT, hO, hB, hX, hP, hZ⟩ := hrel
    by_cases hlt : k < h
    · obtain ⟨y0, y1, y2⟩ := cells3 hP.out
      go_wp2_with fail
      refine Calls.mono (row_any h wd k p n c cells wr (HS.out.keep hB.out) HN.out hlt hh) ?_
      rintro e w2 ⟨q', c', rfl, -, hq', hb'⟩
      have HQ := Lib.hid hq'
      have O2 : Hid (w2.ownsRow (w.heap.size + 2) 5 1 (.slice q n1 c1) n1 (L.map B8)) := owns_keep hO.out hb'
      have B2 : Hid (Below w.heap.size w w2) := bl hB.out hb' hB.out.size
      have X2 : Hid (w2.heap[w1.heap.size]? = some (.cells #[.int .i64 wd, .int .i64 h, .slice q n1 c1] 27 (0, 0))) := (hb'.block _ (blk_lt hX.out)).trans hX.out
      have P2 : Hid (w2.heap[w.heap.size]? = some (.cells #[.int .i64 h, .int .i64 wd, .slice p n c] 27 (0, 0))) := (hb'.block _ (blk_lt hP.out)).trans hP.out
      have Z2 : Hid (w2.heap[w.heap.size + 1]? = some (.cells #[.int .i64 0, .int .i64 0, .slice none 0 0] 27 (0, 0))) := (hb'.block _ (blk_lt hZ.out)).trans hZ.out
      have HT := hT
      clear hq' hO hB hX hP hZ hb' y0 y1 y2 hT
      go_wp2
      go_loopw [21] (fun i wq => ∃ (j : Nat) (L : List UInt8), j ≤ wd ∧ i = .int .i64 j ∧ Hid (TurnP h wd cells k j L) ∧ Hid (wq.ownsRow (w.heap.size + 2) 5 1 (.slice q n1 c1) n1 (L.map B8)) ∧ Hid (Below w.heap.size w wq) ∧
        Hid (wq.heap[w1.heap.size]? = some (.cells #[.int .i64 wd, .int .i64 h, .slice q n1 c1] 27 (0, 0))) ∧ Hid (wq.heap[w.heap.size]? = some (.cells #[.int .i64 h, .int .i64 wd, .slice p n c] 27 (0, 0))) ∧
        Hid (wq.heap[w.heap.size + 1]? = some (.cells #[.int .i64 0, .int .i64 0, .slice none 0 0] 27 (0, 0)))) (fun i _ => wd - (intOf i).toNat)
      case atStart => exact ⟨0, L, Nat.zero_le _, rfl, HT.out, O2.out, B2.out, X2.out, P2.out, Z2.out⟩
      case round =>
        clear O2 B2 X2 P2 Z2 HT
        obtain ⟨j, L, hj, rfl, hT, hO, hB, hX, hP, hZ⟩ := hrel
        by_cases hjl : j < wd
        · obtain ⟨gb, go, x, rfl, hcx, hxx⟩ := HS.out.at (k * wd + j) (by rw [HN.out]; exact idx_lt hlt hjl)
          have hq2 := HQ.out (by omega) gb go rfl
          subst hq2
          have hcw : wr.cell? ⟨gb, go + k * wd + j, none⟩ = some (B8 x) := by
            rw [show go + k * wd + j = go + (k * wd + j) by omega]; exact (hB.out.cell (p := ⟨gb, go + (k * wd + j), none⟩) (lt_of_cell hcx)).trans hcx
          obtain ⟨y0, y1, y2⟩ := cells3 hX.out
          have hpos : 0 < n1 := by rw [HNE.out]; exact Nat.mul_pos (by omega) (by omega)
          obtain ⟨g, rfl, hg1, hg2⟩ := owns_at hO.out hpos
          have hg : w1.heap.size ≠ g := fun e => by
            subst e
            rcases hO.out.2 with ⟨h', _⟩ | ⟨g', cap, cur, hv, _, hh, _⟩
            · cases h'
            · cases hv
              rw [hX.out] at hh; cases hh
          have hz : w.heap.size + 1 ≠ g := by omega
          have hpg : w.heap.size ≠ g := by omega
          have jn : (j : Int) < (wd : Int) := by omega
          have HX := Lib.hid hxx.out
          clear hcx hxx
          go_wp2_with fail
          refine Calls.mono (row_any wd h j _ n1 c1 L wr (Sl.of_owns hO.out) HNE.out hjl hw) ?_
          rintro e w3 ⟨q3, c3, rfl, -, hq3, hb3⟩
          have hq4 := hq3 (by omega) g 0 rfl
          rw [Nat.zero_add] at hq4
          subst hq4
          have O3 : Hid (w3.ownsRow (w.heap.size + 2) 5 1 (.slice (some ⟨g, 0, none⟩) n1 c1) n1 (L.map B8)) := owns_keep hO.out hb3
          have B3 : Hid (Below w.heap.size w w3) := bl hB.out hb3 hB.out.size
          have X3 : Hid (w3.heap[w1.heap.size]? = some (.cells #[.int .i64 wd, .int .i64 h, .slice (some ⟨g, 0, none⟩) n1 c1] 27 (0, 0))) := (hb3.block _ (blk_lt hX.out)).trans hX.out
          have P3 : Hid (w3.heap[w.heap.size]? = some (.cells #[.int .i64 h, .int .i64 wd, .slice (some ⟨gb, go, none⟩) n c] 27 (0, 0))) := (hb3.block _ (blk_lt hP.out)).trans hP.out
          have Z3 : Hid (w3.heap[w.heap.size + 1]? = some (.cells #[.int .i64 0, .int .i64 0, .slice none 0 0] 27 (0, 0))) := (hb3.block _ (blk_lt hZ.out)).trans hZ.out
          have hidx : j * h + k < n1 := by rw [HNE.out]; exact idx_lt hjl hlt
          have hlenL : L.length = n1 := by rw [hT.out.len, HNE.out]
          obtain ⟨y, hy⟩ : ∃ y, L[j * h + k]? = some y := ⟨_, List.getElem?_eq_getElem (by omega)⟩
          have cx : w3.cell? ⟨g, j * h + k, none⟩ = some (B8 y) := by rw [O3.out.cellAt _ (by omega), List.getElem?_map, hy]; rfl
          have zx : w3.frozen? ⟨g, j * h + k, none⟩ = false := O3.out.frozenAt _
          have kn : (k : Int) < (h : Int) := by omega
          have T3 : Hid (TurnP h wd cells k (j + 1) (L.set (j * h + k) x)) := hT.out.put hlt hjl HX.out
          clear hO hB hX hP hZ hq3 hb3 y0 y1 y2 hy hidx hlenL hcw hT
          have P4 : Hid ((w3.setCell ⟨g, j * h + k, none⟩ (B8 x)).ownsRow (w.heap.size + 2) 5 1 (.slice (some ⟨g, 0, none⟩) n1 c1) n1 ((L.set (j * h + k) x).map B8) ∧ Below w.heap.size w (w3.setCell ⟨g, j * h + k, none⟩ (B8 x)) ∧
              (w3.setCell ⟨g, j * h + k, none⟩ (B8 x)).heap[w1.heap.size]? = some (.cells #[.int .i64 wd, .int .i64 h, .slice (some ⟨g, 0, none⟩) n1 c1] 27 (0, 0)) ∧
              (w3.setCell ⟨g, j * h + k, none⟩ (B8 x)).heap[w.heap.size]? = some (.cells #[.int .i64 h, .int .i64 wd, .slice (some ⟨gb, go, none⟩) n c] 27 (0, 0)) ∧
              (w3.setCell ⟨g, j * h + k, none⟩ (B8 x)).heap[w.heap.size + 1]? = some (.cells #[.int .i64 0, .int .i64 0, .slice none 0 0] 27 (0, 0))) := by
            refine ⟨?_, B3.out.setCell (by show w.heap.size ≤ g; omega) _, hsc X3.out hg, hsc P3.out hpg, hsc Z3.out hz⟩
            rw [List.map_set]
            exact (O3.out.stored (j * h + k) (B8 x)).1
          clear O3 B3 X3 P3 Z3
          go_wp2
          go_roundw
          case rel => exact ⟨j + 1, _, by omega, by go_num, T3.out, P4.out.1, P4.out.2.1, P4.out.2.2.1, P4.out.2.2.2.1, P4.out.2.2.2.2⟩
          case measure => simp [intOf]; omega
        · have hjw : j = wd := by omega
          have hge : (wd : Int) ≤ (j : Int) := by omega
          have T4 : Hid (TurnP h wd cells (k + 1) 0 L) := by have := hT.out; rw [hjw] at this; exact this.next
          clear hjw hT
          go_wp2
          go_roundw
          case rel => exact ⟨k + 1, L, by omega, by go_num, T4.out, hO.out, hB.out, hX.out, hP.out, hZ.out⟩
          case measure => simp [intOf]; omega
    · have hkh : k = h := by omega
      obtain ⟨y0, y1, y2⟩ := cells3 hX.out
      obtain ⟨f0, f1, f2⟩ := cells3 hZ.out
      have z0 := frozen_of_row _ _ 0 _ _ hZ.out
      have z1 := frozen_of_row _ _ 1 _ _ hZ.out
      have z2 := frozen_of_row _ _ 2 _ _ hZ.out
      have hge : (h : Int) ≤ (k : Int) := by omega
      have TF : Hid (TurnP h wd cells h 0 L) := by have := hT.out; rwa [hkh] at this
      clear hkh hT
      go_wp2
      refine bodyPost_ret (results_cell_row rfl _ _ _ 27 #[.int .i64 wd, .int .i64 h, .slice q n1 c1] (0, 0) _ rfl (hss (hss (hss hZ.out))) Try.underlying27 rfl hinfo) rfl ⟨L, TF.out, q, n1, c1, HNE.out, rfl, ?_, ((hB.out.setCell (by simp) _).setCell (by simp) _).setCell (by simp) _⟩
      exact owns_mono (owns_set (owns_set (owns_set hO.out (by simp)) (by simp)) (by simp)) (by simp)
end Go.Proofs.Ytofhdakggapahaa
namespace Go.Proofs.Ytofhdakggapahaa
open Go.RowKit Go.By
set_option maxRecDepth 100000 in
set_option maxHeartbeats 2000000 in
theorem GOf_good (wd : Nat) (p : Option Addr) (m c : Nat) (xss : List (List UInt8)) (w : World) (h : Sl2 w p m c xss) (h1 : wd ≤ 65536) (h2 : m ≤ 65536) (h3 : m * wd ≤ 65536) (hall : xss.all (fun y => decide (y.length = wd)) = true) :
    Calls Try.prog 11 #[.int .i64 wd, .slice p m c] w (RetG2 5 w m wd xss.flatten 0) := by
  have hinfo := info_grid
  obtain ⟨k, hk⟩ : ∃ k, k = m * wd := ⟨_, rfl⟩
  have wm : IntKind.i64.wrap ((m : Int) * (wd : Int)) = ((k : Nat) : Int) := by rw [hk, ← Int.natCast_mul]; exact Go.IntWalk.i64_in _ (by omega)
  have hfl : xss.flatten.length = m * wd := by
    have : ∀ l : List (List UInt8), (∀ x, x ∈ l → x.length = wd) → l.flatten.length = l.length * wd := by
      intro l
      induction l with
      | nil => simp
      | cons x l ih => intro hx; rw [List.flatten_cons, List.length_append, ih (fun y hy => hx y (by simp [hy])), hx x (by simp), List.length_cons, Nat.add_mul]; omega
    rw [this xss (fun x hx => by simpa using List.all_eq_true.1 hall x hx), h.len]
  have hmb := h.bound
  obtain ⟨vs, hvs, hvv⟩ := h.vals
  have hax := any_vals (n := wd) (hvs.len.trans h.len.symm) hvv
  rw [hall] at hax
  rw [← hk] at h3 hfl
  have H := Lib.hid h; have HV := Lib.hid hvs; have HVV := Lib.hid hvv; have HA := Lib.hid hax
  have HR : Hid (Room xss.flatten.length) := by show Room _; unfold Room; omega
  have HFL := Lib.hid hfl; have HK := Lib.hid hk
  have HB : Hid (∀ o1 o2, Below w.heap.size w ((w.alloc o1).alloc o2)) := fun o1 o2 => al (al (Below.refl _ _) (Nat.le_refl _)) (by simp)
  have hX0 : ∀ o2, ((w.alloc (.cells #[.int .i64 wd] 3)).alloc o2).heap[w.heap.size]? = some (.cells #[.int .i64 wd] 3 (0, 0)) := fun o2 => hal (hnew rfl)
  have HX0 := Lib.hid hX0
  have HX1 : Hid (∀ o1, ((w.alloc o1).alloc (.cells #[.int .i64 0, .int .i64 0, .slice none 0 0] 27)).heap[w.heap.size + 1]? = some (.cells #[.int .i64 0, .int .i64 0, .slice none 0 0] 27 (0, 0))) := fun o1 => hnew (by simp)
  clear h hvs hvv hax hfl hk hX0 hall
  go_enter Try.func11, Try.ntmps11
  go_wp2_with fail
  refine (ContainsFuncBB_any id (lenNe wd) 53 _ enters_of1 p m c vs _ (HV.out.keep (HB.out _ _)) ?_).mono ?_
  · intro v hv
    obtain ⟨i, hi, e⟩ := List.getElem_of_mem hv
    obtain ⟨xs, q, c', hx, rfl, hs⟩ := HVV.out i v (by rw [List.getElem?_eq_getElem hi, e])
    exact Of1_any q _ c' _ wd _ (cell_of_row _ _ 0 _ _ _ (HX0.out _))
  rintro e w' ⟨rfl, rfl⟩
  rw [HA.out]
  go_wp2_with fail
  go_region_with (go_at_call 55; refine (Concat_any p m c xss _ (H.out.keep (HB.out _ _).drew) HR.out).mono ?_; rintro e w2 ⟨q, m', c', hm, rfl, ho, hb2⟩; have E0 := Lib.hid ((hb2.block _ (by simp; omega)).trans (HX0.out _)); have E1 := Lib.hid ((hb2.block _ (by simp)).trans (HX1.out _)); have c0 := cell_of_row _ _ 0 _ _ _ E0.out; obtain ⟨f0, f1, f2⟩ := cells3 E1.out; have g0 := frozen_of_row _ _ 0 _ _ E1.out; have g1 := frozen_of_row _ _ 1 _ _ E1.out; have g2 := frozen_of_row _ _ 2 _ _ E1.out; have HO := Lib.hid ho; have HB2 := Lib.hid hb2; clear ho hb2)
  all_goals
    go_wp2
    refine bodyPost_ret (results_cell_tmp rfl _ _ _ 27 #[.int .i64 m, .int .i64 wd, .slice q m' c'] (0, 0) _ (.int .i64 0) rfl (hss (hss (hss E1.out))) rfl Try.underlying27 rfl hinfo) rfl ⟨q, m', c', by rw [← hm.out, HFL.out, HK.out], rfl, ?_, (((bl (HB.out _ _).drew HB2.out (by simp; omega)).setCell (by simp) _).setCell (by simp) _).setCell (by simp) _⟩
    exact owns_mono (owns_set (owns_set (owns_set HO.out (by simp)) (by simp)) (by simp)) (by simp; omega)
set_option maxRecDepth 100000 in
set_option maxHeartbeats 2000000 in
theorem GOf_uneven (wd : Nat) (p : Option Addr) (m c : Nat) (xss : List (List UInt8)) (w : World) (h : Sl2 w p m c xss) (h1 : wd ≤ 65536) (h2 : m ≤ 65536) (h3 : m * wd ≤ 65536) (hall : xss.all (fun y => decide (y.length = wd)) = false) :
    Calls Try.prog 11 #[.int .i64 wd, .slice p m c] w (RetG2 5 w 0 0 [] 4) := by
  have hinfo := info_grid
  obtain ⟨k, hk⟩ : ∃ k, k = m * wd := ⟨_, rfl⟩
  have wm : IntKind.i64.wrap ((m : Int) * (wd : Int)) = ((k : Nat) : Int) := by rw [hk, ← Int.natCast_mul]; exact Go.IntWalk.i64_in _ (by omega)
  have hmb := h.bound
  obtain ⟨vs, hvs, hvv⟩ := h.vals
  have hax := any_vals (n := wd) (hvs.len.trans h.len.symm) hvv
  rw [hall] at hax
  rw [← hk] at h3
  have HV := Lib.hid hvs; have HVV := Lib.hid hvv; have HA := Lib.hid hax
  have HB : Hid (∀ o1 o2, Below w.heap.size w ((w.alloc o1).alloc o2)) := fun o1 o2 => al (al (Below.refl _ _) (Nat.le_refl _)) (by simp)
  have hX0 : ∀ o2, ((w.alloc (.cells #[.int .i64 wd] 3)).alloc o2).heap[w.heap.size]? = some (.cells #[.int .i64 wd] 3 (0, 0)) := fun o2 => hal (hnew rfl)
  have HX0 := Lib.hid hX0
  have HX1 : Hid (∀ o1, ((w.alloc o1).alloc (.cells #[.int .i64 0, .int .i64 0, .slice none 0 0] 27)).heap[w.heap.size + 1]? = some (.cells #[.int .i64 0, .int .i64 0, .slice none 0 0] 27 (0, 0))) := fun o1 => hnew (by simp)
  clear h hvs hvv hax hk hX0 hall
  go_enter Try.func11, Try.ntmps11
  go_wp2_with fail
  refine (ContainsFuncBB_any id (lenNe wd) 53 _ enters_of1 p m c vs _ (HV.out.keep (HB.out _ _)) ?_).mono ?_
  · intro v hv
    obtain ⟨i, hi, e⟩ := List.getElem_of_mem hv
    obtain ⟨xs, q, c', hx, rfl, hs⟩ := HVV.out i v (by rw [List.getElem?_eq_getElem hi, e])
    exact Of1_any q _ c' _ wd _ (cell_of_row _ _ 0 _ _ _ (HX0.out _))
  rintro e w' ⟨rfl, rfl⟩
  rw [HA.out]
  go_wp2
  refine bodyPost_ret (results_cell_tmp rfl _ _ _ 27 #[.int .i64 0, .int .i64 0, .slice none 0 0] (0, 0) _ (.int .i64 4) rfl (HX1.out _) rfl Try.underlying27 rfl hinfo) rfl (RetG2.zero (HB.out _ _))
end Go.Proofs.Ytofhdakggapahaa
namespace Go.By
open Go.RowKit
theorem results_cell_tmp2 {P : Program} {fn : Func} {p u u2 : Tmp} {ty : TypeId} (h : fn.results = #[.cell p ty, .tmp u, .tmp u2]) (tmps : Array Value) (w : World) (g : Nat) (t : TypeId) (cs : Array Value) (fr : Nat × Nat) (d : TypeDesc) (v v2 : Value)
    (hp : tmps.getD p undef = .pointer (some ⟨g, 0, none⟩)) (hg : w.heap[g]? = some (.cells cs t fr)) (hv : tmps.getD u undef = v) (hv2 : tmps.getD u2 undef = v2)
    (hu : P.underlying ty = some d) (hd : (match d with | .struct _ | .array _ _ => true | _ => false) = true) (hi : (P.info? ty).map (·.size) = some cs.size) :
    (results fn tmps).run P w = .ok (.tuple #[.agg cs, v, v2]) w := by
  have hp' : tmps[p]?.getD undef = .pointer (some ⟨g, 0, none⟩) := by simpa using hp
  have hv' : tmps[u]?.getD undef = v := by simpa using hv
  have hv2' : tmps[u2]?.getD undef = v2 := by simpa using hv2
  simp [results, h, hp', hv', hv2', asAddr, run_loadVar_row w g t ty cs fr d hg hu hd hi]
theorem heap_of_owns {w : World} {base E g n : Nat} {L : List Value} (h : w.ownsRow base E 1 (.slice (some ⟨g, 0, none⟩) n n) n L) : w.heap[g]? = some (.cells L.toArray E (0, 0)) := by
  rcases h.2 with ⟨h1, _⟩ | ⟨g', cap, cur, hv, _, hh, _, _, hs, ht⟩
  · cases h1
  · cases hv
    rw [hh]
    have : cur = L.toArray := by
      rw [← ht, List.take_of_length_le (by simp [hs])]
    rw [this]
/-- a block known whole is owned -/
theorem owns_of_heap {w : World} {base E g n : Nat} {L : List Value} (hg : base ≤ g) (hh : w.heap[g]? = some (.cells L.toArray E (0, 0))) (hl : L.length = n) (hm : n ≤ maxLen) : w.ownsRow base E 1 (.slice (some ⟨g, 0, none⟩) n n) n L :=
  ⟨by rw [Nat.mul_one]; exact hl, .inr ⟨g, n, L.toArray, rfl, hg, hh, Nat.le_refl _, hm, by simp [hl], by rw [Nat.mul_one, List.take_of_length_le (by simp [hl])]⟩⟩
end Go.By
namespace Go.Proofs.Ytofhdakggapahaa
open Go.RowKit Go.By
/-- the first bytes of a row, with noughts behind -/
def fitR (wd : Nat) (r : List UInt8) : List UInt8 := r.take wd ++ List.replicate (wd - r.length) 0
theorem fitR_len (wd : Nat) (r : List UInt8) : (fitR wd r).length = wd := by unfold fitR; rw [List.length_append, List.length_take, List.length_replicate]; omega
theorem splice_fit (wd : Nat) (r : List UInt8) : splice (List.replicate wd (B8 0)) 0 ((r.take wd).map B8) = (fitR wd r).map B8 := by
  unfold splice fitR
  rw [List.take_zero, List.nil_append, Nat.zero_add, List.drop_replicate, List.length_map, List.length_take, List.map_append, List.map_replicate]
  congr 2
  omega
/-- what Made gives -/
def RetM (w : World) (m wd : Nat) (R : List (List UInt8)) (e : Ending) (w' : World) : Prop :=
  ∃ q n c q2 c2, n = m * wd ∧ e = .returned (.tuple #[.agg #[.int .i64 m, .int .i64 wd, .slice q n c], .slice q2 m c2, .int .i64 wd]) ∧ w'.ownsRow w.heap.size 5 1 (.slice q n c) n (R.flatten.map B8) ∧
    Own2 25 5 w' w.heap.size (.slice q2 m c2) m R ∧ Below w.heap.size w w'
set_option maxRecDepth 100000 in
set_option maxHeartbeats 4000000 in
theorem Made_any (x : UInt8) (p : Option Addr) (m c : Nat) (xss : List (List UInt8)) (w : World) (h : Sl2 w p m c xss) (hm : m ≤ 30) :
    Calls Try.prog 19 #[B8 x, .slice p m c] w (RetM w m (x.toNat % 31) (xss.map (fitR (x.toNat % 31)))) := by
  have hinfo := info_grid
  obtain ⟨r0, hr0, hrz, hr1, hr2⟩ := info_parts info_rows
  obtain ⟨i0, hi0, hz0, hz1, hz2⟩ := info_parts info_u8
  obtain ⟨wd, hwd⟩ : ∃ wd, wd = x.toNat % 31 := ⟨_, rfl⟩
  have hw : wd ≤ 30 := by omega
  have hwz : ((x.toNat : Int) % 31) = (wd : Int) := by omega
  have hwt : ((x.toNat : Int)).tmod 31 = (wd : Int) := by rw [Int.tmod_eq_emod_of_nonneg (by omega)]; exact hwz
  have H := Lib.hid h; have HLEN := Lib.hid h.len
  have HM1 : Hid (wd ≤ maxLen) := by show wd ≤ maxLen; unfold maxLen; omega
  have HM2 : Hid (1 * wd ≤ 281474976710656) := by show 1 * wd ≤ _; omega
  rw [← hwd]
  have HB0 : Hid (Below w.heap.size w (w.alloc (.cells #[.int .i64 0, .int .i64 0, .slice none 0 0] 27))) := al (Below.refl _ _) (Nat.le_refl _)
  clear h hwd
  go_enter Try.func19, Try.ntmps19
  go_wp2
  go_loopw [8, 19] (fun o i wr => ∃ (k : Nat) (qo : Option Addr) (co : Nat), k ≤ m ∧ i = .int .i64 k ∧ o = .slice qo k co ∧ Hid (Own2 25 5 wr (w.heap.size + 1) (.slice qo k co) k ((xss.take k).map (fitR wd))) ∧ Hid (Below w.heap.size w wr) ∧
    Hid (wr.heap[w.heap.size]? = some (.cells #[.int .i64 0, .int .i64 0, .slice none 0 0] 27 (0, 0)))) (fun _ i _ => m - (intOf i).toNat)
  case atStart => exact ⟨0, none, 0, Nat.zero_le _, rfl, rfl, Own2.nil _ _ _ _, HB0.out, hnew rfl⟩
  case round =>
    obtain ⟨k, qo, co, hk, rfl, rfl, hO, hB, hZ⟩ := hrel
    by_cases hlt : k < m
    · obtain ⟨b, o, q, mx, cx, row, rfl, hc, hs, hx⟩ := H.out.at k hlt
      have hcw := (hB.out.cell (p := ⟨b, o + k, none⟩) (lt_of_cell hc)).trans hc
      have HSW := Lib.hid (hs.keep hB.out)
      have kn : (k : Int) < (m : Int) := by omega
      have hstep : Hid ((xss.take (k + 1)).map (fitR wd) = (xss.take k).map (fitR wd) ++ [fitR wd row]) := take_map_succ' _ hx.out
      have hszw := (hB.out.size)
      have hzlt := Lib.hid (blk_lt hZ.out)
      have hmx := Lib.hid hs.len
      clear hc hs hx
      go_wp2_with (at_make; refine wpList_make_full _ rfl _ _ 25 rfl wr.heap.size 5 i0 (.int .u8 0) 1 Try.underlying25 hi0 hz0 hz1 .i64 .i64 _ _ wd rfl rfl rfl rfl (by rw [hz2]; exact HM2.out) HM1.out (Nat.le_refl _) ?_)
      intro w1 ho hg
      have HV : Hid (w1.heap[wr.heap.size]? = some (.cells (List.replicate wd (B8 0)).toArray 5 (0, 0))) := by
        have e : (madeCells #[Value.int .u8 0] wd).toList = List.replicate wd (B8 0) := toList_madeCells_one _ _
        rw [e] at ho
        exact heap_of_owns ho
      have B1 : Hid (Below wr.heap.size wr w1) := (Below.refl _ _).grown hg (Nat.le_refl _) (by simp)
      have HS1 := Lib.hid (HSW.out.keep B1.out)
      clear ho hg hcw
      have HE1 : Hid (((row.take wd).map B8).length = Nat.min mx wd) := by
        show _ = _
        rw [List.length_map, List.length_take, hmx.out, Nat.min_comm]
      have HE2 : Hid (0 < ((row.take wd).map B8).length → (some ⟨wr.heap.size, 0, none⟩ : Option Addr) = some ⟨wr.heap.size, 0, none⟩ ∧ ∃ ad, q = some ad ∧ ∀ (j : Nat) (v : Value), ((row.take wd).map B8)[j]? = some v → w1.cell? (ad.add j) = some v) := by
        intro hpos
        refine ⟨rfl, ?_⟩
        have hr0 : 0 < row.length := by rw [List.length_map, List.length_take] at hpos; omega
        obtain ⟨b', o', hp', hc'⟩ := HS1.out.rs 0 hr0
        refine ⟨⟨b', o', none⟩, hp', fun j v hj => ?_⟩
        have hjl := (List.getElem?_eq_some_iff.1 hj).1
        rw [List.length_map, List.length_take] at hjl
        obtain ⟨b2, o2, hp2, hc2⟩ := HS1.out.rs j (by omega)
        rw [hp'] at hp2; cases hp2
        rw [Addr.add_lit, hc2]
        rw [List.getElem?_map, List.getElem?_take, if_pos (by omega), List.getElem?_eq_getElem (by omega)] at hj
        exact hj
      have HE3 : Hid (0 + ((row.take wd).map B8).length ≤ (List.replicate wd (B8 0)).length) := by
        show _ ≤ _
        rw [List.length_map, List.length_take, List.length_replicate]; omega
      have HE4 : Hid (∀ v, v ∈ (row.take wd).map B8 → v.oneCell' = true) := by
        intro v hv
        obtain ⟨y, _, rfl⟩ := List.mem_map.1 hv
        rfl
      go_wp2_with (with_reducible refine wpList_copy_splice rfl (.tmp 25) (.tmp 26) 25 25 rfl 5 Try.underlying25 (by kernel_rfl) (some ⟨wr.heap.size, 0, none⟩) q wd wd mx cx rfl rfl wr.heap.size 0 (List.replicate wd (B8 0)) 5 HV.out ((row.take wd).map B8) HE1.out HE2.out HE3.out HE4.out wr.heap.size wr B1.out (Nat.le_refl _) ?_)
      intro w2 hv2 hb2
      have R2 : Hid (w2.ownsRow (w.heap.size + 1) 5 1 (.slice (some ⟨wr.heap.size, 0, none⟩) wd wd) wd ((fitR wd row).map B8)) := by
        have := hv2.out
        rw [← List.map_take, splice_fit] at this
        have h1 := hzlt.out
        exact owns_of_heap (by omega) this (by rw [List.length_map, fitR_len]) HM1.out
      have O2 := hO.out.keep hb2
      have B2 : Hid (Below w.heap.size w w2) := bl hB.out hb2 hszw
      have Z2 : Hid (w2.heap[w.heap.size]? = some (.cells #[.int .i64 0, .int .i64 0, .slice none 0 0] 27 (0, 0))) := (hb2.block _ hzlt.out).trans hZ.out
      have bal : ∀ (W : World) (o : Obj), Below W.heap.size W (W.alloc o) := fun W o => al (Below.refl _ _) (Nat.le_refl _)
      obtain ⟨vs, oA, lA, rA⟩ := O2
      have OA := Lib.hid oA; have LA := Lib.hid lA; have RA := Lib.hid rA
      have hO3 : Hid (∀ o, (w2.alloc o).ownsRow (w.heap.size + 1) 25 1 (.slice qo k co) k vs) := fun o => owns_keep OA.out (bal _ _)
      have HBAL := Lib.hid bal
      have hsz2 := hb2.size
      have hz1' := hzlt.out
      have nZ : Hid (∀ kk, (Value.slice qo k co).ownBlock = some kk → kk ≠ w.heap.size) := fun kk hk e => by have := (OA.out.lt kk hk).1; omega
      clear hv2 hb2 oA lA rA bal hO hB hZ HV B1 HS1 HSW hmx HE1 HE2 HE3 HE4
      go_wp2_with (at_builtin; refine wpList_append_own _ rfl _ _ 22 rfl (w.heap.size + 1) 25 r0 (.slice none 0 0) 1 24 Try.underlying22 hr0 hrz hr1 hr2 rfl (by omega) _ k _ rfl (hO3.out _) ⟨w2.heap.size, 0, none⟩ 1 1 [.slice (some ⟨wr.heap.size, 0, none⟩) wd wd] rfl rfl (one_cell' rfl) ?d2 ?d3 ?d4 ?d5 ?_)
      case d2 => intro y hy; simp at hy; subst hy; rfl
      case d3 => unfold maxLen; omega
      case d4 => omega
      case d5 => simp; omega
      intro v6 w6 ho6 hg6 _
      obtain ⟨q6, c6, rfl⟩ := owns_shape ho6
      have P6 : Hid (Own2 25 5 w6 (w.heap.size + 1) (.slice q6 (k + 1) c6) (k + 1) ((xss.take (k + 1)).map (fitR wd)) ∧ Below w.heap.size w w6 ∧ w6.heap[w.heap.size]? = some (.cells #[.int .i64 0, .int .i64 0, .slice none 0 0] 27 (0, 0))) := by
        refine ⟨?_, (al B2.out B2.out.size).grown hg6 (by have := B2.out.size; simp; omega) (fun kk hk => by have := (OA.out.lt kk hk).1; omega), ?_⟩
        · rw [hstep.out]
          exact Own2.push (by decide) LA.out (fun jj val hjj => by
            obtain ⟨xs, q, c', a, b, d⟩ := RA.out jj val hjj
            exact ⟨xs, q, c', a, b, owns_keep d (HBAL.out _ _)⟩) (hO3.out _) (owns_keep R2.out (HBAL.out _ _)) ho6 hg6
        · rw [hg6.block _ (by have := blk_lt Z2.out; simp; omega) (fun e => nZ.out _ e.symm rfl)]
          exact hal Z2.out
      clear ho6 hg6 hO3 OA LA RA R2 B2 Z2
      go_wp2
      go_roundw
      case rel => exact ⟨k + 1, q6, c6, by omega, by go_num, rfl, P6.out.1, P6.out.2.1, P6.out.2.2⟩
      case measure => simp [intOf]; omega
    · have hkm : k = m := by omega
      have hge : (m : Int) ≤ (k : Int) := by omega
      have OF : Hid (Own2 25 5 wr (w.heap.size + 1) (.slice qo m co) m (xss.map (fitR wd))) := by
        have := hO.out
        rw [hkm, List.take_of_length_le (by rw [HLEN.out]; exact Nat.le_refl _)] at this; exact this
      have HOF : Hid (∀ W, Sl2 W qo m co (xss.map (fitR wd)) → Calls Try.prog 11 #[.int .i64 wd, .slice qo m co] W (RetG2 5 W m wd (xss.map (fitR wd)).flatten 0)) := fun W h =>
        GOf_good wd qo m co _ W h (by omega) (by omega) (by have : m * wd ≤ 30 * 30 := Nat.mul_le_mul hm hw; omega) (by
          rw [List.all_eq_true]
          intro y hy
          obtain ⟨r, _, rfl⟩ := List.mem_map.1 hy
          exact decide_eq_true (fitR_len wd r))
      subst hkm
      clear hO
      go_wp2_with fail
      refine Calls.mono (HOF.out _ OF.out.sl2) ?_
      rintro e w2 ⟨q2, n2, c2, hn2, rfl, ho2, hb2⟩
      have O2 := Lib.hid (OF.out.keep hb2)
      have B2 := Lib.hid (bl hB.out hb2 hB.out.size)
      have hszw := hB.out.size
      have hzlt := blk_lt hZ.out
      have Z2 : Hid (w2.heap[w.heap.size]? = some (.cells #[.int .i64 0, .int .i64 0, .slice none 0 0] 27 (0, 0))) := (hb2.block _ (blk_lt hZ.out)).trans hZ.out
      have HO2 : Hid (w2.ownsRow (w.heap.size + 1) 5 1 (.slice q2 n2 c2) n2 ((xss.map (fitR wd)).flatten.map B8)) := owns_mono ho2 (by omega)
      have HN2 := Lib.hid hn2
      clear ho2 hb2 hB hZ OF HOF hn2
      obtain ⟨f0, f1, f2⟩ := cells3 (hal (o := .cells #[.int .i64 k, .int .i64 wd, .slice q2 n2 c2] 27) Z2.out)
      have z0 := frozen_of_row _ _ 0 _ _ (hal (o := .cells #[.int .i64 k, .int .i64 wd, .slice q2 n2 c2] 27) Z2.out)
      have z1 := frozen_of_row _ _ 1 _ _ (hal (o := .cells #[.int .i64 k, .int .i64 wd, .slice q2 n2 c2] 27) Z2.out)
      have z2 := frozen_of_row _ _ 2 _ _ (hal (o := .cells #[.int .i64 k, .int .i64 wd, .slice q2 n2 c2] 27) Z2.out)
      go_wp2
      refine bodyPost_ret (results_cell_tmp2 rfl _ _ _ 27 #[.int .i64 k, .int .i64 wd, .slice q2 n2 c2] (0, 0) _ (.slice qo k co) (.int .i64 wd) rfl (hss (hss (hss (hal Z2.out)))) rfl rfl Try.underlying27 rfl hinfo) rfl ⟨q2, n2, c2, qo, co, HN2.out, rfl, ?_, ?_, (((al B2.out B2.out.size).setCell (Nat.le_refl _) _).setCell (Nat.le_refl _) _).setCell (Nat.le_refl _) _⟩
      · exact owns_mono (owns_set (owns_set (owns_set (owns_keep HO2.out (al (Below.refl _ _) (Nat.le_refl _))) (by omega)) (by omega)) (by omega)) (by omega)
      · have key : ∀ (W : World) (u : Value) (i : Nat) (T : TypeId) (cs : Array Value), W.heap[w.heap.size]? = some (.cells cs T (0, 0)) → Own2 25 5 W (w.heap.size + 1) (.slice qo k co) k (xss.map (fitR wd)) → Own2 25 5 (W.setCell ⟨w.heap.size, i, none⟩ u) (w.heap.size + 1) (.slice qo k co) k (xss.map (fitR wd)) := by
          intro W u i T cs hW ⟨vs, oA, lA, rA⟩
          exact ⟨vs, owns_set oA (by omega), lA, fun jj val hjj => by
            obtain ⟨xs, q, c', a, b, d⟩ := rA jj val hjj
            exact ⟨xs, q, c', a, b, owns_set d (by omega)⟩⟩
        have mono : ∀ (W : World), Own2 25 5 W (w.heap.size + 1) (.slice qo k co) k (xss.map (fitR wd)) → Own2 25 5 W w.heap.size (.slice qo k co) k (xss.map (fitR wd)) := by
          intro W ⟨vs, oA, lA, rA⟩
          exact ⟨vs, owns_mono oA (by omega), lA, fun jj val hjj => by
            obtain ⟨xs, q, c', a, b, d⟩ := rA jj val hjj
            exact ⟨xs, q, c', a, b, owns_mono d (by omega)⟩⟩
        exact mono _ (key _ _ _ _ _ (hss (hss (hal Z2.out))) (key _ _ _ _ _ (hss (hal Z2.out)) (key _ _ _ _ _ (hal Z2.out) (O2.out.keep (al (Below.refl _ _) (Nat.le_refl _))))))
end Go.Proofs.Ytofhdakggapahaa
namespace Go.By
open Go.RowKit
theorem grownBy_setRow (w : World) (g : Nat) (cs : Array Value) : w.grownBy (w.setRow g cs) (some g) :=
  ⟨rfl, rfl, rfl, by simp [World.setRow], fun b _ hne => by
    simp only [World.setRow, Array.getElem?_modify]
    rw [if_neg (fun e => hne (by rw [e]))]⟩
theorem take_splice {α : Type} (cur cs : List α) (off n : Nat) (h1 : off + cs.length ≤ n) (h2 : n ≤ cur.length) : (cur.take off ++ (cs ++ cur.drop (off + cs.length))).take n = (cur.take n).take off ++ (cs ++ (cur.take n).drop (off + cs.length)) := by
  have l1 : (cur.take off).length = off := by rw [List.length_take]; omega
  rw [List.take_append, l1, List.take_of_length_le (by omega), List.take_take, Nat.min_eq_left (by omega)]
  congr 1
  rw [List.take_append, List.take_of_length_le (by omega)]
  congr 1
  rw [List.drop_take]
  congr 1
  omega
theorem owns_splice {w : World} {base E g n cap off : Nat} {L cs : List Value} (h : w.ownsRow base E 1 (.slice (some ⟨g, 0, none⟩) n cap) n L) (hfit : off + cs.length ≤ n) :
    ∃ cur : Array Value, w.heap[g]? = some (.cells cur E (0, 0)) ∧ off + cs.length ≤ cur.size ∧ (w.setRow g (cur.toList.take off ++ (cs ++ cur.toList.drop (off + cs.length))).toArray).ownsRow base E 1 (.slice (some ⟨g, 0, none⟩) n cap) n (L.take off ++ (cs ++ L.drop (off + cs.length))) := by
  rcases h.2 with ⟨h1, _⟩ | ⟨g', cap', cur, hv, hb, hh, hle, hm, hs, ht⟩
  · cases h1
  · cases hv
    have hsz : cur.toList.length = cap := by simpa using hs
    have hL := h.1
    refine ⟨cur, hh, by simp at hsz; omega, ?_, .inr ⟨g, cap, _, rfl, hb, hrs hh, hle, hm, ?_, ?_⟩⟩
    · simp only [List.length_append, List.length_take, List.length_drop]; omega
    · simp only [List.size_toArray, List.length_append, List.length_take, List.length_drop]; omega
    · rw [Nat.mul_one] at ht ⊢
      rw [List.toList_toArray, take_splice _ _ _ _ hfit (by omega), ht]
end Go.By
namespace Go.Proofs.Ytofhdakggapahaa
open Go.RowKit Go.By
theorem rowF_len2 {h wd i : Nat} {cells : List UInt8} (hl : cells.length = h * wd) (hi : i < h) : (rowF wd cells i).length = wd := by
  have : (i + 1) * wd ≤ h * wd := Nat.mul_le_mul_right _ hi
  rw [Nat.add_mul, Nat.one_mul] at this
  unfold rowF; rw [List.length_take, List.length_drop]; omega
def mulR (w2 : Nat) (R2 : List (List UInt8)) (r : List UInt8) : List UInt8 := combF (List.replicate w2 0) r R2
theorem mulR_len {w2 : Nat} {R2 : List (List UInt8)} (h : ∀ x, x ∈ R2 → x.length = w2) (r : List UInt8) : (mulR w2 R2 r).length = w2 := combF_len r R2 w2 h _ (by simp)
theorem comb_ok {w2 : Nat} {R2 : List (List UInt8)} {r : List UInt8} (h : ∀ x, x ∈ R2 → x.length = w2) (hl : r.length = R2.length) : combS r R2 = (if R2 = [] then [] else mulR w2 R2 r, 0) := by
  unfold combS
  rw [if_pos hl]
  cases R2 with
  | nil =>
    have : r = [] := List.length_eq_zero_iff.1 (by simpa using hl)
    subst this
    simp [noughtS, combF]
  | cons x l =>
    have hx := h x (by simp)
    have e : noughtS (x :: l) = (List.replicate w2 0, 0) := noughtS_of (x0 := x) rfl hx h
    rw [e, if_pos rfl, if_neg (by simp)]
    rfl
/-- the product's cells behind so many rows -/
def mulC (w2 h1 : Nat) (R2 R1 : List (List UInt8)) (k : Nat) : List UInt8 := ((R1.take k).map (mulR w2 R2)).flatten ++ List.replicate ((h1 - k) * w2) 0
theorem mul_flat_len {w2 : Nat} {R2 : List (List UInt8)} (h : ∀ x, x ∈ R2 → x.length = w2) : ∀ l : List (List UInt8), ((l.map (mulR w2 R2)).flatten).length = l.length * w2
  | [] => by simp
  | x :: l => by
    rw [List.map_cons, List.flatten_cons, List.length_append, mulR_len h, mul_flat_len h l, List.length_cons, Nat.add_mul]; omega
theorem mulC_len {w2 h1 k : Nat} {R2 R1 : List (List UInt8)} (h : ∀ x, x ∈ R2 → x.length = w2) (h1l : R1.length = h1) (hk : k ≤ h1) : (mulC w2 h1 R2 R1 k).length = h1 * w2 := by
  unfold mulC
  rw [List.length_append, mul_flat_len h, List.length_replicate, List.length_take, h1l, Nat.min_eq_left hk, ← Nat.add_mul]
  congr 1; omega
theorem mulC_step {w2 h1 k : Nat} {R2 R1 : List (List UInt8)} {r : List UInt8} (h : ∀ x, x ∈ R2 → x.length = w2) (h1l : R1.length = h1) (hk : k < h1) (hr : R1[k]? = some r) :
    (mulC w2 h1 R2 R1 k).take (k * w2) ++ (mulR w2 R2 r ++ (mulC w2 h1 R2 R1 k).drop (k * w2 + w2)) = mulC w2 h1 R2 R1 (k + 1) := by
  have hl : (((R1.take k).map (mulR w2 R2)).flatten).length = k * w2 := by rw [mul_flat_len h, List.length_take, h1l, Nat.min_eq_left (by omega)]
  unfold mulC
  rw [← hl, List.take_left, ← List.drop_drop, List.drop_left, List.drop_replicate]
  rw [List.take_add_one, hr, List.map_append, List.flatten_append]
  simp only [Option.toList_some, List.map_cons, List.map_nil, List.flatten_cons, List.flatten_nil, List.append_nil, List.append_assoc]
  congr 3
  have : (h1 - k) * w2 = (h1 - (k + 1)) * w2 + w2 := by rw [← Nat.succ_mul]; congr 1; omega
  omega
theorem mulC_skip {w2 h1 k : Nat} {R2 R1 : List (List UInt8)} {r : List UInt8} (h2 : R2 = []) (hk : k < h1) (h1l : R1.length = h1) (hr : R1[k]? = some r) : mulC w2 h1 R2 R1 k = mulC w2 h1 R2 R1 (k + 1) := by
  subst h2
  have e : mulR w2 [] r = List.replicate w2 0 := by unfold mulR combF; simp
  unfold mulC
  rw [List.take_add_one, hr, List.map_append, List.flatten_append]
  simp only [Option.toList_some, List.map_cons, List.map_nil, List.flatten_cons, List.flatten_nil, List.append_nil, List.append_assoc]
  rw [e, List.replicate_append_replicate]
  congr 2
  have : (h1 - k) * w2 = (h1 - (k + 1)) * w2 + w2 := by rw [← Nat.succ_mul]; congr 1; omega
  omega
theorem mulC_zero (h1 k : Nat) (R2 R1 : List (List UInt8)) (h : ∀ x, x ∈ R2 → x.length = 0) (h1l : R1.length = h1) (hk : k ≤ h1) : mulC 0 h1 R2 R1 k = [] := List.length_eq_zero_iff.1 (by rw [mulC_len h h1l hk, Nat.mul_zero])
theorem own2_setRow {T2 T1 base n g : Nat} {W : World} {v : Value} {xss : List (List UInt8)} {cs : Array Value} (h : Own2 T2 T1 W base v n xss) (hg : g < base) : Own2 T2 T1 (W.setRow g cs) base v n xss := by
  obtain ⟨vs, oA, lA, rA⟩ := h
  have key : ∀ {e : TypeId} {u : Value} {m : Nat} {L : List Value}, W.ownsRow base e 1 u m L → (W.setRow g cs).ownsRow base e 1 u m L := fun o => owns_kept o (grownBy_setRow W g cs) (fun k hk e => by
    have := (o.lt k hk).1; injection e with e; omega)
  exact ⟨vs, key oA, lA, fun j val hj => by obtain ⟨xs, q, c', a, b, d⟩ := rA j val hj; exact ⟨xs, q, c', a, b, key d⟩⟩
set_option maxRecDepth 100000 in
set_option maxHeartbeats 4000000 in
theorem GMul_size (h1 w1 h2 w2 : Nat) (p1 p2 : Option Addr) (n1 c1 n2 c2 : Nat) (w : World) (hne : w1 ≠ h2) :
    Calls Try.prog 22 #[.agg #[.int .i64 h1, .int .i64 w1, .slice p1 n1 c1], .agg #[.int .i64 h2, .int .i64 w2, .slice p2 n2 c2]] w (RetG2 5 w 0 0 [] 4) := by
  have hinfo := info_grid
  have hd : ((w1 : Int) != (h2 : Int)) = true := by simp; omega
  have HB : Hid (∀ o1 o2 o3, Below w.heap.size w (((w.alloc o1).alloc o2).alloc o3)) := fun o1 o2 o3 => al (al (al (Below.refl _ _) (Nat.le_refl _)) (by simp)) (by simp; omega)
  have HX : Hid (∀ o1 o2, (((w.alloc o1).alloc o2).alloc (.cells #[.int .i64 0, .int .i64 0, .slice none 0 0] 27)).heap[w.heap.size + 1 + 1]? = some (.cells #[.int .i64 0, .int .i64 0, .slice none 0 0] 27 (0, 0))) := fun o1 o2 => hnew (by simp)
  clear hne
  go_enter Try.func22, Try.ntmps22
  go_wp2
  refine bodyPost_ret (results_cell_tmp rfl _ _ _ 27 #[.int .i64 0, .int .i64 0, .slice none 0 0] (0, 0) _ (.int .i64 4) rfl (HX.out _ _) rfl Try.underlying27 rfl hinfo) rfl (RetG2.zero (HB.out _ _ _))
set_option maxRecDepth 100000 in
set_option maxHeartbeats 4000000 in
theorem GMul_any (h1 h2 w2 : Nat) (p1 p2 : Option Addr) (n1 c1 n2 c2 : Nat) (C1 C2 : List UInt8) (R1 R2 : List (List UInt8)) (w : World) (s1 : Sl B8 w p1 n1 c1 C1) (s2 : Sl B8 w p2 n2 c2 C2) (e1 : n1 = h1 * h2) (e2 : n2 = h2 * w2)
    (r1 : (List.range h1).map (rowF h2 C1) = R1) (r2 : (List.range h2).map (rowF w2 C2) = R2) (b1 : h1 ≤ 4096) (b2 : h2 ≤ 4096) (b3 : w2 ≤ 4096) (bm : h1 * w2 ≤ 65536) :
    Calls Try.prog 22 #[.agg #[.int .i64 h1, .int .i64 h2, .slice p1 n1 c1], .agg #[.int .i64 h2, .int .i64 w2, .slice p2 n2 c2]] w (RetG2 5 w h1 w2 (R1.map (mulR w2 R2)).flatten 0) := by
  have hinfo := info_grid
  have hR2 : ∀ x, x ∈ R2 → x.length = w2 := fun x hx => by
    rw [← r2] at hx
    obtain ⟨i, hi, rfl⟩ := List.mem_map.1 hx
    exact rowF_len2 (by rw [s2.len, e2]) (List.mem_range.1 hi)
  have HR2 := Lib.hid hR2
  have HR1L : Hid (R1.length = h1) := by show _ = _; rw [← r1]; simp
  have HR2L : Hid (R2.length = h2) := by show _ = _; rw [← r2]; simp
  have HR1 : Hid (∀ k, k < h1 → R1[k]? = some (rowF h2 C1 k)) := fun k hk => by rw [← r1, List.getElem?_map, List.getElem?_range hk]; rfl
  have HRL : Hid (∀ k, k < h1 → (rowF h2 C1 k).length = h2) := fun k hk => rowF_len2 (by rw [s1.len, e1]) hk
  have HGR : Hid (∀ W, Sl B8 W p2 n2 c2 C2 → Calls Try.prog 17 #[.agg #[.int .i64 h2, .int .i64 w2, .slice p2 n2 c2]] W fun e w' => ∃ q c', e = .returned (.slice q h2 c') ∧ Own2 25 5 w' W.heap.size (.slice q h2 c') h2 R2 ∧ Below W.heap.size W w') := fun W hs => by
    have := GRows_any h2 w2 p2 n2 c2 C2 W hs e2 (by unfold Room; omega) (by unfold Room; omega)
    rwa [r2] at this
  have HBL := Lib.hid (fun W => blank_any h1 w2 W (show Room (h1 * w2) by unfold Room; omega) (by omega) (by omega))
  have S1 := Lib.hid s1; have S2 := Lib.hid s2; have E1 := Lib.hid e1
  obtain ⟨N, hN⟩ : ∃ N, N = h1 * w2 := ⟨_, rfl⟩
  have wm : IntKind.i64.wrap ((h1 : Int) * (w2 : Int)) = ((N : Nat) : Int) := by rw [hN, ← Int.natCast_mul]; exact Go.IntWalk.i64_in _ (by omega)
  have HNE := Lib.hid hN
  have hN2 : (N : Int) ≤ 65536 := by omega
  have HB0 : Hid (∀ o1 o2 o3, Below w.heap.size w (((w.alloc o1).alloc o2).alloc o3)) := fun o1 o2 o3 => al (al (al (Below.refl _ _) (Nat.le_refl _)) (by simp)) (by simp; omega)
  clear hR2 r1 r2 s1 s2 e1 e2 hN bm
  go_enter Try.func22, Try.ntmps22
  go_wp2_with fail
  refine use_w1 (fun W => Below w.heap.size w W ∧ W.heap[w.heap.size]? = some (.cells #[.int .i64 h1, .int .i64 h2, .slice p1 n1 c1] 27 (0, 0)) ∧ W.heap[w.heap.size + 1]? = some (.cells #[.int .i64 h2, .int .i64 w2, .slice p2 n2 c2] 27 (0, 0)) ∧ W.heap[w.heap.size + 1 + 1]? = some (.cells #[.int .i64 0, .int .i64 0, .slice none 0 0] 27 (0, 0)) ∧ w.heap.size + 3 ≤ W.heap.size) ⟨HB0.out _ _ _, hal (hal (hnew rfl)), hal (hnew (by simp)), hnew (by simp), by simp⟩ ?_
  rintro w0 ⟨b0, x0, y0, z0, s0⟩
  refine Calls.mono (HBL.out _) ?_; rintro e wA ⟨q, nP, cP, hnP, rfl, ho, hb⟩
  obtain rfl : nP = N := hnP.trans HNE.out.symm
  have XA : Hid (wA.heap[w.heap.size]? = some (.cells #[.int .i64 h1, .int .i64 h2, .slice p1 n1 c1] 27 (0, 0))) := (hb.block _ (blk_lt x0)).trans x0
  have YA : Hid (wA.heap[w.heap.size + 1]? = some (.cells #[.int .i64 h2, .int .i64 w2, .slice p2 n2 c2] 27 (0, 0))) := (hb.block _ (blk_lt y0)).trans y0
  have ZA : Hid (wA.heap[w.heap.size + 1 + 1]? = some (.cells #[.int .i64 0, .int .i64 0, .slice none 0 0] 27 (0, 0))) := (hb.block _ (blk_lt z0)).trans z0
  have KA : Hid (Below w.heap.size w wA) := bl b0 hb b0.size
  have OA : Hid (wA.ownsRow (w.heap.size + 3) 5 1 (.slice q nP cP) nP ((mulC w2 h1 R2 R1 0).map B8)) := by
    show World.ownsRow _ _ _ _ _ _ _
    unfold mulC
    rw [List.take_zero, List.map_nil, List.flatten_nil, List.nil_append, Nat.sub_zero]
    exact owns_mono ho s0
  have hsA : Hid (w.heap.size + 3 ≤ wA.heap.size) := Nat.le_trans s0 hb.size
  clear b0 x0 y0 z0 s0 ho hb hnP HB0 HBL
  obtain ⟨f0, f1, f2⟩ := cells3 (hal (o := .cells #[.int .i64 h1, .int .i64 w2, .slice q nP cP] 27) YA.out)
  go_wp2_with fail
  refine use_w1 (fun W => Below wA.heap.size wA W ∧ W.heap[wA.heap.size]? = some (.cells #[.int .i64 h1, .int .i64 w2, .slice q nP cP] 27 (0, 0)) ∧ wA.heap.size + 1 ≤ W.heap.size) ⟨al (Below.refl _ _) (Nat.le_refl _), hnew rfl, by simp⟩ ?_
  rintro wB ⟨bB, xB, sB⟩
  refine Calls.mono (HGR.out _ (S2.out.keep (bl KA.out bB KA.out.size))) ?_; rintro e wC ⟨qR, cR, rfl, hoR, hbR⟩
  have bAC := bl bB hbR bB.size
  have XC : Hid (wC.heap[w.heap.size]? = some (.cells #[.int .i64 h1, .int .i64 h2, .slice p1 n1 c1] 27 (0, 0))) := (bAC.block _ (blk_lt XA.out)).trans XA.out
  have ZC : Hid (wC.heap[w.heap.size + 1 + 1]? = some (.cells #[.int .i64 0, .int .i64 0, .slice none 0 0] 27 (0, 0))) := (bAC.block _ (blk_lt ZA.out)).trans ZA.out
  have PC : Hid (wC.heap[wA.heap.size]? = some (.cells #[.int .i64 h1, .int .i64 w2, .slice q nP cP] 27 (0, 0))) := (hbR.block _ (blk_lt xB)).trans xB
  have KC : Hid (Below w.heap.size w wC) := bl KA.out bAC KA.out.size
  have OC : Hid (wC.ownsRow (w.heap.size + 3) 5 1 (.slice q nP cP) nP ((mulC w2 h1 R2 R1 0).map B8)) := owns_keep OA.out bAC
  have RC : Hid (Own2 25 5 wC wB.heap.size (.slice qR h2 cR) h2 R2) := hoR
  have HGA : Hid (∀ g, (Value.slice q nP cP).ownBlock = some g → g < wA.heap.size) := fun g hg => (OA.out.lt g hg).2
  have HSB := Lib.hid sB
  clear bB xB sB hoR hbR bAC XA YA ZA KA OA f0 f1 f2
  obtain ⟨f0, f1, f2⟩ := cells3 XC.out
  go_wp2
  clear f0 f1 f2
  go_loopw [33] (fun i wr => ∃ k : Nat, k ≤ h1 ∧ i = .int .i64 k ∧ Hid (wr.ownsRow (w.heap.size + 3) 5 1 (.slice q nP cP) nP ((mulC w2 h1 R2 R1 k).map B8)) ∧ Hid (Below w.heap.size w wr) ∧
    Hid (wr.heap[wA.heap.size]? = some (.cells #[.int .i64 h1, .int .i64 w2, .slice q nP cP] 27 (0, 0))) ∧ Hid (wr.heap[w.heap.size]? = some (.cells #[.int .i64 h1, .int .i64 h2, .slice p1 n1 c1] 27 (0, 0))) ∧
    Hid (wr.heap[w.heap.size + 1 + 1]? = some (.cells #[.int .i64 0, .int .i64 0, .slice none 0 0] 27 (0, 0))) ∧ Hid (Own2 25 5 wr wB.heap.size (.slice qR h2 cR) h2 R2)) (fun i _ => h1 - (intOf i).toNat)
  case atStart => exact ⟨0, Nat.zero_le _, rfl, OC.out, KC.out, PC.out, XC.out, ZC.out, RC.out⟩
  case round =>
    clear OC KC PC XC ZC RC
    obtain ⟨k, hk, rfl, hO, hB, hP, hX, hZ, hR⟩ := hrel
    by_cases hlt : k < h1
    · obtain ⟨f0, f1, f2⟩ := cells3 hX.out
      go_wp2_with fail
      refine Calls.mono (row_any h1 h2 k p1 n1 c1 C1 wr (S1.out.keep hB.out) E1.out hlt (by omega)) ?_
      rintro e wa ⟨qa, ca, rfl, hsa, -, hba⟩
      have Ra := hR.out.keep hba
      clear f0 f1 f2
      go_wp2_with fail
      refine Calls.mono (Comb_any qa qR h2 h2 ca cR (rowF h2 C1 k) R2 wa hsa Ra.sl2 (fun xs hx => by rw [HR2.out xs hx]; unfold Room; omega)) ?_
      rw [comb_ok HR2.out (by rw [HRL.out k hlt, HR2L.out])]
      rintro e wb ⟨qs, ms, cs, hms, rfl, hos, hbs⟩
      have hbb := bl hba hbs hba.size
      have O2 : Hid (wb.ownsRow (w.heap.size + 3) 5 1 (.slice q nP cP) nP ((mulC w2 h1 R2 R1 k).map B8)) := owns_keep hO.out hbb
      have B2 : Hid (Below w.heap.size w wb) := bl hB.out hbb hB.out.size
      have P2 : Hid (wb.heap[wA.heap.size]? = some (.cells #[.int .i64 h1, .int .i64 w2, .slice q nP cP] 27 (0, 0))) := (hbb.block _ (blk_lt hP.out)).trans hP.out
      have X2 : Hid (wb.heap[w.heap.size]? = some (.cells #[.int .i64 h1, .int .i64 h2, .slice p1 n1 c1] 27 (0, 0))) := (hbb.block _ (blk_lt hX.out)).trans hX.out
      have Z2 : Hid (wb.heap[w.heap.size + 1 + 1]? = some (.cells #[.int .i64 0, .int .i64 0, .slice none 0 0] 27 (0, 0))) := (hbb.block _ (blk_lt hZ.out)).trans hZ.out
      have R2' : Hid (Own2 25 5 wb wB.heap.size (.slice qR h2 cR) h2 R2) := hR.out.keep hbb
      have SS := Lib.hid (Sl.of_owns hos); have HMS := Lib.hid hms
      clear hO hB hP hX hZ hR Ra hsa hba hbs hbb hos hms
      obtain ⟨f0, f1, f2⟩ := cells3 P2.out
      go_wp2_with fail
      refine Calls.mono (row_any h1 w2 k q nP cP (mulC w2 h1 R2 R1 k) wb (Sl.of_owns O2.out) HNE.out hlt (by omega)) ?_
      rintro e wc ⟨qc, cc, rfl, -, hqc, hbc⟩
      have O3 : Hid (wc.ownsRow (w.heap.size + 3) 5 1 (.slice q nP cP) nP ((mulC w2 h1 R2 R1 k).map B8)) := owns_keep O2.out hbc
      have B3 : Hid (Below w.heap.size w wc) := bl B2.out hbc B2.out.size
      have P3 : Hid (wc.heap[wA.heap.size]? = some (.cells #[.int .i64 h1, .int .i64 w2, .slice q nP cP] 27 (0, 0))) := (hbc.block _ (blk_lt P2.out)).trans P2.out
      have X3 : Hid (wc.heap[w.heap.size]? = some (.cells #[.int .i64 h1, .int .i64 h2, .slice p1 n1 c1] 27 (0, 0))) := (hbc.block _ (blk_lt X2.out)).trans X2.out
      have Z3 : Hid (wc.heap[w.heap.size + 1 + 1]? = some (.cells #[.int .i64 0, .int .i64 0, .slice none 0 0] 27 (0, 0))) := (hbc.block _ (blk_lt Z2.out)).trans Z2.out
      have R3 : Hid (Own2 25 5 wc wB.heap.size (.slice qR h2 cR) h2 R2) := R2'.out.keep hbc
      have SS3 := Lib.hid (SS.out.keep hbc)
      have HQC := Lib.hid hqc
      clear O2 B2 P2 X2 Z2 R2' SS hqc hbc f0 f1 f2
      by_cases hnz : w2 = 0 ∨ R2 = []
      · have hmin : Nat.min ms w2 = 0 := by
          rcases hnz with h0 | h0
          · rw [h0]; exact Nat.min_zero _
          · have := HMS.out; rw [if_pos h0] at this; rw [← this]; exact Nat.zero_min _
        have O4 : Hid (wc.ownsRow (w.heap.size + 3) 5 1 (.slice q nP cP) nP ((mulC w2 h1 R2 R1 (k + 1)).map B8)) := by
          show World.ownsRow _ _ _ _ _ _ _
          rcases hnz with h0 | h0
          · have h3 := O3.out
            subst h0
            rw [mulC_zero h1 k R2 R1 HR2.out HR1L.out (by omega)] at h3
            rw [mulC_zero h1 (k + 1) R2 R1 HR2.out HR1L.out (by omega)]; exact h3
          · rw [← mulC_skip h0 hlt HR1L.out (HR1.out k hlt)]; exact O3.out
        have HMIN := Lib.hid hmin
        clear hmin hnz O3
        go_wp2_with (with_reducible refine wpList_copy_nothing rfl (.tmp 50) (.tmp 51) 25 25 rfl 5 Try.underlying25 (by kernel_rfl) qc qs w2 cc ms cs rfl rfl HMIN.out ?_)
        go_wp2
        go_roundw
        case rel => exact ⟨k + 1, by omega, by go_num, O4.out, B3.out, P3.out, X3.out, Z3.out, R3.out⟩
        case measure => simp [intOf]; omega
      · have hw0 : 0 < w2 := by
          rcases Nat.eq_zero_or_pos w2 with h | h
          · exact absurd (.inl h) hnz
          · exact h
        have hne : R2 ≠ [] := fun h => hnz (.inr h)
        have hms : ms = w2 := by have := HMS.out; rw [if_neg hne, mulR_len HR2.out] at this; exact this.symm
        rw [if_neg hne] at SS3
        subst hms
        have hpos : 0 < nP := by rw [HNE.out]; exact Nat.mul_pos (by omega) hw0
        obtain ⟨g, rfl, hg1, hg2⟩ := owns_at O3.out hpos
        have hqc := HQC.out hw0 g 0 rfl
        rw [Nat.zero_add] at hqc
        subst hqc
        have hgA := HGA.out g rfl
        obtain ⟨bs, os, hqs, hc0⟩ := SS3.out.rs 0 (by rw [SS3.out.len]; exact hw0)
        subst hqs
        clear hc0
        have hlen : ((mulR ms R2 (rowF h2 C1 k)).map B8).length = ms := by rw [List.length_map, mulR_len HR2.out]
        have hfit : k * ms + ((mulR ms R2 (rowF h2 C1 k)).map B8).length ≤ nP := by
          rw [hlen, HNE.out]
          have : (k + 1) * ms ≤ h1 * ms := Nat.mul_le_mul_right _ hlt
          rw [Nat.add_mul, Nat.one_mul] at this; exact this
        obtain ⟨cur, hcur, hcs, hown⟩ := owns_splice (off := k * ms) (cs := (mulR ms R2 (rowF h2 C1 k)).map B8) O3.out hfit
        have hO4 : Hid ((wc.setRow g (cur.toList.take (k * ms) ++ ((mulR ms R2 (rowF h2 C1 k)).map B8 ++ cur.toList.drop (k * ms + ((mulR ms R2 (rowF h2 C1 k)).map B8).length))).toArray).ownsRow (w.heap.size + 3) 5 1 (.slice (some ⟨g, 0, none⟩) nP cP) nP ((mulC ms h1 R2 R1 (k + 1)).map B8)) := by
          show World.ownsRow _ _ _ _ _ _ _
          rw [← mulC_step HR2.out HR1L.out hlt (HR1.out k hlt), List.map_append, List.map_append, List.map_take, List.map_drop]
          rw [hlen] at hown ⊢
          exact hown
        have HCUR := Lib.hid hcur; have HCS := Lib.hid hcs
        have HE1 : Hid (((mulR ms R2 (rowF h2 C1 k)).map B8).length = Nat.min ms ms) := hlen.trans (Nat.min_self ms).symm
        have HE2 : Hid (∀ (j : Nat) (v : Value), ((mulR ms R2 (rowF h2 C1 k)).map B8)[j]? = some v → wc.cell? ((⟨bs, os, none⟩ : Addr).add j) = some v) := fun j v hj => by
          have hjl := (List.getElem?_eq_some_iff.1 hj).1
          rw [List.length_map] at hjl
          obtain ⟨b2, o2, hp2, hc2⟩ := SS3.out.rs j hjl
          cases hp2
          rw [Addr.add_lit, hc2]
          rw [List.getElem?_map, List.getElem?_eq_getElem hjl] at hj
          exact hj
        have HE4 : Hid (∀ v, v ∈ (mulR ms R2 (rowF h2 C1 k)).map B8 → v.oneCell' = true) := by
          intro v hv
          obtain ⟨y, _, rfl⟩ := List.mem_map.1 hv
          rfl
        have hgB : g < wB.heap.size := by have := HSB.out; omega
        have hga : wA.heap.size ≠ g := by omega
        have hgw : w.heap.size ≠ g := by omega
        have hgz : w.heap.size + 1 + 1 ≠ g := by omega
        generalize (mulR ms R2 (rowF h2 C1 k)).map B8 = CS at *
        have P4 : Hid (Below w.heap.size w (wc.setRow g (cur.toList.take (k * ms) ++ (CS ++ cur.toList.drop (k * ms + CS.length))).toArray) ∧
            (wc.setRow g (cur.toList.take (k * ms) ++ (CS ++ cur.toList.drop (k * ms + CS.length))).toArray).heap[wA.heap.size]? = some (.cells #[.int .i64 h1, .int .i64 ms, .slice (some ⟨g, 0, none⟩) nP cP] 27 (0, 0)) ∧
            (wc.setRow g (cur.toList.take (k * ms) ++ (CS ++ cur.toList.drop (k * ms + CS.length))).toArray).heap[w.heap.size]? = some (.cells #[.int .i64 h1, .int .i64 h2, .slice p1 n1 c1] 27 (0, 0)) ∧
            (wc.setRow g (cur.toList.take (k * ms) ++ (CS ++ cur.toList.drop (k * ms + CS.length))).toArray).heap[w.heap.size + 1 + 1]? = some (.cells #[.int .i64 0, .int .i64 0, .slice none 0 0] 27 (0, 0)) ∧
            Own2 25 5 (wc.setRow g (cur.toList.take (k * ms) ++ (CS ++ cur.toList.drop (k * ms + CS.length))).toArray) wB.heap.size (.slice qR h2 cR) h2 R2) :=
          ⟨B3.out.grown (grownBy_setRow _ _ _) B3.out.size (fun kk hk => by injection hk with hk; omega), hro P3.out hga, hro X3.out hgw, hro Z3.out hgz, own2_setRow R3.out hgB⟩
        clear O3 B3 P3 X3 Z3 R3 SS3 HMS HQC hnz hne hlen hfit hown hcur hcs hpos
        go_wp2_with (with_reducible refine wpList_copy_own rfl (.tmp 50) (.tmp 51) 25 25 rfl 5 Try.underlying25 (by kernel_rfl) g (k * ms) ms cc ⟨bs, os, none⟩ ms cs rfl rfl cur 5 HCUR.out CS HE1.out HE2.out HCS.out HE4.out ?_)
        clear HCUR HCS HE1 HE2 HE4
        generalize wc.setRow g (cur.toList.take (k * ms) ++ (CS ++ cur.toList.drop (k * ms + CS.length))).toArray = wd at hO4 P4 ⊢
        go_wp2
        go_roundw
        case rel => exact ⟨k + 1, by omega, by go_num, hO4.out, P4.out.1, P4.out.2.1, P4.out.2.2.1, P4.out.2.2.2.1, P4.out.2.2.2.2⟩
        case measure => simp [intOf]; omega
    · have hkh : k = h1 := by omega
      obtain ⟨y0, y1, y2⟩ := cells3 hP.out
      obtain ⟨f0, f1, f2⟩ := cells3 hZ.out
      have z0 := frozen_of_row _ _ 0 _ _ hZ.out
      have z1 := frozen_of_row _ _ 1 _ _ hZ.out
      have z2 := frozen_of_row _ _ 2 _ _ hZ.out
      have hge : (h1 : Int) ≤ (k : Int) := by omega
      have OF : Hid (wr.ownsRow (w.heap.size + 3) 5 1 (.slice q nP cP) nP ((R1.map (mulR w2 R2)).flatten.map B8)) := by
        have := hO.out
        unfold mulC at this
        rw [hkh, Nat.sub_self, Nat.zero_mul, List.replicate_zero, List.append_nil, List.take_of_length_le (by rw [HR1L.out]; exact Nat.le_refl _)] at this
        exact this
      clear hkh hO hR hX
      go_wp2
      refine bodyPost_ret (results_cell_tmp rfl _ _ _ 27 #[.int .i64 h1, .int .i64 w2, .slice q nP cP] (0, 0) _ (.int .i64 0) rfl (hss (hss (hss hZ.out))) rfl Try.underlying27 rfl hinfo) rfl ⟨q, nP, cP, HNE.out, rfl, ?_, ((hB.out.setCell (by simp; omega) _).setCell (by simp; omega) _).setCell (by simp; omega) _⟩
      exact owns_mono (owns_set (owns_set (owns_set OF.out (by simp)) (by simp)) (by simp)) (by simp)
end Go.Proofs.Ytofhdakggapahaa
namespace Go.By
open Go.RowKit
def InvV (ops : Array Oper) (val : Nat → Value) (i : Nat) (σ : Nat → Value) : Prop := match dstOf ops i with
  | some d => σ d = val i
  | none => True
/-- of an operation: what it gives, ahead of the store and behind it -/
def StepV (P : Program) (ops : Array Oper) (a0 : Act) (W0 W1 : World) (os : Oper) (s : Nat) (val : Nat → Value) (i : Nat) (o : Oper) : Prop :=
  ∀ (a : Act), a.tmps.size = a0.tmps.size → (∀ k, k ∈ preds o → InvV ops val k (sl a)) → (∀ t, initAt ops i t = true → sl a t = sl a0 t) →
    ((preds o).contains s = false → (execOp a.eval o).run P W0 = .ok (.value (val i)) W0) ∧ ((preds os).contains i = false → (execOp a.eval o).run P W1 = .ok (.value (val i)) W1)
def EachV (P : Program) (ops : Array Oper) (a0 : Act) (W0 W1 : World) (os : Oper) (s : Nat) (val : Nat → Value) : List Oper → Nat → Prop
  | [], _ => True
  | o :: rest, i => (i = s ∨ StepV P ops a0 W0 W1 os s val i o) ∧ EachV P ops a0 W0 W1 os s val rest (i + 1)
theorem EachV.get {P : Program} {ops : Array Oper} {a0 : Act} {W0 W1 : World} {os : Oper} {s : Nat} {val : Nat → Value} : ∀ (l : List Oper) (k : Nat), EachV P ops a0 W0 W1 os s val l k → ∀ j o, l[j]? = some o → k + j = s ∨ StepV P ops a0 W0 W1 os s val (k + j) o := by
  intro l
  induction l with
  | nil => intro k _ j o h; simp at h
  | cons x l ih =>
    intro k h j o hj
    cases j with
    | zero => simp at hj; subst hj; exact h.1
    | succ j =>
      have := ih (k + 1) h.2 j o (by simpa using hj)
      rwa [show k + 1 + j = k + (j + 1) by omega] at this
/-- m: the last operation, which waits for all others; s: the other store -/
def twoB (ops : Array Oper) (n m s : Nat) : Bool := decide (ops.size = m + 1) && decide (s < m) && (match ops[m]? with
  | some o => o.guard.isNone && o.dst.isNone && (List.range m).all fun i => (preds o).contains i
  | none => false) && (List.range m).all fun i => match ops[i]? with
  | some o => o.guard.isNone && match o.dst with
    | some d => decide (d < n) && i != s
    | none => i == s
  | none => false
theorem getD_tf {listed : Array Bool} {i : Nat} (h : listed.getD i true = false) : listed.getD i false ≠ true ∧ i < listed.size := by
  rcases Nat.lt_or_ge i listed.size with h' | h'
  · refine ⟨fun hx => ?_, h'⟩
    simp [Array.getD_eq_getD_getElem?, h'] at h hx; rw [h] at hx; cases hx
  · simp [Array.getD_eq_getD_getElem?, Array.getElem?_eq_none h'] at h
theorem getD_ft {listed : Array Bool} {j : Nat} (h : listed.getD j false = true) : listed.getD j true = true := by
  rcases Nat.lt_or_ge j listed.size with h' | h'
  · simp [Array.getD_eq_getD_getElem?, h'] at h ⊢; exact h
  · simp [Array.getD_eq_getD_getElem?, Array.getElem?_eq_none h'] at h
theorem wp_region_two {P : Program} {ops : Array Oper} {Q : Exit → Act → World → Prop} {id : Nat} {a0 : Act} {w0 : World} (val : Nat → Value) (n m s : Nat) (W1 : World) (hn : a0.tmps.size = n) (hm : P.follows .mixedOrders = true) (hback : backB ops = true) (hdist : distB ops = true)
    (htwo : twoB ops n m s = true) (os : Oper) (hos : ops[s]? = some os)
    (each : EachV P ops a0 w0.drew W1 os s val (ops.toList.take m) 0)
    (st : ∀ a, a.tmps.size = a0.tmps.size → (∀ k, k ∈ preds os → InvV ops val k (sl a)) → (execOp a.eval os).run P w0.drew = .ok .skip W1)
    (fin : ∀ a o, ops[m]? = some o → a.tmps.size = a0.tmps.size → a.defers = a0.defers → (∀ j, j < m → InvV ops val j (sl a)) → (∀ t, (ops.toList.all fun o => o.dst != some t) = true → sl a t = sl a0 t) → o.wp P a W1 (fun a' w' => Q .normal a' w') Q) :
    (Code.region id ops true).wp P Q a0 w0 := by
  unfold twoB at htwo
  rw [Bool.and_eq_true, Bool.and_eq_true, Bool.and_eq_true] at htwo
  have hsz : ops.size = m + 1 := of_decide_eq_true htwo.1.1.1
  have hsm : s < m := of_decide_eq_true htwo.1.1.2
  have hm' : m < ops.size := by omega
  obtain ⟨ol, hol⟩ : ∃ ol, ops[m]? = some ol := ⟨_, Array.getElem?_eq_getElem hm'⟩
  have hl2 := htwo.1.2
  rw [hol] at hl2
  simp only [Bool.and_eq_true] at hl2
  have hguard : ol.guard = none := by cases hg : ol.guard <;> simp [hg] at hl2 ⊢
  have hpl : ∀ i, i < m → i ∈ preds ol := fun i hi => by
    have := List.all_eq_true.1 hl2.2 i (List.mem_range.2 hi)
    simpa using this
  have hall2 := htwo.2
  have hops : ∀ i o, i < m → ops[i]? = some o → o.guard = none ∧ ((i = s ∧ o.dst = none) ∨ (i ≠ s ∧ ∃ d, o.dst = some d ∧ d < n)) := fun i o hi ho => by
    have := List.all_eq_true.1 hall2 i (List.mem_range.2 hi)
    rw [ho] at this
    simp only [Bool.and_eq_true] at this
    refine ⟨by cases hg : o.guard <;> simp [hg] at this ⊢, ?_⟩
    cases hd : o.dst with
    | none => have h2 := this.2; rw [hd] at h2; exact .inl ⟨by simpa using h2, rfl⟩
    | some d => have h2 := this.2; rw [hd] at h2; simp at h2; exact .inr ⟨h2.2, d, rfl, h2.1⟩
  have hgs := (hops s os hsm hos).1
  have hds : os.dst = none := by
    rcases (hops s os hsm hos).2 with h | h
    · exact h.2
    · exact absurd rfl h.1
  have stepAt : ∀ i o, i < m → i ≠ s → ops[i]? = some o → StepV P ops a0 w0.drew W1 os s val i o := fun i o hi hne ho => by
    have := EachV.get _ 0 each i o (by rw [List.getElem?_take, if_pos hi]; simpa using ho)
    rw [Nat.zero_add] at this
    exact this.resolve_left hne
  have stable : ∀ i j oi oj (σ σ' : Nat → Value), i ≠ j → ops[i]? = some oi → ops[j]? = some oj → InvV ops val j σ → (∀ t, oi.dst ≠ some t → σ' t = σ t) → InvV ops val j σ' := by
    intro i j oi oj σ σ' hij hoi hoj hI hσ
    unfold InvV at hI ⊢
    cases hdj : dstOf ops j with
    | none => trivial
    | some d =>
      rw [hdj] at hI
      show σ' d = val j
      have hne : oi.dst ≠ some d := by
        intro e
        have hi' : i < ops.size := (Array.getElem?_eq_some_iff.1 hoi).1
        have hj' : j < ops.size := (Array.getElem?_eq_some_iff.1 hoj).1
        have := List.all_eq_true.1 (List.all_eq_true.1 hdist i (List.mem_range.2 hi')) j (List.mem_range.2 hj')
        rw [hoi, hoj] at this
        have hdj' : oj.dst = some d := by simpa [dstOf, hoj] using hdj
        simp [e, hdj', hij] at this
      rw [hσ d hne]; exact hI
  refine wp_region_any hm ?_
  show wpAny P .any ops Q ops.size (Array.replicate ops.size false) a0 w0.drew
  have main : ∀ (fuel : Nat) (listed : Array Bool) (a : Act) (w : World), unl ops.size listed ≤ fuel → listed.getD m true = false → (w = if listed.getD s false = true then W1 else w0.drew) → a.tmps.size = a0.tmps.size → a.defers = a0.defers →
      (∀ j o, listed.getD j false = true → ops[j]? = some o → ∀ k, k ∈ preds o → listed.getD k false = true) →
      (∀ j, j < ops.size → listed.getD j true = true → listed.getD j false = true) →
      (∀ j, j < m → listed.getD j false = true → InvV ops val j (sl a)) →
      (∀ t, (∀ j o, j < m → listed.getD j false = true → ops[j]? = some o → o.dst ≠ some t) → sl a t = sl a0 t) → wpAny P .any ops Q fuel listed a w := by
    intro fuel
    induction fuel with
    | zero =>
      intro listed a w hu hlm
      exfalso
      have h0 : unl ops.size listed = 0 := by omega
      unfold unl at h0
      have := List.countP_eq_zero.1 h0 m (List.mem_range.2 hm')
      simp [hlm] at this
    | succ fuel ih =>
      intro listed a w hu hlm hw hs hd hcl hlt hI ht
      refine ⟨fun hr => ?_, fun i hi => ?_⟩
      · exfalso
        have hall : ∀ k j, j < k → j < ops.size → listed.getD j false = true := by
          intro k
          induction k with
          | zero => intro j hj; omega
          | succ k ihk =>
            intro j hj hjs
            refine hlt j hjs ?_
            cases hb : listed.getD j true with
            | true => rfl
            | false =>
              exfalso
              have ho : ops[j]? = some ops[j] := Array.getElem?_eq_getElem hjs
              have : j ∈ Region.ready .any ops listed := mem_ready.2 ⟨hjs, hb, _, ho, fun q hq => by
                have hbk := List.all_eq_true.1 hback j (List.mem_range.2 hjs)
                rw [ho] at hbk
                have hkj := of_decide_eq_true (List.all_eq_true.1 hbk q hq)
                exact ihk q (by omega) (by omega)⟩
              rw [hr] at this; cases this
        exact (getD_tf hlm).1 (hall (m + 1) m (by omega) hm')
      · obtain ⟨h1, h2, o, ho, h3⟩ := mem_ready.1 hi
        obtain ⟨hnl, his⟩ := getD_tf h2
        have gset : ∀ j (d : Bool), (listed.setIfInBounds i true).getD j d = if i = j then true else listed.getD j d := by
          intro j d
          simp only [Array.getD_eq_getD_getElem?, Array.getElem?_setIfInBounds]
          by_cases e : i = j
          · subst e; simp [his]
          · simp [e]
        by_cases him : i = m
        · subst him
          rw [hol] at ho; cases ho
          have hsl : listed.getD s false = true := h3 s (hpl s hsm)
          rw [if_pos hsl] at hw; subst hw
          have hf := fin a ol hol hs hd (fun j hj => hI j hj (h3 j (hpl j hj))) (fun t htt => ht t (fun j oj hj _ hoj => by
            have := List.all_eq_true.1 htt oj (by rw [Array.mem_toList_iff]; exact Array.mem_of_getElem? hoj)
            simpa using this))
          unfold wpOp
          rw [hol]
          show if Region.wanted ol (yielded ops a.tmps) = true then _ else _
          rw [if_pos (by simp [Region.wanted, hguard])]
          refine .inl (Oper.wp_mono (fun a' w' hq => wpAny_done _ (fun j hj => ?_) hq) hf)
          rw [gset]
          by_cases e2 : i = j
          · rw [if_pos e2]
          · rw [if_neg e2]; exact getD_ft (h3 j (hpl j (by omega)))
        · have him' : i < m := by omega
          have hpk : ∀ k, k ∈ preds o → InvV ops val k (sl a) := fun k hk => hI k (by
              have hbk := List.all_eq_true.1 hback i (List.mem_range.2 h1)
              rw [ho] at hbk
              have := of_decide_eq_true (List.all_eq_true.1 hbk k hk); omega) (h3 k hk)
          have next : ∀ (v : Value) (w' : World), (w' = if (listed.setIfInBounds i true).getD s false = true then W1 else w0.drew) → InvV ops val i (sl (a.put o.dst v)) → wpAny P .any ops Q fuel (listed.setIfInBounds i true) (a.put o.dst v) w' := by
            intro v w' hw' hIi
            refine ih _ _ _ (by have := unl_set (n := ops.size) h1 h2; omega) (by rw [gset, if_neg him]; exact hlm) hw' ((put_size _ _ _).trans hs) ((put_defers _ _ _).trans hd) ?_ ?_ ?_ ?_
            · intro j oj hj hoj k hk
              rw [gset] at hj ⊢
              by_cases e : i = k
              · rw [if_pos e]
              · rw [if_neg e]
                by_cases e' : i = j
                · subst e'; rw [ho] at hoj; cases hoj; exact h3 k hk
                · rw [if_neg e'] at hj; exact hcl j oj hj hoj k hk
            · intro j hj hl
              rw [gset] at hl ⊢
              by_cases e : i = j
              · rw [if_pos e]
              · rw [if_neg e] at hl ⊢; exact hlt j hj hl
            · intro j hj hl
              rw [gset] at hl
              by_cases e : i = j
              · subst e; exact hIi
              · rw [if_neg e] at hl
                have hoj : ops[j]? = some ops[j] := Array.getElem?_eq_getElem (by omega)
                exact stable i j o _ (sl a) _ e ho hoj (hI j hj hl) (fun t h => put_sl _ _ _ _ h)
            · intro t htt
              have hdt : o.dst ≠ some t := htt i o him' (by rw [gset, if_pos rfl]) ho
              rw [put_sl _ _ _ _ hdt]
              exact ht t (fun j oj hj hl hoj => htt j oj hj (by rw [gset]; split <;> simp [hl]) hoj)
          unfold wpOp
          rw [ho]
          show if Region.wanted o (yielded ops a.tmps) = true then _ else _
          rw [if_pos (by simp [Region.wanted, (hops i o him' ho).1])]
          left
          by_cases his2 : i = s
          · subst his2
            rw [hos] at ho; cases ho
            rw [if_neg hnl] at hw; subst hw
            have nx := next undef W1 (by rw [gset, if_pos rfl, if_pos rfl]) (by unfold InvV dstOf; rw [hos]; simp [hds])
            exact wp_skipX (st a hs hpk) nx
          · obtain ⟨g1, g2⟩ := stepAt i o him' his2 ho a hs hpk (fun t hti => by
              refine ht t (fun j oj hj hlj hoj hdj => ?_)
              have := List.all_eq_true.1 hti j (List.mem_range.2 (by omega))
              rw [hoj] at this
              by_cases e : j = i
              · subst e; exact hnl hlj
              · simp [e, hdj] at this
                exact hnl (hcl j oj hlj hoj i this))
            obtain ⟨d, hdd, hdn⟩ : ∃ d, o.dst = some d ∧ d < n := by
              rcases (hops i o him' ho).2 with h | h
              · exact absurd h.1 his2
              · exact h.2
            have hIi : InvV ops val i (sl (a.put o.dst (val i))) := by
              unfold InvV dstOf
              rw [ho]
              simp only [Option.bind_some, hdd]
              exact put_same _ _ _ (by rw [hs, hn]; exact hdn)
            have hw2 : w = if (listed.setIfInBounds i true).getD s false = true then W1 else w0.drew := by
              rw [gset, if_neg his2]; exact hw
            cases hsl : listed.getD s false with
            | true =>
              rw [hsl, if_pos rfl] at hw
              have hns : (preds os).contains i = false := by
                cases hc : (preds os).contains i with
                | false => rfl
                | true => exact absurd (hcl s os hsl hos i (by simpa using hc)) hnl
              refine wp_val (val i) ?_ (next _ _ hw2 hIi)
              rw [hw]; exact g2 hns
            | false =>
              rw [hsl, if_neg (by simp)] at hw
              have hns : (preds o).contains s = false := by
                cases hc : (preds o).contains s with
                | false => rfl
                | true => have := h3 s (by simpa using hc); rw [hsl] at this; cases this
              refine wp_val (val i) ?_ (next _ _ hw2 hIi)
              rw [hw]; exact g1 hns
  refine main ops.size _ a0 w0.drew ?_ ?_ ?_ rfl rfl ?_ ?_ ?_ ?_
  · unfold unl; exact Nat.le_trans List.countP_le_length (by simp)
  · simp [Array.getD_eq_getD_getElem?, Array.getElem?_replicate, hm']
  · simp [Array.getD_eq_getD_getElem?, Array.getElem?_replicate, show s < ops.size by omega]
  · intro j o hj; simp [Array.getD_eq_getD_getElem?, Array.getElem?_replicate] at hj
    split at hj <;> simp at hj
  · intro j hj hl; simp [Array.getD_eq_getD_getElem?, Array.getElem?_replicate, hj] at hl
  · intro j hj hl; simp [Array.getD_eq_getD_getElem?, Array.getElem?_replicate, show j < ops.size by omega] at hl
  · intro t _; rfl
theorem run_mv {P : Program} {a : Act} {o : Oper} {t : Nat} {u : Value} {W : World} (hop : o.op = .move (.tmp t)) (h : sl a t = u) : (execOp a.eval o).run P W = .ok (.value u) W := by
  subst h; unfold execOp; rw [hop]; rfl
theorem drew_below (w : World) : Below w.heap.size w w.drew := ⟨rfl, rfl, rfl, Nat.le_refl _, fun _ _ => rfl⟩
end Go.By
namespace Go.Proofs.Ytofhdakggapahaa
open Go.RowKit Go.By
/-- a system: its block, what is in it, its rows, in memory from a base on -/
structure Elm (w : World) (base be k t : Nat) (v : Value) (n : Nat) (K : List Rw) : Prop where
  box : w.heap[be]? = some (.cells #[.int .i64 k, .int .i64 t, v] 104 (0, 0))
  rows : RwL 61 5 w base v n K
  old : base ≤ be
theorem Elm.keep {w w' : World} {base be k t n : Nat} {v : Value} {K : List Rw} (h : Elm w base be k t v n K) (hb : Below w.heap.size w w') : Elm w' base be k t v n K :=
  ⟨(hb.block _ (blk_lt h.box)).trans h.box, h.rows.keep hb, h.old⟩
theorem New_bad (k t : Int) (w : World) (h : k < 1 ∨ 4096 < k ∨ t < 0 ∨ 65535 < t) : Calls Try.prog 30 #[.int .i64 k, .int .i64 t] w fun e w' => e = .returned (.tuple #[.pointer none, .int .i64 2]) ∧ w = w' := by
  by_cases h1 : k < 1
  · go_enter Try.func30, Try.ntmps30
    go_wp2
    go_ret2
    exact ⟨rfl, rfl⟩
  by_cases h2 : 4096 < k
  · go_enter Try.func30, Try.ntmps30
    go_wp2
    go_ret2
    exact ⟨rfl, rfl⟩
  by_cases h3 : t < 0
  · go_enter Try.func30, Try.ntmps30
    go_wp2
    go_ret2
    exact ⟨rfl, rfl⟩
  have h4 : 65535 < t := by omega
  go_enter Try.func30, Try.ntmps30
  go_wp2
  go_ret2
  exact ⟨rfl, rfl⟩
theorem New_good (k t : Nat) (w : World) (h1 : 1 ≤ k) (h2 : k ≤ 4096) (h3 : t ≤ 65535) : Calls Try.prog 30 #[.int .i64 k, .int .i64 t] w fun e w' => ∃ be, e = .returned (.tuple #[.pointer (some ⟨be, 0, none⟩), .int .i64 0]) ∧ Elm w' w.heap.size be k t (.slice none 0 0) 0 [] ∧ Below w.heap.size w w' := by
  have a1 : ¬ ((k : Int) < 1) := by omega
  have a2 : ¬ (4096 < (k : Int)) := by omega
  have a3 : ¬ ((t : Int) < 0) := by omega
  have a4 : ¬ (65535 < (t : Int)) := by omega
  clear h1 h2 h3
  go_enter Try.func30, Try.ntmps30
  go_wp2
  go_ret2
  exact ⟨w.heap.size, rfl, ⟨hnew rfl, RwL.nil _ _ _ _, Nat.le_refl _⟩, al (Below.refl _ _) (Nat.le_refl _)⟩
theorem Size_any (base be k t n : Nat) (v : Value) (K : List Rw) (w : World) (h : Elm w base be k t v n K) : Calls Try.prog 31 #[.pointer (some ⟨be, 0, none⟩)] w fun e w' => e = .returned (.tuple #[.int .i64 k, .int .i64 t]) ∧ Below w.heap.size w w' := by
  obtain ⟨f0, f1, f2⟩ := cells3 h.box
  clear h
  go_enter Try.func31, Try.ntmps31
  go_wp2
  go_region
  all_goals
    go_wp2
    go_ret2
    exact ⟨rfl, drew_below w⟩
theorem Rank_any' (base be k t n : Nat) (v : Value) (K : List Rw) (w : World) (h : Elm w base be k t v n K) : Calls Try.prog 44 #[.pointer (some ⟨be, 0, none⟩)] w fun e w' => e = .returned (.int .i64 n) ∧ w = w' := by
  obtain ⟨f0, f1, f2⟩ := cells3 h.box
  obtain ⟨q, c, rfl⟩ := h.rows.shape
  clear h
  go_enter Try.func44, Try.ntmps44
  go_wp2
  go_ret
  exact ⟨rfl, rfl⟩
end Go.Proofs.Ytofhdakggapahaa
namespace Go.Proofs.Ytofhdakggapahaa
open Go.RowKit Go.By
/-- are these equations gone through? -/
def few8 (m : Nat) (L : List Rw) : Bool := L.all (fun x => decide (x.1.length ≤ 20) && decide (x.2.length ≤ 20)) && decide (m ≤ 30)
set_option maxRecDepth 100000 in
set_option maxHeartbeats 1000000 in
theorem Few8_any (p : Option Addr) (m c : Nat) (L : List Rw) (w : World) (h : RwS w p m c L) :
    Calls Try.prog 29 #[.slice p m c] w fun e w' => e = .returned (.bool (few8 m L)) ∧ Below w.heap.size w w' := by
  have H := Lib.hid h
  have HL := Lib.hid h.len
  have hmb : m ≤ 9223372036854775807 := by have h1 := h.le; have h2 := h.max; unfold maxLen at h2; omega
  obtain ⟨R, hR⟩ : ∃ R : Bool, R = few8 m L := ⟨_, rfl⟩
  rw [← hR]
  have HR := Lib.hid hR
  clear h hR
  go_enter Try.func29, Try.ntmps29
  go_wp2
  go_loopw [7] (fun i wr => ∃ k : Nat, k ≤ m ∧ i = .int .i64 k ∧ Hid (∀ (j : Nat) (x : Rw), j < k → L[j]? = some x → x.1.length ≤ 20 ∧ x.2.length ≤ 20) ∧ Hid (Below w.heap.size w wr)) (fun i _ => m - (intOf i).toNat)
  case atStart => exact ⟨0, Nat.zero_le _, rfl, fun j x hj => by omega, Below.refl _ _⟩
  case round =>
    obtain ⟨k, hk, rfl, hj, hB⟩ := hrel
    by_cases hlt : k < m
    · have kn : (k : Int) < (m : Int) := by omega
      obtain ⟨row, hrow⟩ : ∃ row, L[k]? = some row := ⟨_, List.getElem?_eq_getElem (by rw [HL.out]; exact hlt)⟩
      obtain ⟨b, o, q1, m1, c1, q2, m2, c2, rfl, d1, d2, s1, s2⟩ := H.out.row k row hrow
      have D1 := (hB.out.cell (p := ⟨b, o + k * 2, none⟩) (lt_of_cell d1)).trans d1
      have D2 := (hB.out.cell (p := ⟨b, o + k * 2 + 1, none⟩) (lt_of_cell d2)).trans d2
      have l1 := s1.len; have l2 := s2.len
      have hb1 := s1.bound; have hb2 := s2.bound
      have BA : Hid (∀ o, Below w.heap.size w (wr.alloc o)) := fun o => al hB.out hB.out.size
      have hRf : Hid (20 < m1 ∨ 20 < m2 → R = false) := fun hx => by
        rw [HR.out]
        unfold few8
        have : L.all (fun x => decide (x.1.length ≤ 20) && decide (x.2.length ≤ 20)) = false := by
          rw [List.all_eq_false]
          refine ⟨row, List.mem_of_getElem? hrow, ?_⟩
          simp
          omega
        rw [this]; rfl
      have hnx : Hid (m1 ≤ 20 → m2 ≤ 20 → ∀ (j : Nat) (x : Rw), j < k + 1 → L[j]? = some x → x.1.length ≤ 20 ∧ x.2.length ≤ 20) := fun g1 g2 j x hjk hx => by
        rcases Nat.lt_or_ge j k with h | h
        · exact hj.out j x h hx
        · obtain rfl : j = k := by omega
          rw [hrow] at hx; cases hx; omega
      clear d1 d2 s1 s2 l1 l2 hrow hj hB
      by_cases e1 : m1 ≤ 20
      · have g1 : (m1 : Int) ≤ 20 := by omega
        by_cases e2 : m2 ≤ 20
        · have g2 : (m2 : Int) ≤ 20 := by omega
          have hN := Lib.hid (hnx.out e1 e2)
          clear e1 e2 hnx hRf
          go_wp2
          go_roundw
          case rel => exact ⟨k + 1, by omega, by go_num, hN.out, BA.out _⟩
          case measure => simp [intOf]; omega
        · have g2 : (20 : Int) < (m2 : Int) := by omega
          have hN := Lib.hid (hRf.out (.inr (by omega)))
          clear e1 e2 hnx hRf
          go_wp2
          go_ret
          exact ⟨by rw [hN.out]; rfl, BA.out _⟩
      · have g1 : (20 : Int) < (m1 : Int) := by omega
        have hN := Lib.hid (hRf.out (.inl (by omega)))
        clear e1 hnx hRf
        go_wp2
        go_ret
        exact ⟨by rw [hN.out]; rfl, BA.out _⟩
    · have hkm : k = m := by omega
      have hRt : Hid (R = decide ((m : Int) ≤ 30)) := by
        show R = _
        rw [HR.out]
        unfold few8
        have : L.all (fun x => decide (x.1.length ≤ 20) && decide (x.2.length ≤ 20)) = true := by
          rw [List.all_eq_true]
          intro x hx
          obtain ⟨i, hi, rfl⟩ := List.getElem_of_mem hx
          have := hj.out i _ (by rw [hkm, ← HL.out]; exact hi) (List.getElem?_eq_getElem hi)
          simp; omega
        rw [this, Bool.true_and]
        by_cases h30 : m ≤ 30
        · rw [decide_eq_true h30, decide_eq_true (by omega)]
        · rw [decide_eq_false h30, decide_eq_false (by omega)]
      have hge : (m : Int) ≤ (k : Int) := by omega
      have BB := Lib.hid hB.out
      clear hkm hB hj
      go_wp2
      go_ret
      exact ⟨by rw [hRt.out]; rfl, BB.out⟩
/-- the rows that the document keeps of equations -/
def kD (D : List Rw) : List Rw := D.foldl insF []
theorem kD_snoc (D : List Rw) (r : Rw) : kD (D ++ [r]) = insF (kD D) r := by unfold kD; rw [List.foldl_append]; rfl
theorem kD_take {D : List Rw} {k : Nat} {r : Rw} (h : D[k]? = some r) : kD (D.take (k + 1)) = insF (kD (D.take k)) r := by
  have e : D.take (k + 1) = D.take k ++ [r] := by rw [List.take_add_one, h]; rfl
  rw [e, kD_snoc]
theorem kD_len (D : List Rw) : ∀ k, (kD (D.take k)).length ≤ k
  | 0 => by simp [kD]
  | k + 1 => by
    by_cases h : k < D.length
    · rw [kD_take (List.getElem?_eq_getElem h)]; exact Nat.le_trans (insF_len _ _) (Nat.succ_le_succ (kD_len D k))
    · have e : D.take (k + 1) = D.take k := by rw [List.take_of_length_le (by omega), List.take_of_length_le (by omega)]
      rw [e]; exact Nat.le_succ_of_le (kD_len D k)
theorem kD_kept {wd t : Nat} {D : List Rw} (hl : ∀ r, r ∈ D → Fit wd t r) : ∀ k, KeptS wd t (kD (D.take k))
  | 0 => by simpa [kD] using KeptS.nil wd t
  | k + 1 => by
    by_cases h : k < D.length
    · rw [kD_take (List.getElem?_eq_getElem h)]; exact (kD_kept hl k).step (hl _ (List.getElem_mem h))
    · have e : D.take (k + 1) = D.take k := by rw [List.take_of_length_le (by omega), List.take_of_length_le (by omega)]
      rw [e]; exact kD_kept hl k
theorem insF_same {K : List Rw} {x : Rw} (h : (insF K x).length = K.length) : insF K x = K := by
  by_cases e : leadS (restF K x).1 < 0
  · unfold insF; rw [norm_leadS, if_pos e]
  · have hp := (ins_perm K x).length_eq
    unfold keepF at hp; rw [if_neg e] at hp; simp at hp; omega
theorem listF_BI {n t : Nat} {K : List Rw} (h : KeptS n t K) : ∃ L : Nat → Nat, (∀ a b, a < b → b < K.length → L a < L b) ∧ BI n t K.length L (K.map vR) (listF K) 0 0 := by
  have hat : ∀ a, a < K.length → listF K a ∈ K := fun a ha => by
    have : listF K a = K[a] := by simp [listF, ha]
    rw [this]; exact List.getElem_mem ha
  refine ⟨fun a => leadN (listF K a), fun a b hab hb => ?_, fun a ha => ⟨(h.rows _ (hat a ha)).1, (h.rows _ (hat a ha)).2.at⟩, fun a ha => by omega, fun b hb => by omega, fun a ha => Gf.Sp.mem (List.mem_map.2 ⟨_, hat a ha, rfl⟩), fun v hv => ?_⟩
  · have e1 : listF K a = K[a] := by simp [listF, show a < K.length by omega]
    have e2 : listF K b = K[b] := by simp [listF, hb]
    show leadN (listF K a) < leadN (listF K b)
    rw [e1, e2]; exact List.pairwise_iff_getElem.1 h.sorted a b (by omega) hb hab
  · have e : ((List.range K.length).map fun a => vR (listF K a)) = K.map vR := by
      conv => rhs; rw [← listF_map K]
      rw [List.map_map]; rfl
    rw [e]; exact Gf.Sp.mem hv
/-- rows in one block, of which the first n are told -/
def RowOff2 (w : World) (g : Nat) (u v : Value) (r : Rw) : Prop := ∃ q1 m1 c1 q2 m2 c2, u = .slice q1 m1 c1 ∧ v = .slice q2 m2 c2 ∧ Sl B8 w q1 m1 c1 r.1 ∧ Sl B8 w q2 m2 c2 r.2 ∧ (0 < m1 → ∀ a, q1 = some a → a.block ≠ g) ∧ (0 < m2 → ∀ a, q2 = some a → a.block ≠ g)
theorem RowOff2.keep {w w' : World} {g : Nat} {u v : Value} {r : Rw} (h : RowOff2 w g u v r) (hb : Below w.heap.size w w') : RowOff2 w' g u v r := by
  obtain ⟨q1, m1, c1, q2, m2, c2, h1, h2, h3, h4, h5, h6⟩ := h
  exact ⟨q1, m1, c1, q2, m2, c2, h1, h2, h3.keep hb, h4.keep hb, h5, h6⟩
theorem RowOff2.set {w : World} {g o : Nat} {u v x : Value} {r : Rw} (h : RowOff2 w g u v r) : RowOff2 (w.setCell ⟨g, o, none⟩ x) g u v r := by
  obtain ⟨q1, m1, c1, q2, m2, c2, h1, h2, h3, h4, h5, h6⟩ := h
  exact ⟨q1, m1, c1, q2, m2, c2, h1, h2, h3.set2 h5, h4.set2 h6, h5, h6⟩
def RMemC (w : World) (g T n c : Nat) (F : Nat → Rw) : Prop := ∃ cs : Array Value, w.heap[g]? = some (.cells cs T (0, 0)) ∧ cs.size = c * 2 ∧ n ≤ c ∧ ∀ i, i < n → ∃ u v, cs[i * 2]? = some u ∧ cs[i * 2 + 1]? = some v ∧ RowOff2 w g u v (F i)
theorem RMemC.keep {w w' : World} {g T n c : Nat} {F : Nat → Rw} (h : RMemC w g T n c F) (hb : Below w.heap.size w w') : RMemC w' g T n c F := by
  obtain ⟨cs, h1, h2, hn, h3⟩ := h
  refine ⟨cs, (hb.block _ (blk_lt h1)).trans h1, h2, hn, fun i hi => ?_⟩
  obtain ⟨u, v, a, b, c⟩ := h3 i hi
  exact ⟨u, v, a, b, c.keep hb⟩
theorem RMemC.set {w : World} {g T n c i : Nat} {F : Nat → Rw} {u v : Value} {r : Rw} (h : RMemC w g T n c F) (hi : i < n) (hr : RowOff2 w g u v r) : RMemC ((w.setCell ⟨g, i * 2, none⟩ u).setCell ⟨g, i * 2 + 1, none⟩ v) g T n c (updF F i r) := by
  obtain ⟨cs, h1, h2, hn, h3⟩ := h
  refine ⟨_, hss (hss h1), by simp [h2], hn, fun k hk => ?_⟩
  by_cases hki : k = i
  · subst hki
    refine ⟨u, v, ?_, ?_, by rw [updF_same]; exact hr.set.set⟩
    · simp [Array.getElem?_setIfInBounds]; omega
    · simp [Array.getElem?_setIfInBounds]; omega
  · obtain ⟨a, b, e1, e2, e3⟩ := h3 k hk
    refine ⟨a, b, ?_, ?_, by rw [updF_ne _ _ hki]; exact e3.set.set⟩
    · rw [Array.getElem?_setIfInBounds, if_neg (by omega), Array.getElem?_setIfInBounds, if_neg (by omega)]; exact e1
    · rw [Array.getElem?_setIfInBounds, if_neg (by omega), Array.getElem?_setIfInBounds, if_neg (by omega)]; exact e2
theorem RMemC.at {w : World} {g T n c i : Nat} {F : Nat → Rw} (h : RMemC w g T n c F) (hi : i < n) : ∃ q1 m1 c1 q2 m2 c2, w.cell? ⟨g, i * 2, none⟩ = some (.slice q1 m1 c1) ∧ w.cell? ⟨g, i * 2 + 1, none⟩ = some (.slice q2 m2 c2) ∧ w.frozen? ⟨g, i * 2, none⟩ = false ∧ w.frozen? ⟨g, i * 2 + 1, none⟩ = false ∧
    Sl B8 w q1 m1 c1 (F i).1 ∧ Sl B8 w q2 m2 c2 (F i).2 ∧ (0 < m1 → ∀ a, q1 = some a → a.block ≠ g) ∧ (0 < m2 → ∀ a, q2 = some a → a.block ≠ g) := by
  obtain ⟨cs, h1, h2, hn, h3⟩ := h
  obtain ⟨u, v, a, b, q1, m1, c1, q2, m2, c2, rfl, rfl, g1, g2, g3, g4⟩ := h3 i hi
  exact ⟨q1, m1, c1, q2, m2, c2, (cell_of_row _ _ _ _ _ _ h1).trans a, (cell_of_row _ _ _ _ _ _ h1).trans b, frozen_of_row _ _ _ _ _ h1, frozen_of_row _ _ _ _ _ h1, g1, g2, g3, g4⟩
/-- .. or there are none -/
def RMemV (w : World) (base T : Nat) (q : Option Addr) (n c : Nat) (F : Nat → Rw) : Prop := n = 0 ∨ ∃ g, q = some ⟨g, 0, none⟩ ∧ base ≤ g ∧ RMemC w g T n c F
theorem RwN.keep {W w w' : World} {T n c : Nat} {q : Option Addr} {K : List Rw} (h : RwN W w T q n c K) (hb : Below w.heap.size w w') : RwN W w' T q n c K := by
  obtain ⟨h1, h2, vs, h3, h4⟩ := h
  exact ⟨bl h1 hb h1.size, h2, vs, owns_keep h3 hb, h4⟩
theorem RMemV.of {w : World} {base T n c : Nat} {q : Option Addr} {K : List Rw} (h : n = 0 ∨ ∃ W : World, base ≤ W.heap.size ∧ RwN W w T q n c K) : RMemV w base T q n c (listF K) := by
  rcases h with h | ⟨W, hW, hb, hl, vs, ho, hv⟩
  · exact .inl h
  · rcases ho.2 with ⟨e1, e2⟩ | ⟨g, cap, cur, e1, hg, hh, hle, hm, hs, ht⟩
    · exact .inl e2
    · cases e1
      refine .inr ⟨g, rfl, Nat.le_trans hW hg, cur, hh, hs, hle, fun i hi => ?_⟩
      have hk : K[i]? = some (listF K i) := by
        rw [List.getElem?_eq_getElem (by omega)]
        simp [listF, show i < K.length by omega]
      obtain ⟨u, hu, q1, m1, c1, q2, m2, c2, rfl, s1, s2⟩ := hv i _ hk
      obtain ⟨g1, g2⟩ := fl2_at hu
      have far : ∀ {q' : Option Addr} {m' c' : Nat} {xs : List UInt8}, Sl B8 W q' m' c' xs → 0 < m' → ∀ a, q' = some a → a.block ≠ g := fun {q' m' c' xs} hs h0 a ha => by
        obtain ⟨b, o, hp, hlt⟩ := hs.rs.lt (by rw [hs.len]; exact h0)
        rw [ha] at hp; cases hp
        show b ≠ g; omega
      have hvl : vs.length = n := by have := ho.1; rw [fl2_length] at this; omega
      refine ⟨.slice q1 m1 c1, .slice q2 m2 c2, ?_, ?_, q1, m1, c1, q2, m2, c2, rfl, rfl, s1.keep hb, s2.keep hb, far s1, far s2⟩
      · rw [← ht, List.getElem?_take] at g1
        split at g1
        · simpa using g1
        · cases g1
      · rw [← ht, List.getElem?_take] at g2
        split at g2
        · simpa using g2
        · cases g2
theorem RMemV.rwS {w : World} {base T n c : Nat} {q : Option Addr} {F : Nat → Rw} (h : RMemV w base T q n c F) (h1 : n ≤ c) (h2 : c ≤ maxLen) (h3 : q = none → n = 0 ∧ c = 0) : RwS w q n c ((List.range n).map F) := by
  refine ⟨by simp, h1, h2, h3, fun j k hj => ?_⟩
  obtain ⟨hjn, e⟩ := List.getElem?_eq_some_iff.1 hj
  rw [List.length_map, List.length_range] at hjn
  simp at e
  subst e
  rcases h with h | ⟨g, rfl, -, hM⟩
  · omega
  · obtain ⟨q1, m1, c1, q2, m2, c2, a, b, -, -, s1, s2, -, -⟩ := hM.at hjn
    exact ⟨g, 0, q1, m1, c1, q2, m2, c2, rfl, by rw [Nat.zero_add]; exact a, by rw [Nat.zero_add]; exact b, s1, s2⟩
end Go.Proofs.Ytofhdakggapahaa
namespace Go.By
open Go.RowKit
def XNew (B : Nat) (p : Option Addr) (n : Nat) : Prop := 0 < n → ∀ a, p = some a → B ≤ a.block
def XRowB (B X : Nat) (r : List UInt8 × List UInt8) (v : Value) (w : World) : Prop := ∃ p1 n1 c1 p2 n2 c2, v = .agg #[.slice p1 n1 c1, .slice p2 n2 c2] ∧ ((Sl B8 w p1 n1 c1 r.1 ∧ Away B X w p1 n1) ∧ (Sl B8 w p2 n2 c2 r.2 ∧ Away B X w p2 n2)) ∧ XNew B p1 n1 ∧ XNew B p2 n2
theorem XRowB.keep {B X : Nat} {r : List UInt8 × List UInt8} {v : Value} {w w' : World} (h : XRowB B X r v w) (hb : Below w.heap.size w w') : XRowB B X r v w' := by
  obtain ⟨p1, n1, c1, p2, n2, c2, e, ⟨⟨h1, k1⟩, ⟨h2, k2⟩⟩, h3⟩ := h
  exact ⟨p1, n1, c1, p2, n2, c2, e, ⟨⟨h1.keep hb, k1.keep h1 hb⟩, ⟨h2.keep hb, k2.keep h2 hb⟩⟩, h3⟩
theorem XRowB.step {B X : Nat} {r : List UInt8 × List UInt8} {v : Value} {w w' : World} (h : XRowB B X r v w) (hb : StepX B X w w') : XRowB B X r v w' := by
  obtain ⟨p1, n1, c1, p2, n2, c2, e, ⟨⟨h1, k1⟩, ⟨h2, k2⟩⟩, h3⟩ := h
  exact ⟨p1, n1, c1, p2, n2, c2, e, ⟨⟨(k1.step h1 hb).2, (k1.step h1 hb).1⟩, ⟨(k2.step h2 hb).2, (k2.step h2 hb).1⟩⟩, h3⟩
def XRowTB (B X : Nat) (r : List UInt8 × List UInt8) (code : Int) (v : Value) (w : World) : Prop := ∃ u, v = .tuple #[u, .int .i64 code] ∧ XRowB B X r u w
def ShX.rowB (B X : Nat) (r : List UInt8 × List UInt8) : ShX B X := ⟨XRowB B X r, fun _ _ _ h hb => h.keep hb, fun _ _ _ h hb => h.step hb⟩
def ShX.rowTB (B X : Nat) (r : List UInt8 × List UInt8) (code : Int) : ShX B X := ⟨XRowTB B X r code, fun _ _ _ ⟨u, e, h⟩ hb => ⟨u, e, h.keep hb⟩, fun _ _ _ ⟨u, e, h⟩ hb => ⟨u, e, h.step hb⟩⟩
theorem XRowB.of_owns {B X base e : Nat} {w : World} {r : List UInt8 × List UInt8} {q1 q2 : Option Addr} {m1 k1 m2 k2 : Nat} (he : e ≠ X) (h1 : w.ownsRow base e 1 (.slice q1 m1 k1) m1 (r.1.map B8)) (h2 : w.ownsRow base e 1 (.slice q2 m2 k2) m2 (r.2.map B8)) (hb : B ≤ base) :
    XRowB B X r (.agg #[.slice q1 m1 k1, .slice q2 m2 k2]) w := by
  refine ⟨q1, m1, k1, q2, m2, k2, rfl, ⟨⟨Sl.of_owns h1, Away.own h1 he⟩, ⟨Sl.of_owns h2, Away.own h2 he⟩⟩, fun h0 a ha => ?_, fun h0 a ha => ?_⟩
  · obtain ⟨g, e, h, -⟩ := owns_at h1 h0
    rw [e] at ha; cases ha; exact Nat.le_trans hb h
  · obtain ⟨g, e, h, -⟩ := owns_at h2 h0
    rw [e] at ha; cases ha; exact Nat.le_trans hb h
end Go.By
namespace Go.Proofs.Ytofhdakggapahaa
open Go.RowKit Go.By
/-- rows in memory, as many as they are, their array new -/
def RetKN (w : World) (K : List Rw) (e : Ending) (w' : World) : Prop := ∃ q n c, n = K.length ∧ e = .returned (.slice q n c) ∧ RwS w' q n c K ∧ Below w.heap.size w w' ∧ (n = 0 ∨ ∃ g, q = some ⟨g, 0, none⟩ ∧ w.heap.size ≤ g)
set_option maxRecDepth 100000 in
set_option maxHeartbeats 8000000 in
theorem RRows_any (wd t : Nat) (pk : Option Addr) (nk ck : Nat) (D : List Rw) (w : World) (hD : RwS w pk nk ck D) (hfit : ∀ r, r ∈ D → Fit wd t r) (hr1 : Room wd) (hr2 : Room t) (hnk : nk ≤ 4096) :
    Calls Try.prog 47 #[.slice pk nk ck] w (RetKN w (redL (kD D))) := by
  have HKK : Hid (∀ k, KeptS wd t (kD (D.take k))) := kD_kept hfit
  have HD := Lib.hid hD; have HF := Lib.hid hfit; have HR1 := Lib.hid hr1; have HR2 := Lib.hid hr2; have HLEN := Lib.hid hD.len
  clear hD hfit hr1 hr2
  go_enter Try.func47, Try.ntmps47
  go_wp2
  go_loopw [3, 12] (fun l i wr => ∃ (k no : Nat) (qo : Option Addr) (co : Nat), k ≤ nk ∧ no ≤ k ∧ i = .int .i64 k ∧ l = .slice qo no co ∧ Hid (RwS wr qo no co (kD (D.take k))) ∧ Hid (Below w.heap.size w wr) ∧ Hid (no = 0 ∨ ∃ W, w.heap.size ≤ W.heap.size ∧ RwN W wr 68 qo no co (kD (D.take k)))) (fun _ i _ => nk - (intOf i).toNat)
  case atStart => exact ⟨0, 0, none, 0, Nat.zero_le _, Nat.zero_le _, rfl, rfl, Lib.hid (by simpa [kD] using RwS.nil0 w), Below.refl _ _, .inl rfl⟩
  case round =>
    obtain ⟨k, no, qo, co, hk, hno, rfl, rfl, hK, hB, hN⟩ := hrel
    by_cases hlt : k < nk
    · have kn : (k : Int) < (nk : Int) := by omega
      obtain ⟨row, hrow⟩ : ∃ row, D[k]? = some row := ⟨_, List.getElem?_eq_getElem (by rw [HLEN.out]; exact hlt)⟩
      obtain ⟨b, o, q1, m1, c1, q2, m2, c2, rfl, d1, d2, s1, s2⟩ := HD.out.row k row hrow
      have D1 := (hB.out.cell (p := ⟨b, o + k * 2, none⟩) (lt_of_cell d1)).trans d1
      have D2 := (hB.out.cell (p := ⟨b, o + k * 2 + 1, none⟩) (lt_of_cell d2)).trans d2
      have S1 := Lib.hid (s1.keep hB.out); have S2 := Lib.hid (s2.keep hB.out)
      have HX : Hid (kD (D.take (k + 1)) = insF (kD (D.take k)) row) := kD_take hrow
      have hkept := Lib.hid (HKK.out k)
      have hrw : Hid (Fit wd t row) := HF.out row (List.mem_of_getElem? hrow)
      have hln := Lib.hid (kD_len D (k + 1))
      clear d1 d2 s1 s2 hrow
      go_wp2_with fail
      clear D1 D2
      refine use_w1 (fun W => Below wr.heap.size wr W) (al (Below.refl _ _) (Nat.le_refl _)) ?_
      rintro w2 b2
      refine Calls.mono (Insert_own wd t qo no co (kD (D.take k)) q1 q2 m1 c1 m2 c2 row w2 (hK.out.keep b2) (S1.out.keep b2) (S2.out.keep b2) hkept.out.rows hrw.out HR1.out HR2.out (by omega)) ?_
      rintro e w3 ⟨q3, n3, c3, hn3, rfl, hK3, hb3, hor⟩
      have B3 : Below wr.heap.size wr w3 := bl b2 hb3 b2.size
      have hle : n3 ≤ k + 1 := by rw [hn3, ← HX.out]; exact hln.out
      have hsz : w.heap.size ≤ w2.heap.size := Nat.le_trans hB.out.size b2.size
      have P : Hid (RwS w3 q3 n3 c3 (kD (D.take (k + 1))) ∧ Below w.heap.size w w3 ∧ (n3 = 0 ∨ ∃ W, w.heap.size ≤ W.heap.size ∧ RwN W w3 68 q3 n3 c3 (kD (D.take (k + 1))))) := by
        refine ⟨by rw [HX.out]; exact hK3, bl hB.out B3 hB.out.size, ?_⟩
        rcases hor with e | ⟨W, hW, hNW⟩
        · injection e with e1 e2 e3
          subst e1; subst e2; subst e3
          rcases hN.out with h0 | ⟨W, hW, hNW⟩
          · exact .inl h0
          · right
            have e4 : insF (kD (D.take k)) row = kD (D.take k) := insF_same (by rw [← hn3, ← hK.out.len])
            rw [HX.out, e4]
            exact ⟨W, hW, RwN.keep hNW B3⟩
        · right
          rw [HX.out]
          exact ⟨W, Nat.le_trans hsz hW, hNW⟩
      clear hK3 hb3 hor b2 B3 hn3 hsz hK hB hN HX hkept hrw hln S1 S2
      go_wp2
      go_roundw
      case rel => exact ⟨k + 1, n3, q3, c3, by omega, hle, by go_num, rfl, P.out.1, P.out.2.1, P.out.2.2⟩
      case measure => simp [intOf]; omega
    · have hkm : k = nk := by omega
      have hge : (nk : Int) ≤ (k : Int) := by omega
      have hz : D.take k = D := List.take_of_length_le (by rw [HLEN.out, hkm]; exact Nat.le_refl _)
      obtain ⟨K0, hK0⟩ : ∃ K0, K0 = kD D := ⟨_, rfl⟩
      rw [hz, ← hK0] at hK hN
      have hkept : KeptS wd t K0 := by have := HKK.out k; rw [hz, ← hK0] at this; exact this
      obtain ⟨L, hLs, hBI⟩ := listF_BI hkept
      have HL : Hid (K0.length = no) := hK.out.len
      rw [HL.out] at hBI hLs
      have HBI := Lib.hid hBI; have HLS := Lib.hid hLs
      have HSH : Hid (no ≤ co ∧ co ≤ maxLen ∧ (qo = none → no = 0 ∧ co = 0)) := ⟨hK.out.le, hK.out.max, hK.out.nil⟩
      have HM0 : Hid (RMemV wr w.heap.size 68 qo no co (listF K0)) := RMemV.of hN.out
      have HB0 := Lib.hid hB.out
      have HRES : Hid (redL (kD D) = (List.range no).map (backB no no (listF K0))) := by show _ = _; rw [← hK0]; unfold redL; rw [HL.out]
      clear hK hN hB hkept hLs hBI hz hK0 HKK HD HF HLEN hkm
      go_wp2
      go_loopw [22] (fun v wr => ∃ i : Nat, i ≤ no ∧ v = .int .i64 i ∧ Hid (RMemV wr w.heap.size 68 qo no co (backB no i (listF K0))) ∧ Hid (Below w.heap.size w wr)) (fun i _ => no - (intOf i).toNat)
      case atStart => exact ⟨0, Nat.zero_le _, rfl, HM0.out, HB0.out⟩
      case round =>
        clear HM0 HB0
        obtain ⟨i, hin, rfl, hM, hB⟩ := hrel
        by_cases hi : i < no
        · have inn : (i : Int) < (no : Int) := by omega
          have HRW : Hid (∀ k, k ≤ no → BI wd t no L (K0.map vR) (rowB i k (backB no i (listF K0))) i k) := fun k hk => (HBI.out.all HLS.out i (by omega)).row HLS.out hi k hk
          have HNXT : Hid (rowB i no (backB no i (listF K0)) = backB no (i + 1) (listF K0)) := rfl
          obtain ⟨G, hG⟩ : ∃ G, G = backB no i (listF K0) := ⟨_, rfl⟩
          rw [← hG] at HRW HNXT hM
          have HM1 := Lib.hid hM.out; have HB1 := Lib.hid hB.out
          clear hM hB hG
          go_wp2
          go_loopw [27] (fun v wr => ∃ k : Nat, k ≤ no ∧ v = .int .i64 k ∧ Hid (RMemV wr w.heap.size 68 qo no co (rowB i k G)) ∧ Hid (Below w.heap.size w wr)) (fun i _ => no - (intOf i).toNat)
          case atStart => exact ⟨0, Nat.zero_le _, rfl, HM1.out, HB1.out⟩
          case round =>
            clear HM1 HB1
            obtain ⟨k, hkn, rfl, hM, hB⟩ := hrel
            by_cases hk2 : k < no
            · have knn : (k : Int) < (no : Int) := by omega
              have hbi := HRW.out k hkn
              have HSTEP : Hid (rowB i (k + 1) G = stepB (rowB i k G) i k) := rfl
              obtain ⟨F, hF⟩ : ∃ F, F = rowB i k G := ⟨_, rfl⟩
              rw [← hF] at hbi hM HSTEP
              by_cases hki : k = i
              · subst hki
                have hS : Hid (RMemV wr w.heap.size 68 qo no co (rowB k (k + 1) G)) := by show RMemV _ _ _ _ _ _ _; rw [HSTEP.out]; unfold stepB; rw [if_pos rfl]; exact hM.out
                have BB := Lib.hid hB.out
                clear hbi hF HSTEP hM hB
                go_wp2
                go_roundw
                case rel => exact ⟨k + 1, by omega, by go_num, hS.out, BB.out⟩
                case measure => simp [intOf]; omega
              · have hne : ((k : Int) != (i : Int)) = true := by simp; omega
                rcases hM.out with h0 | ⟨g, rfl, hgw, hMC⟩
                · omega
                obtain ⟨fi, li, -⟩ := hbi.led hi
                obtain ⟨fk, lk, -⟩ := hbi.led hk2
                obtain ⟨a1, b1, d1, a2, b2, d2, cu0, cu1, fz0, fz1, s1, s2, -, -⟩ := hMC.at hi
                obtain ⟨p1, n1, e1, p2, n2, e2, cv0, cv1, -, -, t1, t2, -, -⟩ := hMC.at hk2
                obtain ⟨l, hl⟩ : ∃ l, l = leadN (F k) := ⟨_, rfl⟩
                have hLJ : leadS (F k).1 = (l : Int) := by rw [hl]; exact lk.at.1
                have hlw0 : l < wd := by rw [hl]; exact lk.at.lt fk
                have lb1 : b1 = wd := by have := s1.len; rw [fi.1] at this; exact this.symm
                have lb2 : b2 = t := by have := s2.len; rw [fi.2] at this; exact this.symm
                have ln1 : n1 = wd := by have := t1.len; rw [fk.1] at this; exact this.symm
                have ln2 : n2 = t := by have := t2.len; rw [fk.2] at this; exact this.symm
                have hlw : l < b1 := by rw [lb1]; exact hlw0
                obtain ⟨bx, ox, cx, rfl, hcx, hxx⟩ := s1.at l hlw
                have hcA : atS (F i).1 (leadS (F k).1) = cx := by rw [hLJ]; exact at_of hxx.out
                obtain ⟨YJ, hYJ⟩ : ∃ YJ, YJ = lessF (F i) cx (F k) := ⟨_, rfl⟩
                have HST : Hid (rowB i (k + 1) G = updF F i YJ) := by show _ = _; rw [HSTEP.out]; unfold stepB; rw [if_neg hki, hcA, ← hYJ]
                have HLD : Hid (∀ W, Sl B8 W p1 n1 e1 (F k).1 → Calls Try.prog 75 #[.slice p1 n1 e1] W fun e w' => e = .returned (.int .i64 (l : Nat)) ∧ W = w') := fun W h => by have := RLead_any _ _ _ _ W h; rwa [hLJ] at this
                have HLS' : Hid (∀ W, Sl B8 W (some ⟨bx, ox, none⟩) b1 d1 (F i).1 → Sl B8 W a2 b2 d2 (F i).2 → Sl B8 W p1 n1 e1 (F k).1 → Sl B8 W p2 n2 e2 (F k).2 → Calls Try.prog 74 #[.agg #[.slice (some ⟨bx, ox, none⟩) b1 d1, .slice a2 b2 d2], B8 cx, .agg #[.slice p1 n1 e1, .slice p2 n2 e2]] W (RetR2 5 W YJ 0)) := fun W h1 h2 h3 h4 => by
                  have := RLess_any (some ⟨bx, ox, none⟩) a2 p1 p2 b1 d1 b2 d2 n1 e1 n2 e2 (F i).1 (F i).2 (F k).1 (F k).2 cx W h1 h2 h3 h4 (by rw [lb1]; exact HR1.out) (by rw [lb2]; exact HR2.out) (by rw [ln1]; exact HR1.out) (by rw [ln2]; exact HR2.out)
                  rw [lessS_fit (n := wd) (t := t) (x := F i) (k := F k) fi fk, ← hYJ] at this
                  exact this
                have S1 := Lib.hid s1; have S2 := Lib.hid s2; have T1 := Lib.hid t1; have T2 := Lib.hid t2
                have MC := Lib.hid hMC; have BB := Lib.hid hB.out
                have hgx : g < wr.heap.size := lt_of_cell cu0
                have lw : (l : Int) < (b1 : Int) := by omega
                have ne : (5 : Nat) ≠ 68 := by decide
                have HLS := HLS'
                clear HLS' s1 s2 t1 t2 hMC hM hB hbi hF HSTEP fi li fk lk hl hLJ hlw0 lb1 lb2 ln1 ln2 hxx hcA hYJ
                go_wp2_with fail
                refine wp_region_boxed 68 (fun ix => ([.val _ _ (.slice (some ⟨g, 0, none⟩) no co), .val _ _ (.int .i64 i), .val _ _ (.pointer (some ⟨g, i * 2, none⟩)), .val _ _ (.agg #[.slice (some ⟨bx, ox, none⟩) b1 d1, .slice a2 b2 d2]), .val _ _ (.slice (some ⟨g, 0, none⟩) no co), .val _ _ (.int .i64 i), .val _ _ (.pointer (some ⟨g, i * 2, none⟩)), .val _ _ (.pointer (some ⟨g, i * 2, none⟩)), .val _ _ (.slice (some ⟨bx, ox, none⟩) b1 d1), .val _ _ (.slice (some ⟨g, 0, none⟩) no co), .val _ _ (.int .i64 k), .val _ _ (.pointer (some ⟨g, k * 2, none⟩)), .val _ _ (.pointer (some ⟨g, k * 2, none⟩)), .val _ _ (.slice p1 n1 e1), .val _ _ (.int .i64 (l : Nat)), .val _ _ (.pointer (some ⟨bx, ox + l, none⟩)), .val _ _ (B8 cx), .val _ _ (.slice (some ⟨g, 0, none⟩) no co), .val _ _ (.int .i64 k), .val _ _ (.pointer (some ⟨g, k * 2, none⟩)), .val _ _ (.agg #[.slice p1 n1 e1, .slice p2 n2 e2]), ShX.rowTB _ _ (YJ) (0), ShX.rowTB _ _ (YJ) (0), ShX.rowB _ _ (YJ), .val _ _ (.int .i64 0), .box _ _ 2, .any _ _, .val _ _ (.int .i64 0)][ix]?).getD (.any _ _)) 26 8 (ShX.rowB _ _ (YJ)) 65 rfl (by kernel_rfl) (by decide) (by decide) (by decide) ?_ ?_
                · refine ⟨?_, ?_, ?_, ?_, ?_, ?_, ?_, ?_, ?_, ?_, ?_, ?_, ?_, ?_, ?_, ?_, ?_, ?_, ?_, ?_, ?_, ?_, ?_, ?_, ?_, ?_, ?_, ?_, trivial⟩
                  · intro a W hb hs hp hi
                    have t3 : sl a 3 = .slice (some ⟨g, 0, none⟩) no co := hi 3 (by decide)
                    exact ite_y rfl (wp_val (sl a 3) rfl ⟨_, rfl, Below.refl _ _, t3⟩)
                  · intro a W hb hs hp hi
                    have t6 : sl a 6 = .int .i64 i := hi 6 (by decide)
                    exact ite_y rfl (wp_val (sl a 6) rfl ⟨_, rfl, Below.refl _ _, t6⟩)
                  · intro a W hb hs hp hi
                    have ti0 : sl a 34 = .slice (some ⟨g, 0, none⟩) no co := hp 0 (by decide)
                    have ti1 : sl a 35 = .int .i64 i := hp 1 (by decide)
                    refine ite_y rfl (wp_val (.pointer (some ⟨g, i * 2, none⟩)) ?_ ?_)
                    · simp only [execOp, eval_tmp, eval_const, ti0, ti1]; simp [go_sem, inn, hi]
                    · exact ⟨_, rfl, Below.refl _ _, rfl⟩
                  · intro a W hb hs hp hi
                    have tt : sl a 36 = .pointer (some ⟨g, i * 2, none⟩) := hp 2 (by decide)
                    have dd0 := (hb.cell (p := ⟨g, i * 2, none⟩) (lt_of_cell cu0)).trans cu0
                    have dd1 := (hb.cell (p := ⟨g, i * 2 + 1, none⟩) (lt_of_cell cu1)).trans cu1
                    refine ite_y rfl (wp_val (.agg #[.slice (some ⟨bx, ox, none⟩) b1 d1, .slice a2 b2 d2]) ?_ ?_)
                    · simp only [execOp, eval_tmp, tt]; simp [go_sem, dd0, dd1]
                    · exact ⟨_, rfl, Below.refl _ _, rfl⟩
                  · intro a W hb hs hp hi
                    have t3 : sl a 3 = .slice (some ⟨g, 0, none⟩) no co := hi 3 (by decide)
                    exact ite_y rfl (wp_val (sl a 3) rfl ⟨_, rfl, Below.refl _ _, t3⟩)
                  · intro a W hb hs hp hi
                    have t6 : sl a 6 = .int .i64 i := hi 6 (by decide)
                    exact ite_y rfl (wp_val (sl a 6) rfl ⟨_, rfl, Below.refl _ _, t6⟩)
                  · intro a W hb hs hp hi
                    have ti0 : sl a 38 = .slice (some ⟨g, 0, none⟩) no co := hp 4 (by decide)
                    have ti1 : sl a 39 = .int .i64 i := hp 5 (by decide)
                    refine ite_y rfl (wp_val (.pointer (some ⟨g, i * 2, none⟩)) ?_ ?_)
                    · simp only [execOp, eval_tmp, eval_const, ti0, ti1]; simp [go_sem, inn, hi]
                    · exact ⟨_, rfl, Below.refl _ _, rfl⟩
                  · intro a W hb hs hp hi
                    have t40 : sl a 40 = .pointer (some ⟨g, i * 2, none⟩) := hp 6 (by decide)
                    refine ite_y rfl (wp_val (.pointer (some ⟨g, i * 2, none⟩)) ?_ ?_)
                    · simp only [execOp, eval_tmp, eval_const, t40]; simp [go_sem]
                    · exact ⟨_, rfl, Below.refl _ _, rfl⟩
                  · intro a W hb hs hp hi
                    have tt : sl a 41 = .pointer (some ⟨g, i * 2, none⟩) := hp 7 (by decide)
                    have dd0 := (hb.cell (p := ⟨g, i * 2, none⟩) (lt_of_cell cu0)).trans cu0
                    refine ite_y rfl (wp_val (.slice (some ⟨bx, ox, none⟩) b1 d1) ?_ ?_)
                    · simp only [execOp, eval_tmp, tt]; simp [go_sem, dd0]
                    · exact ⟨_, rfl, Below.refl _ _, rfl⟩
                  · intro a W hb hs hp hi
                    have t3 : sl a 3 = .slice (some ⟨g, 0, none⟩) no co := hi 3 (by decide)
                    exact ite_y rfl (wp_val (sl a 3) rfl ⟨_, rfl, Below.refl _ _, t3⟩)
                  · intro a W hb hs hp hi
                    have t7 : sl a 7 = .int .i64 k := hi 7 (by decide)
                    exact ite_y rfl (wp_val (sl a 7) rfl ⟨_, rfl, Below.refl _ _, t7⟩)
                  · intro a W hb hs hp hi
                    have ti0 : sl a 43 = .slice (some ⟨g, 0, none⟩) no co := hp 9 (by decide)
                    have ti1 : sl a 44 = .int .i64 k := hp 10 (by decide)
                    refine ite_y rfl (wp_val (.pointer (some ⟨g, k * 2, none⟩)) ?_ ?_)
                    · simp only [execOp, eval_tmp, eval_const, ti0, ti1]; simp [go_sem, knn, hk2]
                    · exact ⟨_, rfl, Below.refl _ _, rfl⟩
                  · intro a W hb hs hp hi
                    have t45 : sl a 45 = .pointer (some ⟨g, k * 2, none⟩) := hp 11 (by decide)
                    refine ite_y rfl (wp_val (.pointer (some ⟨g, k * 2, none⟩)) ?_ ?_)
                    · simp only [execOp, eval_tmp, eval_const, t45]; simp [go_sem]
                    · exact ⟨_, rfl, Below.refl _ _, rfl⟩
                  · intro a W hb hs hp hi
                    have tt : sl a 46 = .pointer (some ⟨g, k * 2, none⟩) := hp 12 (by decide)
                    have dd0 := (hb.cell (p := ⟨g, k * 2, none⟩) (lt_of_cell cv0)).trans cv0
                    refine ite_y rfl (wp_val (.slice p1 n1 e1) ?_ ?_)
                    · simp only [execOp, eval_tmp, tt]; simp [go_sem, dd0]
                    · exact ⟨_, rfl, Below.refl _ _, rfl⟩
                  · intro a W hb hs hp hi
                    have t47 : sl a 47 = .slice p1 n1 e1 := hp 13 (by decide)
                    refine ite_y rfl (wp_enter 75 #[.slice p1 n1 e1] ?_ (HLD.out W (T1.out.keep hb)) ?_)
                    · simp only [execOp, resolve, List.map_toArray, List.map, eval_tmp, eval_func, eval_const, t47]; simp [go_sem]
                    · rintro e W' ⟨rfl, rfl⟩; exact ⟨_, rfl, _, rfl, Below.refl _ _, rfl⟩
                  · intro a W hb hs hp hi
                    have ti0 : sl a 42 = .slice (some ⟨bx, ox, none⟩) b1 d1 := hp 8 (by decide)
                    have ti1 : sl a 48 = .int .i64 (l : Nat) := hp 14 (by decide)
                    refine ite_y rfl (wp_val (.pointer (some ⟨bx, ox + l, none⟩)) ?_ ?_)
                    · simp only [execOp, eval_tmp, eval_const, ti0, ti1]; simp [go_sem, lw, hlw]
                    · exact ⟨_, rfl, Below.refl _ _, rfl⟩
                  · intro a W hb hs hp hi
                    have tt : sl a 49 = .pointer (some ⟨bx, ox + l, none⟩) := hp 15 (by decide)
                    have dd := (hb.cell (p := ⟨bx, ox + l, none⟩) (lt_of_cell hcx)).trans hcx
                    refine ite_y rfl (wp_val (B8 cx) ?_ ?_)
                    · simp only [execOp, eval_tmp, tt]; simp [go_sem, dd]
                    · exact ⟨_, rfl, Below.refl _ _, rfl⟩
                  · intro a W hb hs hp hi
                    have t3 : sl a 3 = .slice (some ⟨g, 0, none⟩) no co := hi 3 (by decide)
                    exact ite_y rfl (wp_val (sl a 3) rfl ⟨_, rfl, Below.refl _ _, t3⟩)
                  · intro a W hb hs hp hi
                    have t7 : sl a 7 = .int .i64 k := hi 7 (by decide)
                    exact ite_y rfl (wp_val (sl a 7) rfl ⟨_, rfl, Below.refl _ _, t7⟩)
                  · intro a W hb hs hp hi
                    have ti0 : sl a 51 = .slice (some ⟨g, 0, none⟩) no co := hp 17 (by decide)
                    have ti1 : sl a 52 = .int .i64 k := hp 18 (by decide)
                    refine ite_y rfl (wp_val (.pointer (some ⟨g, k * 2, none⟩)) ?_ ?_)
                    · simp only [execOp, eval_tmp, eval_const, ti0, ti1]; simp [go_sem, knn, hk2]
                    · exact ⟨_, rfl, Below.refl _ _, rfl⟩
                  · intro a W hb hs hp hi
                    have tt : sl a 53 = .pointer (some ⟨g, k * 2, none⟩) := hp 19 (by decide)
                    have dd0 := (hb.cell (p := ⟨g, k * 2, none⟩) (lt_of_cell cv0)).trans cv0
                    have dd1 := (hb.cell (p := ⟨g, k * 2 + 1, none⟩) (lt_of_cell cv1)).trans cv1
                    refine ite_y rfl (wp_val (.agg #[.slice p1 n1 e1, .slice p2 n2 e2]) ?_ ?_)
                    · simp only [execOp, eval_tmp, tt]; simp [go_sem, dd0, dd1]
                    · exact ⟨_, rfl, Below.refl _ _, rfl⟩
                  · intro a W hb hs hp hi
                    have t37 : sl a 37 = .agg #[.slice (some ⟨bx, ox, none⟩) b1 d1, .slice a2 b2 d2] := hp 3 (by decide)
                    have t50 : sl a 50 = B8 cx := hp 16 (by decide)
                    have t54 : sl a 54 = .agg #[.slice p1 n1 e1, .slice p2 n2 e2] := hp 20 (by decide)
                    refine ite_y rfl (wp_enter 74 #[.agg #[.slice (some ⟨bx, ox, none⟩) b1 d1, .slice a2 b2 d2], B8 cx, .agg #[.slice p1 n1 e1, .slice p2 n2 e2]] ?_ (HLS.out W (S1.out.keep hb) (S2.out.keep hb) (T1.out.keep hb) (T2.out.keep hb)) ?_)
                    · simp only [execOp, resolve, List.map_toArray, List.map, eval_tmp, eval_func, eval_const, t37, t50, t54]; simp [go_sem]
                    · rintro e W' ⟨q5, m5, g5, q6, m6, g6, e5, e6, rfl, o5, o6, hw⟩
                      exact ⟨_, rfl, _, rfl, hw, _, rfl, XRowB.of_owns ne o5 o6 hb.size⟩
                  · intro a W hb hs hp hi
                    exact ite_y rfl (wp_val (sl a 55) rfl ⟨_, rfl, Below.refl _ _, hp 21 (by decide)⟩)
                  · intro a W hb hs hp hi
                    have t33 : XRowTB _ _ (YJ) (0) (sl a 33) W := hp 22 (by decide)
                    obtain ⟨u, t33, hr⟩ := t33
                    refine ite_y rfl (wp_val (u) ?_ ?_)
                    · simp only [execOp, eval_tmp, t33]; rfl
                    · exact ⟨_, rfl, Below.refl _ _, hr⟩
                  · intro a W hb hs hp hi
                    have t33 : XRowTB _ _ (YJ) (0) (sl a 33) W := hp 22 (by decide)
                    obtain ⟨u, t33, hr⟩ := t33
                    refine ite_y rfl (wp_val (.int .i64 0) ?_ ?_)
                    · simp only [execOp, eval_tmp, t33]; rfl
                    · exact ⟨_, rfl, Below.refl _ _, rfl⟩
                  · intro a W hb hs hp hi
                    refine ite_y rfl (wp_val' (w' := W.alloc (.cells #[.slice none 0 0, .slice none 0 0] 68)) (.pointer (some ⟨W.heap.size, 0, none⟩)) ?_ ?_)
                    · simp only [execOp]; simp [go_sem]
                    · exact ⟨_, rfl, al (Below.refl _ _) (Nat.le_refl _), W.heap.size, #[.slice none 0 0, .slice none 0 0], rfl, hb.size, rfl, hnew rfl⟩
                  · intro a W hb hs hp hi
                    have tu : XRowB _ _ _ (sl a 56) W := hp 23 (by decide)
                    have tb : XBox _ _ _ (sl a 8) W := hp 25 (by decide)
                    obtain ⟨q5, m5, g5, q6, m6, g6, tu, z5, z6⟩ := tu
                    obtain ⟨b, cs, tb, hB, hc, hh⟩ := tb
                    obtain ⟨u0, u1, rfl⟩ := size2 hc
                    obtain ⟨d0, d1⟩ := cells2 hh
                    have z0 : W.frozen? ⟨b, 0, none⟩ = false := frozen_of_row _ _ 0 _ _ hh
                    have z1 : W.frozen? ⟨b, 1, none⟩ = false := frozen_of_row _ _ 1 _ _ hh
                    refine ite_y rfl (wp_skipX (w' := (W.setCell ⟨b, 0, none⟩ (.slice q5 m5 g5)).setCell ⟨b, 1, none⟩ (.slice q6 m6 g6)) ?_ ?_)
                    · simp only [execOp, eval_tmp, tu, tb]; simp [go_sem, d0, d1, z0, z1]
                    · have hst := stepX_set2 (v0 := .slice q5 m5 g5) (v1 := .slice q6 m6 g6) hB hh
                      exact ⟨_, rfl, hst, b, _, tb, hB, heap_set2 hh, XRowB.step (by exact ⟨q5, m5, g5, q6, m6, g6, rfl, z5, z6⟩) hst⟩
                  · intro a W hb hs hp hi
                    have t57 : sl a 57 = .int .i64 0 := hp 24 (by decide)
                    exact ite_y rfl (wp_val (sl a 57) rfl ⟨_, rfl, Below.refl _ _, t57⟩)
                intro a w9 hb hs hd hI ht
                have ha := act_is [34, 35, 36, 37, 38, 39, 40, 41, 42, 43, 44, 45, 46, 47, 48, 49, 50, 51, 52, 53, 54, 55, 33, 56, 57, 8, 9] hs hd ht (by decide)
                have tb : Boxed _ _ _ _ (sl a) w9 := hI 26 (by decide)
                obtain ⟨b8, cs, tb, hB8, h8, q8a, m8a, g8a, q8b, m8b, g8b, ec, ⟨⟨z8a, -⟩, ⟨z8b, -⟩⟩, y8a, y8b⟩ := tb
                obtain rfl : cs = #[.slice q8a m8a g8a, .slice q8b m8b g8b] := by injection ec
                simp only [List.foldl, tb] at ha
                generalize sl a 34 = u34 at ha
                generalize sl a 35 = u35 at ha
                generalize sl a 36 = u36 at ha
                generalize sl a 37 = u37 at ha
                generalize sl a 38 = u38 at ha
                generalize sl a 39 = u39 at ha
                generalize sl a 40 = u40 at ha
                generalize sl a 41 = u41 at ha
                generalize sl a 42 = u42 at ha
                generalize sl a 43 = u43 at ha
                generalize sl a 44 = u44 at ha
                generalize sl a 45 = u45 at ha
                generalize sl a 46 = u46 at ha
                generalize sl a 47 = u47 at ha
                generalize sl a 48 = u48 at ha
                generalize sl a 49 = u49 at ha
                generalize sl a 50 = u50 at ha
                generalize sl a 51 = u51 at ha
                generalize sl a 52 = u52 at ha
                generalize sl a 53 = u53 at ha
                generalize sl a 54 = u54 at ha
                generalize sl a 55 = u55 at ha
                generalize sl a 33 = u33 at ha
                generalize sl a 56 = u56 at ha
                generalize sl a 57 = u57 at ha
                generalize sl a 9 = u9 at ha
                simp only [Act.put, List.setIfInBounds_toArray, List.set_cons_zero, List.set_cons_succ] at ha
                rw [ha]
                clear ha hI ht
                have MC9 := Lib.hid (MC.out.keep hb); have BB9 := Lib.hid (bl BB.out hb BB.out.size)
                have g9 := MC9.out.at hi
                obtain ⟨r1, r2, r3, r4, r5, r6, cu0', cu1', fz0', fz1', -⟩ := g9
                obtain ⟨y0, y1⟩ := cells2 h8
                have hoff : RowOff2 w9 g (.slice q8a m8a g8a) (.slice q8b m8b g8b) YJ := ⟨q8a, m8a, g8a, q8b, m8b, g8b, rfl, rfl, z8a, z8b, fun h a ha => by have := y8a h a ha; omega, fun h a ha => by have := y8b h a ha; omega⟩
                have NX : Hid (RMemV ((w9.setCell ⟨g, i * 2, none⟩ (.slice q8a m8a g8a)).setCell ⟨g, i * 2 + 1, none⟩ (.slice q8b m8b g8b)) w.heap.size 68 (some ⟨g, 0, none⟩) no co (rowB i (k + 1) G) ∧ Below w.heap.size w ((w9.setCell ⟨g, i * 2, none⟩ (.slice q8a m8a g8a)).setCell ⟨g, i * 2 + 1, none⟩ (.slice q8b m8b g8b))) := by
                  rw [HST.out]
                  exact ⟨.inr ⟨g, rfl, hgw, MC9.out.set hi hoff⟩, (BB9.out.setCell hgw _).setCell hgw _⟩
                clear MC BB MC9 BB9 hoff z8a z8b y8a y8b hb S1 S2 T1 T2 HLD HLS HST cu0 cu1 cv0 cv1 fz0 fz1 h8 hcx
                go_wp2
                go_roundw
                case rel => exact ⟨k + 1, by omega, by go_num, NX.out.1, NX.out.2⟩
                case measure => simp [intOf]; omega
            · have hkm : k = no := by omega
              have hge : (no : Int) ≤ (k : Int) := by omega
              have HF1 : Hid (RMemV wr w.heap.size 68 qo no co (backB no (i + 1) (listF K0))) := by show RMemV _ _ _ _ _ _ _; rw [← HNXT.out]; have h := hM.out; rw [hkm] at h; exact h
              have BB := Lib.hid hB.out
              clear hM hB hkm
              go_wp2
              go_roundw
              case rel => exact ⟨i + 1, by omega, by go_num, HF1.out, BB.out⟩
              case measure => simp [intOf]; omega
        · have him : i = no := by omega
          have hge : (no : Int) ≤ (i : Int) := by omega
          have HF1 : Hid (RwS wr qo no co ((List.range no).map (backB no no (listF K0))) ∧ Below w.heap.size w wr ∧ (no = 0 ∨ ∃ g, qo = some ⟨g, 0, none⟩ ∧ w.heap.size ≤ g)) := ⟨by have h := hM.out; rw [him] at h; exact h.rwS HSH.out.1 HSH.out.2.1 HSH.out.2.2, hB.out, hM.out.imp id fun ⟨g, e, h, _⟩ => ⟨g, e, h⟩⟩
          clear hM hB him
          go_wp2
          go_ret
          exact ⟨qo, no, co, by rw [HRES.out]; simp, rfl, by rw [HRES.out]; exact HF1.out.1, HF1.out.2.1, HF1.out.2.2⟩
end Go.Proofs.Ytofhdakggapahaa
