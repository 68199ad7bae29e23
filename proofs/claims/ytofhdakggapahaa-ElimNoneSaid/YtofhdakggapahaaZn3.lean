/- The document's reduced rows: one behind the other cleared, in place; they are the system's. The contracts of slices.Grow and Concat at bytes; of the whole of the symbols. A region that draws its order, op by op: an invariant in place of the orders. Any program. Slices of byte slices that the call itself makes. A region that draws its order and stores nothing: each operation has a shape that lasts. A region that draws its order, with one store into a block of its own: each operation has a shape that lasts. The frame behind a region that draws its order; one operation with its operands known. A guard that never ran says no. The contracts of a grid's parts: blank, row, Width, Height, Same. The contracts of grid.Of, and of the reference's Of; Few. The contracts of grid.Unit and Rows. A slice of rows that the call owns. A region that draws its order, whose last operation waits for all others (a store): shapes for the others, then the last one. A region that draws its order, whose last operation (a store) waits for all others but one extract. -/
import Derived.Test.YtofhdakggapahaaZn2
import Derived.Lib.AppendZeros
import Derived.RegionTactic
import Derived.WalkKit
import Derived.Deep.AppendLies
namespace Go.Proofs.Ytofhdakggapahaa
open Go.By Gf
def stepB (F : Nat → Rw) (i k : Nat) : Nat → Rw := if k = i then F else updF F i (lessF (F i) (atS (F i).1 (leadS (F k).1)) (F k))
def rowB (i : Nat) : Nat → (Nat → Rw) → (Nat → Rw)
  | 0, F => F
  | k + 1, F => stepB (rowB i k F) i k
def backB (m : Nat) : Nat → (Nat → Rw) → (Nat → Rw)
  | 0, F => F
  | i + 1, F => rowB i m (backB m i F)
structure BI (n t m : Nat) (L : Nat → Nat) (W : List V) (F : Nat → Rw) (i k : Nat) : Prop where
  good : ∀ a, a < m → Fit n t (F a) ∧ LeadAt (F a) (L a)
  done : ∀ a, a < i → a < m → ∀ b, b < m → b ≠ a → vR (F a) (L b) = 0
  cur : ∀ b, b < k → b < m → b ≠ i → vR (F i) (L b) = 0
  sp1 : ∀ a, a < m → Sp W (vR (F a))
  sp2 : ∀ v, v ∈ W → Sp ((List.range m).map fun a => vR (F a)) v
theorem BI.led {n t m : Nat} {L : Nat → Nat} {W : List V} {F : Nat → Rw} {i k a : Nat} (h : BI n t m L W F i k) (ha : a < m) : Fit n t (F a) ∧ Led (F a) ∧ leadN (F a) = L a :=
  ⟨(h.good a ha).1, ⟨_, (h.good a ha).2⟩, leadN_of (h.good a ha).2⟩
theorem BI.step {n t m : Nat} {L : Nat → Nat} {W : List V} {F : Nat → Rw} {i k : Nat} (h : BI n t m L W F i k) (hL : ∀ a b, a < b → b < m → L a < L b) (hi : i < m) (hk : k < m) : BI n t m L W (stepB F i k) i (k + 1) := by
  unfold stepB
  by_cases hki : k = i
  · rw [if_pos hki]
    exact ⟨h.good, h.done, fun b hb hbm hne => h.cur b (by omega) hbm hne, h.sp1, h.sp2⟩
  · rw [if_neg hki]
    obtain ⟨fi, li, ni⟩ := h.led hi
    obtain ⟨fk, lk, nk⟩ := h.led hk
    have hLk : L k < n := (h.good k hk).2.lt fk
    have e : lessF (F i) (atS (F i).1 (leadS (F k).1)) (F k) = lessF (F i) (vR (F i) (L k)) (F k) := by rw [(h.good k hk).2.1, vR_at fi hLk]
    rw [e]
    obtain ⟨Y, hY⟩ : ∃ Y, Y = lessF (F i) (vR (F i) (L k)) (F k) := ⟨_, rfl⟩
    rw [← hY]
    have hv : vR Y = fun j => vR (F i) j ^^^ gmul (vR (F i) (L k)) (vR (F k) j) := by rw [hY, vR_less _ fi fk]
    have fY : Fit n t Y := by rw [hY]; exact fi.less fk
    have vk1 : vR (F k) (L k) = 1 := by rw [← nk]; exact vR_lead fk lk
    have kz : ∀ j, j < L k → vR (F k) j = 0 := fun j hj => vf_before fk lk (by rw [nk]; exact hj)
    have iz : ∀ j, j < L i → vR (F i) j = 0 := fun j hj => vf_before fi li (by rw [ni]; exact hj)
    have vi1 : vR (F i) (L i) = 1 := by rw [← ni]; exact vR_lead fi li
    -- up to where row i leads nothing turns
    have same : ∀ j, j ≤ L i → vR Y j = vR (F i) j := fun j hj => by
      rw [hv]
      show vR (F i) j ^^^ gmul (vR (F i) (L k)) (vR (F k) j) = _
      rcases Nat.lt_or_ge k i with g | g
      · rw [iz (L k) (hL k i g hi), zero_gmul, xor_zero]
      · rw [kz j (by have := hL i k (by omega) hk; omega), gmul_zero, xor_zero]
    have lY : LeadAt Y (L i) := leadAt_of fY ((h.good i hi).2.lt fi) (by rw [same _ (Nat.le_refl _)]; exact vi1) fun j hj => by rw [same j (by omega)]; exact iz j hj
    have ui : updF F i Y i = Y := updF_same F i Y
    have un : ∀ a, a ≠ i → updF F i Y a = F a := fun a ha => updF_ne F Y ha
    refine ⟨fun a ha => ?_, fun a ha ham b hb hne => ?_, fun b hb hbm hne => ?_, fun a ha => ?_, fun v hvW => ?_⟩
    · by_cases e : a = i
      · subst e; rw [ui]; exact ⟨fY, lY⟩
      · rw [un a e]; exact h.good a ha
    · rw [un a (by omega)]; exact h.done a ha ham b hb hne
    · rw [ui, hv]
      show vR (F i) (L b) ^^^ gmul (vR (F i) (L k)) (vR (F k) (L b)) = 0
      by_cases e : b = k
      · subst e; rw [vk1, gmul_one, xor_self]
      · have hbk : b < k := by omega
        rw [h.cur b hbk hbm hne, kz (L b) (hL b k hbk hk), gmul_zero, xor_self]
    · by_cases e : a = i
      · subst e; rw [ui, hv]; exact Sp.add (h.sp1 a hi) (Sp.scale _ (h.sp1 k hk))
      · rw [un a e]; exact h.sp1 a ha
    · refine Sp.trans (fun u hu => ?_) (h.sp2 v hvW)
      obtain ⟨a, ha, rfl⟩ := List.mem_map.1 hu
      have ham := List.mem_range.1 ha
      have mem : ∀ c, c < m → Sp ((List.range m).map fun a => vR (updF F i Y a)) (vR (updF F i Y c)) := fun c hc => Sp.mem (List.mem_map.2 ⟨c, List.mem_range.2 hc, rfl⟩)
      by_cases e : a = i
      · subst e
        have e2 : vR (F a) = fun j => vR Y j ^^^ gmul (vR (F a) (L k)) (vR (F k) j) := by
          funext j; rw [hv]; show _ = (vR (F a) j ^^^ _) ^^^ _; rw [xor_cancel]
        show Sp _ (vR (F a))
        rw [e2]
        have m1 := mem a hi; rw [ui] at m1
        have m2 := mem k hk; rw [un k hki] at m2
        exact Sp.add m1 (Sp.scale _ m2)
      · have m1 := mem a ham; rw [un a e] at m1; exact m1
theorem BI.row {n t m : Nat} {L : Nat → Nat} {W : List V} {F : Nat → Rw} {i : Nat} (h : BI n t m L W F i 0) (hL : ∀ a b, a < b → b < m → L a < L b) (hi : i < m) : ∀ k, k ≤ m → BI n t m L W (rowB i k F) i k
  | 0, _ => h
  | k + 1, hk => (BI.row h hL hi k (by omega)).step hL hi (by omega)
theorem BI.next {n t m : Nat} {L : Nat → Nat} {W : List V} {F : Nat → Rw} {i : Nat} (h : BI n t m L W F i m) : BI n t m L W F (i + 1) 0 :=
  ⟨h.good, fun a ha ham b hb hne => by
    by_cases e : a = i
    · subst e; exact h.cur b hb hb hne
    · exact h.done a (by omega) ham b hb hne, fun b hb => by omega, h.sp1, h.sp2⟩
theorem BI.all {n t m : Nat} {L : Nat → Nat} {W : List V} {F : Nat → Rw} (h : BI n t m L W F 0 0) (hL : ∀ a b, a < b → b < m → L a < L b) : ∀ i, i ≤ m → BI n t m L W (backB m i F) i 0
  | 0, _ => h
  | i + 1, hi => ((BI.all h hL i (by omega)).row hL (by omega) m (Nat.le_refl m)).next
theorem BI.red {n t m : Nat} {L : Nat → Nat} {W : List V} {F : Nat → Rw} (h : BI n t m L W F m 0) (hL : ∀ a b, a < b → b < m → L a < L b) : Red n t ((List.range m).map F) := by
  refine ⟨⟨fun k hk => ?_, ?_⟩, ?_⟩
  · obtain ⟨a, ha, rfl⟩ := List.mem_map.1 hk
    exact ⟨(h.led (List.mem_range.1 ha)).1, (h.led (List.mem_range.1 ha)).2.1⟩
  · refine List.pairwise_map.2 (List.pairwise_iff_getElem.2 fun i j hi hj hij => ?_)
    simp only [List.length_range] at hi hj
    simp only [List.getElem_range]
    rw [(h.led hi).2.2, (h.led hj).2.2]; exact hL i j hij hj
  · refine List.pairwise_map.2 (List.pairwise_iff_getElem.2 fun i j hi hj hij => ?_)
    simp only [List.length_range] at hi hj
    simp only [List.getElem_range]
    rw [(h.led hj).2.2]; exact h.done i hi hi j hj (by omega)
def listF (K : List Rw) : Nat → Rw := fun i => K.getD i ([], [])
theorem listF_map (K : List Rw) : (List.range K.length).map (listF K) = K := by
  apply List.ext_getElem?
  intro i
  by_cases hi : i < K.length
  · rw [List.getElem?_map, List.getElem?_range hi, List.getElem?_eq_getElem hi]
    simp [listF, hi]
  · rw [List.getElem?_eq_none (by simpa using hi), List.getElem?_eq_none (by omega)]
/-- the document's rows: reduced -/
def redL (K : List Rw) : List Rw := (List.range K.length).map (backB K.length K.length (listF K))
theorem redL_red {n t : Nat} {K : List Rw} (h : KeptS n t K) : Red n t (redL K) ∧ (∀ k, k ∈ redL K → Sp (K.map vR) (vR k)) ∧ (∀ k, k ∈ K → Sp ((redL K).map vR) (vR k)) ∧ (redL K).map leadN = K.map leadN := by
  have hat : ∀ a, a < K.length → listF K a ∈ K := fun a ha => by
    have : listF K a = K[a] := by simp [listF, ha]
    rw [this]; exact List.getElem_mem ha
  have hL : ∀ a b, a < b → b < K.length → leadN (listF K a) < leadN (listF K b) := fun a b hab hb => by
    have e1 : listF K a = K[a] := by simp [listF, show a < K.length by omega]
    have e2 : listF K b = K[b] := by simp [listF, hb]
    rw [e1, e2]; exact List.pairwise_iff_getElem.1 h.sorted a b (by omega) hb hab
  have h0 : BI n t K.length (fun a => leadN (listF K a)) (K.map vR) (listF K) 0 0 := by
    refine ⟨fun a ha => ⟨(h.rows _ (hat a ha)).1, (h.rows _ (hat a ha)).2.at⟩, fun a ha => by omega, fun b hb => by omega, fun a ha => Sp.mem (List.mem_map.2 ⟨_, hat a ha, rfl⟩), fun v hv => ?_⟩
    have e : ((List.range K.length).map fun a => vR (listF K a)) = K.map vR := by
      conv => rhs; rw [← listF_map K]
      rw [List.map_map]; rfl
    rw [e]; exact Sp.mem hv
  have hA := h0.all hL K.length (Nat.le_refl _)
  refine ⟨hA.red hL, fun k hk => ?_, fun k hk => ?_, ?_⟩
  · obtain ⟨a, ha, rfl⟩ := List.mem_map.1 hk
    exact hA.sp1 a (List.mem_range.1 ha)
  · have := hA.sp2 (vR k) (List.mem_map.2 ⟨k, hk, rfl⟩)
    unfold redL
    rw [List.map_map]; exact this
  · conv => rhs; rw [← listF_map K]
    unfold redL
    rw [List.map_map, List.map_map]
    apply List.map_congr_left
    intro a ha
    exact (hA.led (List.mem_range.1 ha)).2.2
/-- what is left of a row is the same, cleared by either -/
theorem rest_same {n t : Nat} {K M : List Rw} {x : Rw} (h : KeptS n t K) (g : Red n t M) (hx : Fit n t x) (h1 : ∀ k, k ∈ K → Sp (M.map vR) (vR k)) (hl : M.map leadN = K.map leadN) : restF K x = restF M x := by
  have fK := hx.rest (fun k hk => (h.rows k hk).1)
  have fM := hx.rest (fun k hk => (g.kept.rows k hk).1)
  have rK : vR (restF K x) = red (tri K) (vR x) := rest_red h.rows hx
  have rM : vR (restF M x) = red (tri M) (vR x) := rest_red g.kept.rows hx
  have s1 := red_span (tri K) (vR x)
  have s2 := red_span (tri M) (vR x)
  rw [tri_fst] at s1 s2
  have hD : Sp (M.map vR) (fun j => vR (restF K x) j ^^^ vR (restF M x) j) := by
    have e : (fun j => vR (restF K x) j ^^^ vR (restF M x) j) = fun j => (vR x j ^^^ red (tri K) (vR x) j) ^^^ (vR x j ^^^ red (tri M) (vR x) j) := by
      funext j; rw [rK, rM, xor4, xor_self, zero_xor]
    rw [e]
    exact Sp.add (Sp.trans (fun a ha => by obtain ⟨k, hk, rfl⟩ := List.mem_map.1 ha; exact h1 k hk) s1) s2
  have hz : ∀ k, k ∈ M → vR (restF K x) (leadN k) ^^^ vR (restF M x) (leadN k) = 0 := fun k hk => by
    have m1 : leadN k ∈ K.map leadN := by rw [← hl]; exact List.mem_map.2 ⟨k, hk, rfl⟩
    obtain ⟨k', hk', e⟩ := List.mem_map.1 m1
    rw [rK, rM]
    rw [red_at g.kept.kept.tri (vf (cat k), leadN k) (List.mem_map.2 ⟨k, hk, rfl⟩)]
    rw [← e, red_at h.kept.tri (vf (cat k'), leadN k') (List.mem_map.2 ⟨k', hk', rfl⟩), xor_self]
  have hzero : ∀ j, vR (restF K x) j ^^^ vR (restF M x) j = 0 := fun j => by
    have := congrFun (coords_red g hD) j
    rw [this]
    exact comb_map_zero _ _ j M fun k hk => by rw [hz k hk, zero_gmul]
  have hc : cat (restF K x) = cat (restF M x) := vf_inj (by rw [fK.cat, fM.cat]) fun j _ => xor_eq_zero (hzero j)
  unfold cat at hc
  obtain ⟨p1, p2⟩ := List.append_inj hc (by rw [fK.1, fM.1])
  exact Prod.ext p1 p2
/-- a system and what the document has of the same equations: K0 the rows put one by one -/
structure Sys (n t : Nat) (K0 K : List Rw) : Prop where
  kept : KeptS n t K0
  same : K = redL K0
theorem Sys.nil (n t : Nat) : Sys n t [] [] := ⟨KeptS.nil n t, rfl⟩
theorem Sys.red {n t : Nat} {K0 K : List Rw} (h : Sys n t K0 K) : Red n t K := by rw [h.same]; exact (redL_red h.kept).1
theorem Sys.rest {n t : Nat} {K0 K : List Rw} {x : Rw} (h : Sys n t K0 K) (hx : Fit n t x) : restF K0 x = restF K x := by
  obtain ⟨r1, r2, r3, r4⟩ := redL_red h.kept
  rw [h.same]; exact rest_same h.kept r1 hx r3 r4
theorem Sys.put {n t : Nat} {K0 K : List Rw} {x : Rw} (h : Sys n t K0 K) (hx : Fit n t x) (hn : ¬ leadS (restF K x).1 < 0) : Sys n t (insF K0 x) (putF K x) := by
  have hn0 : ¬ leadS (restF K0 x).1 < 0 := by rw [h.rest hx]; exact hn
  have hk0 := h.kept.step hx
  obtain ⟨r1, r2, r3, r4⟩ := redL_red h.kept
  obtain ⟨q1, q2, q3, q4⟩ := redL_red hk0
  obtain ⟨i1, i2, i3⟩ := insF_span h.kept hx hn0
  obtain ⟨p1, p2, p3, p4, -⟩ := putF_red h.red hx hn
  rw [← h.same] at r1 r2 r3
  refine ⟨hk0, p1.unique q1 (fun k hk => ?_) fun k hk => ?_⟩
  · refine Sp.trans (fun a ha => ?_) (p2 k hk)
    rcases List.mem_cons.1 ha with rfl | ha
    · exact Sp.trans (fun b hb => by obtain ⟨c, hc, rfl⟩ := List.mem_map.1 hb; exact q3 c hc) i3
    · obtain ⟨c, hc, rfl⟩ := List.mem_map.1 ha
      refine Sp.trans (fun b hb => ?_) (r2 c hc)
      obtain ⟨d, hd, rfl⟩ := List.mem_map.1 hb
      exact Sp.trans (fun b hb => by obtain ⟨c, hc, rfl⟩ := List.mem_map.1 hb; exact q3 c hc) (i2 d hd)
  · refine Sp.trans (fun a ha => ?_) (q2 k hk)
    obtain ⟨c, hc, rfl⟩ := List.mem_map.1 ha
    refine Sp.trans (fun b hb => ?_) (i1 c hc)
    rcases List.mem_cons.1 hb with rfl | hb
    · exact p4
    · obtain ⟨d, hd, rfl⟩ := List.mem_map.1 hb
      exact Sp.trans (fun b hb => by obtain ⟨e, he, rfl⟩ := List.mem_map.1 hb; exact p3 e he) (r3 d hd)
end Go.Proofs.Ytofhdakggapahaa
namespace Go.Proofs.Ytofhdakggapahaa
open Go.RowKit Go.By
set_option maxRecDepth 100000 in
set_option maxHeartbeats 1000000 in
theorem GrowNil_any (N : Nat) (w : World) (hN : Room N) :
    Calls Try.prog 84 #[.slice none 0 0, .int .i64 N] w fun e w' => ∃ q c', e = .returned (.slice q 0 c') ∧ w'.ownsRow w.heap.size 5 1 (.slice q 0 c') 0 [] ∧ Below w.heap.size w w' := by
  obtain ⟨i0, hi, hz0, hz1, hz2⟩ := info_parts info_u8
  by_cases h0 : N = 0
  · subst h0
    go_enter Try.func84, Try.ntmps84
    go_wp2
    go_ret
    exact ⟨none, 0, rfl, World.ownsRow_nil _ _ _ _, Below.refl _ _⟩
  · have hp : 0 < N := by omega
    unfold Room at hN
    have hr := fun ty => Lib.run_append_nil_zeros (P := Try.prog) w 25 3 ty 5 i0 (.int .u8 0) .i64 .i64 Try.underlying25 Try.underlying3 hi hz0 N hp (by rw [hz1]; omega) (by omega) (by rw [hz2]; omega)
    have g1 := grownCap_ge w N 0 5
    have g2 := grownCap_le_maxLen w N 0 5 (by unfold maxLen; omega)
    generalize grownCap w N 0 5 = G at *
    have G2 := Lib.hid g2
    unfold maxLen at g2
    have HR := Lib.hid hr; clear hr
    clear h0
    go_enter Try.func84, Try.ntmps84
    go_wp2_with (at_builtin; refine Lib.wpList_append_run _ rfl _ _ _ _ rfl _ _ rfl rfl _ _ (HR.out _) ?_)
    go_ret
    refine ⟨_, G, rfl, ⟨rfl, .inr ⟨w.heap.size, G, _, rfl, Nat.le_refl _, hnew rfl, Nat.zero_le _, G2.out, ?_, by simp⟩⟩, al (w1 := w.drew) ⟨rfl, rfl, rfl, Nat.le_refl _, fun _ _ => rfl⟩ (Nat.le_refl _)⟩
    simp [size_zeroCells, Value.cells]; omega
theorem flat_take {xss : List (List UInt8)} {k : Nat} {xs : List UInt8} (h : xss[k]? = some xs) : (xss.take (k + 1)).flatten = (xss.take k).flatten ++ xs := by
  obtain ⟨hk, h⟩ := List.getElem?_eq_some_iff.1 h
  rw [List.take_succ_eq_append_getElem hk, h, List.flatten_append]; simp
theorem flat_le (xss : List (List UInt8)) (k : Nat) : (xss.take k).flatten.length ≤ xss.flatten.length := by
  have : xss.flatten = (xss.take k).flatten ++ (xss.drop k).flatten := by rw [← List.flatten_append, List.take_append_drop]
  rw [this]; simp
set_option maxRecDepth 100000 in
set_option maxHeartbeats 1000000 in
theorem Concat_any (p : Option Addr) (n c : Nat) (xss : List (List UInt8)) (w : World) (h : Sl2 w p n c xss) (hr : Room xss.flatten.length) :
    Calls Try.prog 55 #[.slice p n c] w (RetB1 5 w xss.flatten) := by
  obtain ⟨i0, hi, hz0, hz1, hz2⟩ := info_parts info_u8
  have hn := h.bound
  obtain ⟨F, hF⟩ : ∃ F : Nat → List UInt8, F = fun k => (xss.take k).flatten := ⟨_, rfl⟩
  have HF : Hid (∀ k xs, xss[k]? = some xs → F (k + 1) = F k ++ xs) := fun k xs hx => by subst hF; exact flat_take hx
  have HM : Hid (∀ k, (F k).length ≤ 140737488355328) := fun k => by subst hF; exact Nat.le_trans (flat_le xss k) hr
  have HN : Hid (F n = xss.flatten) := by subst hF; show (xss.take n).flatten = _; rw [List.take_of_length_le (by rw [h.len]; omega)]
  have H0 : Hid (F 0 = []) := by subst hF; rfl
  obtain ⟨T, hT⟩ : ∃ T : Nat → Nat, T = fun k => (F k).length := ⟨_, rfl⟩
  have HL : Hid (∀ k, (F k).length = T k) := fun k => by subst hT; rfl
  have HT0 : T 0 = 0 := by rw [← HL.out, H0.out]; rfl
  have H := Lib.hid h
  have HTn : Hid (∀ k, T k ≤ 140737488355328) := fun k => by rw [← HL.out]; exact HM.out k
  clear h hr hF hT
  go_enter Try.func55, Try.ntmps55
  go_wp2
  go_loop [3, 11] (fun s i => ∃ k : Nat, k ≤ n ∧ i = .int .i64 k ∧ s = .int .i64 (T k)) (fun _ i => n - (intOf i).toNat)
  case atStart => exact ⟨0, Nat.zero_le _, rfl, by rw [HT0]; rfl⟩
  case round =>
    obtain ⟨k, hk, rfl, rfl⟩ := hrel
    have t1 := HTn.out k
    by_cases hlt : k < n
    · obtain ⟨b, o, q, m, c', xs, rfl, hc, hs, hx⟩ := H.out.at k hlt
      have e1 : T (k + 1) = T k + m := by rw [← HL.out, HF.out k xs hx.out, List.length_append, HL.out, hs.len]
      have t2 := HTn.out (k + 1)
      have hm := hs.bound
      have t3 : T k + m ≤ 140737488355328 := by omega
      have E1 := Lib.hid e1
      clear e1 t2 hs
      go_wp2
      go_round
      case rel => exact ⟨k + 1, by omega, by go_num, by rw [E1.out]; go_num⟩
      case measure => simp [intOf]; omega
    · have hkn : k = n := by omega
      subst hkn
      go_wp2_with fail
      refine (GrowNil_any (T k) w t1).mono ?_; rintro e w1 ⟨q0, c0, rfl, ho, hb⟩
      have HO := Lib.hid ho; clear ho
      go_wp2
      go_loopw [6, 27] (fun v i wr => ∃ (j : Nat) (q : Option Addr) (c' : Nat), j ≤ k ∧ i = .int .i64 j ∧ v = .slice q (T j) c' ∧ Hid (wr.ownsRow w.heap.size 5 1 (.slice q (T j) c') (T j) ((F j).map B8)) ∧ Below w.heap.size w wr) (fun _ i _ => k - (intOf i).toNat)
      case atStart => exact ⟨0, q0, c0, Nat.zero_le _, rfl, by rw [HT0], by rw [HT0, H0.out]; exact HO.out, hb⟩
      case round =>
        obtain ⟨j, q, c', hj, rfl, rfl, hov, hbv⟩ := hrel
        have s1 := HTn.out j
        by_cases hjk : j < k
        · obtain ⟨b, o, q', m, c'', xs, rfl, hc, hs, hx⟩ := H.out.at j hjk
          have hcw := (hbv.cell (p := ⟨b, o + j, none⟩) (lt_of_cell hc)).trans hc
          have e1 : T (j + 1) = T j + m := by rw [← HL.out, HF.out j xs hx.out, List.length_append, HL.out, hs.len]
          have e2 : F (j + 1) = F j ++ xs := HF.out j xs hx.out
          have t2 := HTn.out (j + 1)
          have hm := hs.bound
          have t3 : T j + m ≤ 140737488355328 := by omega
          have HS := Lib.hid hs
          have E1 := Lib.hid e1; have E2 := Lib.hid e2
          clear e1 e2 t2 hs
          go_wp2_with (at_builtin; refine wpList_append_rs _ rfl _ _ 25 rfl w.heap.size 5 i0 (.int .u8 0) 1 Try.underlying25 hi hz0 hz1 hz2 rfl _ (T j) _ rfl hov.out B8 _ _ _ xs (fun _ _ => rfl) rfl (HS.out.keep hbv) ?c1 ?c2 ?c3 ?_)
          case c1 => unfold maxLen; omega
          case c2 => omega
          case c3 => exact hbv.size
          intro v' w' ho' hg'
          obtain ⟨q2, c2, rfl⟩ := owns_shape ho'
          have hb' : Below w.heap.size w w' := hbv.grown hg' hbv.size (fun r hr' => (hov.out.lt r hr').1)
          clear hg'
          go_wp2
          go_roundw
          case rel => exact ⟨j + 1, q2, c2, by omega, by go_num, by rw [E1.out], by rw [E1.out, E2.out, List.map_append]; exact ho', hb'⟩
          case measure => simp [intOf]; omega
        · have hjk' : j = k := by omega
          subst hjk'
          go_wp2
          go_ret
          refine ⟨q, T j, c', ?_, rfl, ?_, hbv⟩
          · rw [← HN.out]; exact HL.out j
          · rw [← HN.out]; exact hov.out
end Go.Proofs.Ytofhdakggapahaa
namespace Go.By
open Go.RowKit
/-- the operations that must come ahead of this one -/
def preds (o : Oper) : List Nat := (o.after.toList.filter (fun e => Region.binds .any e)).map (·.on)
/-- a slot of the frame -/
def sl (a : Act) (t : Nat) : Value := a.tmps.getD t undef
/-- at operation i the slot t holds what it held at first -/
def initAt (ops : Array Oper) (i t : Nat) : Bool := (List.range ops.size).all fun j => j == i || match ops[j]? with
  | some o => (o.dst != some t) || (preds o).contains i
  | none => true
/-- the edges lead backwards -/
def backB (ops : Array Oper) : Bool := (List.range ops.size).all fun i => match ops[i]? with
  | some o => (preds o).all (fun k => decide (k < i))
  | none => true
theorem mem_ready {ops : Array Oper} {listed : Array Bool} {i : Nat} : i ∈ Region.ready .any ops listed ↔ i < ops.size ∧ listed.getD i true = false ∧ ∃ o, ops[i]? = some o ∧ ∀ k, k ∈ preds o → listed.getD k false = true := by
  simp only [Region.ready, List.mem_filter, List.mem_range, Bool.and_eq_true, Bool.not_eq_true', preds]
  constructor
  · rintro ⟨h1, h2, h3⟩
    refine ⟨h1, h2, ?_⟩
    have ho : ops[i]? = some ops[i] := Array.getElem?_eq_getElem h1
    refine ⟨_, ho, ?_⟩
    rw [ho] at h3
    simp only [Option.map_some, Option.getD_some, Array.all_eq_true_iff_forall_mem, Bool.or_eq_true, Bool.not_eq_true'] at h3
    intro k hk
    obtain ⟨e, he, rfl⟩ := List.mem_map.1 hk
    obtain ⟨he1, he2⟩ := List.mem_filter.1 he
    rcases h3 e (by simpa using he1) with h | h
    · rw [h] at he2; cases he2
    · exact h
  · rintro ⟨h1, h2, o, ho, h3⟩
    refine ⟨h1, h2, ?_⟩
    rw [ho]
    simp only [Option.map_some, Option.getD_some, Array.all_eq_true_iff_forall_mem, Bool.or_eq_true, Bool.not_eq_true']
    intro e he
    by_cases hb : Region.binds .any e = true
    · right
      exact h3 e.on (List.mem_map.2 ⟨e, List.mem_filter.2 ⟨by simpa using he, hb⟩, rfl⟩)
    · left; simpa using hb
/-- how many are not listed yet -/
def unl (n : Nat) (listed : Array Bool) : Nat := (List.range n).countP (fun i => !listed.getD i true)
theorem countP_lt {l : List Nat} {p q : Nat → Bool} (h : ∀ x, x ∈ l → q x = true → p x = true) {i : Nat} (hi : i ∈ l) (hp : p i = true) (hq : q i = false) : l.countP q < l.countP p := by
  induction l with
  | nil => simp at hi
  | cons x l ih =>
    have hmono : l.countP q ≤ l.countP p := List.countP_mono_left (fun y hy hqy => h y (List.mem_cons_of_mem _ hy) hqy)
    rw [List.countP_cons, List.countP_cons]
    rcases List.mem_cons.1 hi with rfl | hi'
    · simp [hp, hq]; omega
    · have := ih (fun y hy => h y (List.mem_cons_of_mem _ hy)) hi'
      have hx := h x List.mem_cons_self
      by_cases hqx : q x = true
      · simp [hqx, hx hqx]; omega
      · simp [hqx]; split <;> omega
theorem unl_set {n : Nat} {listed : Array Bool} {i : Nat} (hi : i < n) (hl : listed.getD i true = false) : unl n (listed.setIfInBounds i true) < unl n listed := by
  refine countP_lt (i := i) ?_ (List.mem_range.2 hi) (by simpa using hl) ?_
  · intro x _ hx
    by_cases e : i = x
    · subst e; simpa using hl
    · simp only [Array.getD_eq_getD_getElem?, Array.getElem?_setIfInBounds, if_neg e] at hx ⊢
      exact hx
  · have hs : i < listed.size := by
      rcases Nat.lt_or_ge i listed.size with h | h
      · exact h
      · simp [Array.getD_eq_getD_getElem?, Array.getElem?_eq_none h] at hl
    simp [Array.getD_eq_getD_getElem?, Array.getElem?_setIfInBounds, hs]
section
variable {P : Program} {ops : Array Oper} {Q : Exit → Act → World → Prop}
/-- what is to be shown of one operation -/
def StepOf (P : Program) (ops : Array Oper) (Q : Exit → Act → World → Prop) (a0 : Act) (w0 : World) (E : World → World → Prop) (R : Nat → World → World → Prop) (Inv : Nat → (Nat → Value) → World → Prop) (i : Nat) (o : Oper) : Prop :=
  ∀ (a : Act) (w : World), E w0 w → a.tmps.size = a0.tmps.size → (∀ k, k ∈ preds o → Inv k (sl a) w) → (∀ t, initAt ops i t = true → sl a t = sl a0 t) →
    if Region.wanted o (yielded ops a.tmps) = true then o.wp P a w (fun a' w' => ∃ v, a' = a.put o.dst v ∧ R i w w' ∧ Inv i (sl a') w') Q
    else R i w w ∧ Inv i (sl (a.put o.dst undef)) w
def Each (P : Program) (ops : Array Oper) (Q : Exit → Act → World → Prop) (a0 : Act) (w0 : World) (E : World → World → Prop) (R : Nat → World → World → Prop) (Inv : Nat → (Nat → Value) → World → Prop) : List Oper → Nat → Prop
  | [], _ => True
  | o :: rest, i => StepOf P ops Q a0 w0 E R Inv i o ∧ Each P ops Q a0 w0 E R Inv rest (i + 1)
theorem Each.get {a0 : Act} {w0 : World} {E : World → World → Prop} {R : Nat → World → World → Prop} {Inv : Nat → (Nat → Value) → World → Prop} : ∀ (l : List Oper) (k : Nat), Each P ops Q a0 w0 E R Inv l k → ∀ j o, l[j]? = some o → StepOf P ops Q a0 w0 E R Inv (k + j) o := by
  intro l
  induction l with
  | nil => intro k _ j o h; simp at h
  | cons x l ih =>
    intro k h j o hj
    cases j with
    | zero => simp at hj; subst hj; exact h.1
    | succ j =>
      have := ih (k + 1) h.2 j o (by simpa using hj)
      rwa [show k + 1 + j = k + (j + 1) by omega] at this
theorem put_sl (a : Act) (d : Option Nat) (v : Value) (t : Nat) (h : d ≠ some t) : sl (a.put d v) t = sl a t := by
  cases d with
  | none => rfl
  | some x =>
    have : x ≠ t := fun e => h (by rw [e])
    simp [sl, Act.put, Array.getD_eq_getD_getElem?, Array.getElem?_setIfInBounds, this]
theorem put_size (a : Act) (d : Option Nat) (v : Value) : (a.put d v).tmps.size = a.tmps.size := by
  cases d <;> simp [Act.put]
theorem put_defers (a : Act) (d : Option Nat) (v : Value) : (a.put d v).defers = a.defers := by
  cases d <;> simp [Act.put]
theorem put_same (a : Act) (x : Nat) (v : Value) (h : x < a.tmps.size) : sl (a.put (some x) v) x = v := by
  simp [sl, Act.put, Array.getD_eq_getD_getElem?, Array.getElem?_setIfInBounds, h]
/-- A REGION THAT DRAWS, by an invariant of each operation -/
theorem wp_region_each {id : Nat} {a0 : Act} {w0 : World} (hm : P.follows .mixedOrders = true) (hback : backB ops = true)
    (E : World → World → Prop) (R : Nat → World → World → Prop) (Inv : Nat → (Nat → Value) → World → Prop)
    (E0 : E w0.drew w0.drew) (ER : ∀ i w w', E w0.drew w → R i w w' → E w0.drew w')
    (stable : ∀ i j oi oj (σ σ' : Nat → Value) w w', i ≠ j → ops[i]? = some oi → ops[j]? = some oj → i ∉ preds oj ∨ True → Inv j σ w → R i w w' → (∀ t, oi.dst ≠ some t → σ' t = σ t) → (j ∉ preds oi → True) → (∀ d, oi.dst = some d → i ∈ preds oj → False) → Inv j σ' w')
    (each : Each P ops Q a0 w0.drew E R Inv ops.toList 0)
    (fin : ∀ a w, E w0.drew w → a.tmps.size = a0.tmps.size → a.defers = a0.defers → (∀ j, j < ops.size → Inv j (sl a) w) → (∀ t, (ops.toList.all fun o => o.dst != some t) = true → sl a t = sl a0 t) → Q .normal a w) :
    (Code.region id ops true).wp P Q a0 w0 := by
  refine wp_region_any hm ?_
  show wpAny P .any ops Q ops.size (Array.replicate ops.size false) a0 w0.drew
  have main : ∀ (fuel : Nat) (listed : Array Bool) (a : Act) (w : World), unl ops.size listed ≤ fuel → E w0.drew w → a.tmps.size = a0.tmps.size → a.defers = a0.defers →
      (∀ j o, listed.getD j false = true → ops[j]? = some o → ∀ k, k ∈ preds o → listed.getD k false = true) →
      (∀ j, j < ops.size → listed.getD j true = true → listed.getD j false = true) →
      (∀ j, j < ops.size → listed.getD j false = true → Inv j (sl a) w) →
      (∀ t, (∀ j o, j < ops.size → listed.getD j false = true → ops[j]? = some o → o.dst ≠ some t) → sl a t = sl a0 t) → wpAny P .any ops Q fuel listed a w := by
    intro fuel
    induction fuel with
    | zero =>
      intro listed a w hu hE hs hd hcl hlt hI ht
      have hall : ∀ j, j < ops.size → listed.getD j false = true := by
        intro j hj
        refine hlt j hj ?_
        have h0 : unl ops.size listed = 0 := by omega
        unfold unl at h0
        have := List.countP_eq_zero.1 h0 j (List.mem_range.2 hj)
        simpa using this
      refine ⟨?_, fin a w hE hs hd (fun j hj => hI j hj (hall j hj)) (fun t htt => ht t (fun j o _ _ ho => ?_))⟩
      · rw [List.eq_nil_iff_forall_not_mem]
        intro i hi
        obtain ⟨h1, h2, _⟩ := mem_ready.1 hi
        have hx := hall i h1
        rcases Nat.lt_or_ge i listed.size with h | h
        · simp [Array.getD_eq_getD_getElem?, h] at h2 hx; rw [h2] at hx; cases hx
        · simp [Array.getD_eq_getD_getElem?, Array.getElem?_eq_none h] at hx
      · have := List.all_eq_true.1 htt o (by rw [Array.mem_toList_iff]; exact Array.mem_of_getElem? ho)
        simpa using this
    | succ fuel ih =>
      intro listed a w hu hE hs hd hcl hlt hI ht
      refine ⟨fun hr => ?_, fun i hi => ?_⟩
      · have hall : ∀ n j, j < n → j < ops.size → listed.getD j false = true := by
          intro n
          induction n with
          | zero => intro j hj; omega
          | succ n ihn =>
            intro j hj hjs
            refine hlt j hjs ?_
            cases hb : listed.getD j true with
            | true => rfl
            | false =>
              exfalso
              have ho : ops[j]? = some ops[j] := Array.getElem?_eq_getElem hjs
              have : j ∈ Region.ready .any ops listed := mem_ready.2 ⟨hjs, hb, _, ho, fun k hk => by
                have hbk := List.all_eq_true.1 hback j (List.mem_range.2 hjs)
                rw [ho] at hbk
                have hkj := of_decide_eq_true (List.all_eq_true.1 hbk k hk)
                exact ihn k (by omega) (by omega)⟩
              rw [hr] at this; cases this
        exact fin a w hE hs hd (fun j hj => hI j hj (hall (j + 1) j (by omega) hj)) (fun t htt => ht t (fun j o _ _ ho => by
          have := List.all_eq_true.1 htt o (by rw [Array.mem_toList_iff]; exact Array.mem_of_getElem? ho)
          simpa using this))
      · obtain ⟨h1, h2, o, ho, h3⟩ := mem_ready.1 hi
        have hst := Each.get ops.toList 0 each i o (by simpa using ho)
        rw [Nat.zero_add] at hst
        have hnl : listed.getD i false ≠ true := by
          intro hx
          rcases Nat.lt_or_ge i listed.size with h | h
          · simp [Array.getD_eq_getD_getElem?, h] at h2 hx; rw [h2] at hx; cases hx
          · simp [Array.getD_eq_getD_getElem?, Array.getElem?_eq_none h] at hx
        have his : i < listed.size := by
          rcases Nat.lt_or_ge i listed.size with h | h
          · exact h
          · simp [Array.getD_eq_getD_getElem?, Array.getElem?_eq_none h] at h2
        have gset : ∀ j (d : Bool), (listed.setIfInBounds i true).getD j d = if i = j then true else listed.getD j d := by
          intro j d
          simp only [Array.getD_eq_getD_getElem?, Array.getElem?_setIfInBounds]
          by_cases e : i = j
          · subst e; simp [his]
          · simp [e]
        have hst' := hst a w hE hs (fun k hk => hI k (by
            have hbk := List.all_eq_true.1 hback i (List.mem_range.2 h1)
            rw [ho] at hbk
            have := of_decide_eq_true (List.all_eq_true.1 hbk k hk); omega) (h3 k hk)) (fun t hti => by
          refine ht t (fun j oj hj hlj hoj hdj => ?_)
          have := List.all_eq_true.1 hti j (List.mem_range.2 hj)
          rw [hoj] at this
          by_cases e : j = i
          · subst e; exact hnl hlj
          · simp [e, hdj] at this
            exact hnl (hcl j oj hlj hoj i this))
        have next : ∀ (v : Value) (w' : World), R i w w' → Inv i (sl (a.put o.dst v)) w' → wpAny P .any ops Q fuel (listed.setIfInBounds i true) (a.put o.dst v) w' := by
          intro v w' hR hIi
          refine ih _ _ _ (by have := unl_set (n := ops.size) h1 h2; omega) (ER i w w' hE hR) ((put_size _ _ _).trans hs) ((put_defers _ _ _).trans hd) ?_ ?_ ?_ ?_
          · intro j oj hj hoj k hk
            rw [gset] at hj ⊢
            by_cases e : i = k
            · rw [if_pos e]
            · rw [if_neg e]
              by_cases e' : i = j
              · subst e'; rw [ho] at hoj; cases hoj; exact h3 k hk
              · rw [if_neg e'] at hj; exact hcl j oj hj hoj k hk
          · intro j hj hl
            rw [gset] at hl ⊢
            by_cases e : i = j
            · rw [if_pos e]
            · rw [if_neg e] at hl ⊢; exact hlt j hj hl
          · intro j hj hl
            rw [gset] at hl
            by_cases e : i = j
            · subst e; exact hIi
            · rw [if_neg e] at hl
              have hoj : ops[j]? = some ops[j] := Array.getElem?_eq_getElem hj
              exact stable i j o _ (sl a) _ w w' e ho hoj (.inr trivial) (hI j hj hl) hR (fun t h => put_sl _ _ _ _ h) (fun _ => trivial) (fun d hdd hp => hnl (hcl j _ hl hoj i hp))
          · intro t htt
            have hdt : o.dst ≠ some t := htt i o h1 (by rw [gset, if_pos rfl]) ho
            rw [put_sl _ _ _ _ hdt]
            exact ht t (fun j oj hj hl hoj => htt j oj hj (by rw [gset]; split <;> simp [hl]) hoj)
        unfold wpOp
        rw [ho]
        show if Region.wanted o (yielded ops a.tmps) = true then _ else _
        split
        · rename_i hw
          rw [if_pos hw] at hst'
          exact .inl (Oper.wp_mono (fun a' w' ⟨v, e, hR, hIi⟩ => by rw [e] at hIi ⊢; exact next v w' hR hIi) hst')
        · rename_i hw
          rw [if_neg hw] at hst'
          exact next undef w hst'.1 hst'.2
  refine main ops.size _ a0 w0.drew ?_ E0 rfl rfl ?_ ?_ ?_ ?_
  · unfold unl; exact Nat.le_trans List.countP_le_length (by simp)
  · intro j o hj; simp [Array.getD_eq_getD_getElem?, Array.getElem?_replicate] at hj
    split at hj <;> simp at hj
  · intro j hj hl; simp [Array.getD_eq_getD_getElem?, Array.getElem?_replicate, hj] at hl
  · intro j hj hl; simp [Array.getD_eq_getD_getElem?, Array.getElem?_replicate, hj] at hl
  · intro t _; rfl
end
end Go.By
namespace Go.By
open Go.RowKit
/-- a slice value that owns a row of byte slices, each of which owns its bytes -/
def Own2 (T2 T1 : TypeId) (w : World) (base : Nat) (v : Value) (n : Nat) (xss : List (List UInt8)) : Prop :=
  ∃ vs : List Value, w.ownsRow base T2 1 v n vs ∧ xss.length = n ∧ ∀ (j : Nat) (val : Value), vs[j]? = some val → ∃ xs q c', xss[j]? = some xs ∧ val = Value.slice q xs.length c' ∧ w.ownsRow base T1 1 (.slice q xs.length c') xs.length (xs.map B8)
section
variable {T2 T1 : TypeId} {w w' : World} {base n : Nat} {v : Value} {xss : List (List UInt8)}
theorem Own2.nil (T2 T1 : TypeId) (w : World) (base : Nat) : Own2 T2 T1 w base (.slice none 0 0) 0 [] := ⟨[], World.ownsRow_nil _ _ _ _, rfl, fun j val h => by simp at h⟩
theorem owns_kept {e size : Nat} {v : Value} {ys : List Value} {row : Option Nat} (h : w.ownsRow base e size v n ys) (hg : w.grownBy w' row) (hne : ∀ k, v.ownBlock = some k → some k ≠ row) : w'.ownsRow base e size v n ys :=
  h.kept hg (by
    cases hv : v.ownBlock with
    | none => exact .inl rfl
    | some k => exact .inr (fun e => hne k hv e))
/-- rows of unlike element types lie in unlike blocks -/
theorem owns_ne {b1 b2 e1 e2 s1 s2 n1 n2 : Nat} {v1 v2 : Value} {ys1 ys2 : List Value} (h1 : w.ownsRow b1 e1 s1 v1 n1 ys1) (h2 : w.ownsRow b2 e2 s2 v2 n2 ys2) (he : e1 ≠ e2) : ∀ k, v1.ownBlock = some k → some k ≠ v2.ownBlock := by
  intro k hk
  rcases h1.2 with ⟨rfl, _⟩ | ⟨g1, c1, cur1, rfl, _, hh1, _⟩
  · simp [Value.ownBlock] at hk
  · simp [Value.ownBlock] at hk; subst hk
    rcases h2.2 with ⟨rfl, _⟩ | ⟨g2, c2, cur2, rfl, _, hh2, _⟩
    · simp [Value.ownBlock]
    · simp only [Value.ownBlock]
      intro e
      cases e
      rw [hh1] at hh2
      cases hh2; exact he rfl
theorem owns_keepv {e size : Nat} {ys : List Value} (h : w.ownsRow base e size v n ys) (hb : Below w.heap.size w w') : w'.ownsRow base e size v n ys := by
  obtain ⟨q, c, rfl⟩ := owns_shape h
  exact owns_keep h hb
theorem Own2.keep (h : Own2 T2 T1 w base v n xss) (hb : Below w.heap.size w w') : Own2 T2 T1 w' base v n xss := by
  obtain ⟨vs, h1, h2, h3⟩ := h
  exact ⟨vs, owns_keepv h1 hb, h2, fun j val hj => by
    obtain ⟨xs, q, c', a, b, c⟩ := h3 j val hj
    exact ⟨xs, q, c', a, b, owns_keep c hb⟩⟩
theorem Own2.sl2 {p : Option Addr} {c : Nat} (h : Own2 T2 T1 w base (.slice p n c) n xss) : Sl2 w p n c xss := by
  obtain ⟨vs, h1, h2, h3⟩ := h
  have hs : Sl id w p n c vs := Sl.of_owns (by rw [List.map_id]; exact h1)
  refine ⟨h2, hs.le, hs.max, hs.nil, ?_⟩
  intro i xs hi
  have hlt : i < vs.length := by
    have := (List.getElem?_eq_some_iff.1 hi).1
    rw [hs.len]; omega
  obtain ⟨b, o, hp, hc⟩ := hs.rs i hlt
  obtain ⟨xs', q, c', a1, a2, a3⟩ := h3 i _ (List.getElem?_eq_getElem hlt)
  have e := hi.symm.trans a1
  cases e
  exact ⟨b, o, q, c', hp, by rw [hc, id, a2], Sl.of_owns a3⟩
/-- one row more: what the law on append leaves -/
theorem Own2.push {q : Option Addr} {m c : Nat} {xs : List UInt8} {vs : List Value} {v' : Value} (hT : T1 ≠ T2) (h2 : xss.length = n)
    (h3 : ∀ (j : Nat) (val : Value), vs[j]? = some val → ∃ xs q c', xss[j]? = some xs ∧ val = Value.slice q xs.length c' ∧ w.ownsRow base T1 1 (.slice q xs.length c') xs.length (xs.map B8))
    (h1 : w.ownsRow base T2 1 v n vs) (hr : w.ownsRow base T1 1 (.slice q m c) m (xs.map B8)) (ho : w'.ownsRow base T2 1 v' (n + 1) (vs ++ [.slice q m c])) (hg : w.grownBy w' v.ownBlock) : Own2 T2 T1 w' base v' (n + 1) (xss ++ [xs]) := by
  have hvl : vs.length = n := by simpa using h1.1
  have hml : m = xs.length := by have := hr.1; simp at this; exact this.symm
  refine ⟨_, ho, by simp [h2], ?_⟩
  intro j val hj
  by_cases hjn : j < n
  · rw [List.getElem?_append_left (by omega)] at hj
    obtain ⟨ys, q', c', a, b, d⟩ := h3 j val hj
    exact ⟨ys, q', c', by rw [List.getElem?_append_left (by omega)]; exact a, b, owns_kept d hg (owns_ne d h1 hT)⟩
  · rw [List.getElem?_append_right (by omega)] at hj
    have hj0 : j = n := by
      have := (List.getElem?_eq_some_iff.1 hj).1
      simp at this; omega
    subst hj0
    rw [hvl] at hj
    simp at hj
    subst hj
    refine ⟨xs, q, c, by rw [List.getElem?_append_right (by omega), h2]; simp, by rw [hml], ?_⟩
    have := owns_kept hr hg (owns_ne hr h1 hT)
    rwa [hml] at this
end
end Go.By
namespace Go.By
open Go.RowKit
/-- what is said of a value, and lasts while old memory stays -/
structure Shp where
  ok : Value → World → Prop
  keep : ∀ (v : Value) (w w' : World), ok v w → Below w.heap.size w w' → ok v w'
def Shp.val (u : Value) : Shp := ⟨fun v _ => v = u, fun _ _ _ h _ => h⟩
def Shp.any : Shp := ⟨fun _ _ => True, fun _ _ _ h _ => h⟩
def Shp.tru : Shp := Shp.val (.bool true)
def BytesIs (xs : List UInt8) (v : Value) (w : World) : Prop := ∃ p n c, v = .slice p n c ∧ Sl B8 w p n c xs
def RowIs (r : List UInt8 × List UInt8) (v : Value) (w : World) : Prop := ∃ p1 n1 c1 p2 n2 c2, v = .agg #[.slice p1 n1 c1, .slice p2 n2 c2] ∧ Sl B8 w p1 n1 c1 r.1 ∧ Sl B8 w p2 n2 c2 r.2
def RowsIs (xss : List (List UInt8)) (v : Value) (w : World) : Prop := ∃ p n c, v = .slice p n c ∧ Sl2 w p n c xss
def Shp.bytes (xs : List UInt8) : Shp := ⟨BytesIs xs, fun _ _ _ ⟨p, n, c, e, h⟩ hb => ⟨p, n, c, e, h.keep hb⟩⟩
def Shp.row (r : List UInt8 × List UInt8) : Shp := ⟨RowIs r, fun _ _ _ ⟨p1, n1, c1, p2, n2, c2, e, h1, h2⟩ hb => ⟨p1, n1, c1, p2, n2, c2, e, h1.keep hb, h2.keep hb⟩⟩
def Shp.rows (xss : List (List UInt8)) : Shp := ⟨RowsIs xss, fun _ _ _ ⟨p, n, c, e, h⟩ hb => ⟨p, n, c, e, h.keep hb⟩⟩
/-- the slots that the operations write are unlike -/
def distB (ops : Array Oper) : Bool := (List.range ops.size).all fun i => (List.range ops.size).all fun j => i == j || match ops[i]?, ops[j]? with
  | some oi, some oj => (match oi.dst, oj.dst with
    | some x, some y => x != y
    | _, _ => true)
  | _, _ => true
def dstOf (ops : Array Oper) (i : Nat) : Option Nat := (ops[i]?).bind (·.dst)
def InvS (ops : Array Oper) (sh : Nat → Shp) (i : Nat) (σ : Nat → Value) (w : World) : Prop := match dstOf ops i with
  | some d => (sh i).ok (σ d) w
  | none => True
/-- what is to be shown of one operation -/
def StepS (P : Program) (ops : Array Oper) (Q : Exit → Act → World → Prop) (a0 : Act) (W0 : World) (sh : Nat → Shp) (i : Nat) (o : Oper) : Prop :=
  ∀ (a : Act) (w : World), Below W0.heap.size W0 w → a.tmps.size = a0.tmps.size → (∀ k, k ∈ preds o → InvS ops sh k (sl a) w) → (∀ t, initAt ops i t = true → sl a t = sl a0 t) →
    if Region.wanted o (yielded ops a.tmps) = true then o.wp P a w (fun a' w' => ∃ v, a' = a.put o.dst v ∧ Below w.heap.size w w' ∧ (sh i).ok v w') Q
    else (sh i).ok undef w
def EachS (P : Program) (ops : Array Oper) (Q : Exit → Act → World → Prop) (a0 : Act) (W0 : World) (sh : Nat → Shp) : List Oper → Nat → Prop
  | [], _ => True
  | o :: rest, i => StepS P ops Q a0 W0 sh i o ∧ EachS P ops Q a0 W0 sh rest (i + 1)
/-- every operation writes a slot of the frame -/
def dstsB (ops : Array Oper) (n : Nat) : Bool := ops.toList.all fun o => match o.dst with
  | some d => decide (d < n)
  | none => false
theorem each_of {P : Program} {ops : Array Oper} {Q : Exit → Act → World → Prop} {a0 : Act} {W0 : World} {sh : Nat → Shp} {n : Nat} (hn : a0.tmps.size = n) : ∀ (l : List Oper) (k : Nat), (∀ j o, l[j]? = some o → ops[k + j]? = some o) → (l.all fun o => match o.dst with | some d => decide (d < n) | none => false) = true →
    EachS P ops Q a0 W0 sh l k → Each P ops Q a0 W0 (fun W w => Below W.heap.size W w) (fun _ w w' => Below w.heap.size w w') (InvS ops sh) l k := by
  intro l
  induction l with
  | nil => intro k _ _ _; trivial
  | cons o l ih =>
    intro k hk hd h
    simp only [List.all_cons, Bool.and_eq_true] at hd
    refine ⟨?_, ih (k + 1) (fun j o' hj => by have := hk (j + 1) o' (by simpa using hj); rwa [show k + (j + 1) = k + 1 + j by omega] at this) hd.2 h.2⟩
    intro a w hE hs hp hi
    have ho : ops[k]? = some o := by have := hk 0 o (by simp); simpa using this
    have hs1 := h.1 a w hE hs hp hi
    cases hdo : o.dst with
    | none => rw [hdo] at hd; simp at hd
    | some d =>
      rw [hdo] at hd
      have hd1 : d < n := of_decide_eq_true hd.1
      have hdn : d < a.tmps.size := by rw [hs, hn]; exact hd1
      have hdst : dstOf ops k = some d := by simp [dstOf, ho, hdo]
      split
      · rename_i hw
        rw [if_pos hw] at hs1
        refine Oper.wp_mono ?_ hs1
        rintro a' w' ⟨v, e, hb, hok⟩
        refine ⟨v, e.trans (by rw [hdo]), hb, ?_⟩
        unfold InvS
        rw [hdst]
        show (sh k).ok (sl a' d) w'
        rw [e, hdo, put_same _ _ _ hdn]; exact hok
      · rename_i hw
        rw [if_neg hw] at hs1
        refine ⟨Below.refl _ _, ?_⟩
        unfold InvS
        rw [hdst]
        show (sh k).ok (sl (a.put (some d) undef) d) w
        rw [put_same _ _ _ hdn]; exact hs1
theorem wp_region_shapes {P : Program} {ops : Array Oper} {Q : Exit → Act → World → Prop} {id : Nat} {a0 : Act} {w0 : World} (sh : Nat → Shp) (n : Nat) (hn : a0.tmps.size = n) (hm : P.follows .mixedOrders = true) (hback : backB ops = true) (hdist : distB ops = true) (hdsts : dstsB ops n = true)
    (each : EachS P ops Q a0 w0.drew sh ops.toList 0)
    (fin : ∀ a w, Below w0.heap.size w0 w → a.tmps.size = a0.tmps.size → a.defers = a0.defers → (∀ j, j < ops.size → InvS ops sh j (sl a) w) → (∀ t, (ops.toList.all fun o => o.dst != some t) = true → sl a t = sl a0 t) → Q .normal a w) :
    (Code.region id ops true).wp P Q a0 w0 := by
  refine wp_region_each hm hback (fun W w => Below W.heap.size W w) (fun _ w w' => Below w.heap.size w w') (InvS ops sh) (Below.refl _ _) (fun i w w' h hR => h.trans (hR.mono h.size)) ?_ (each_of hn _ 0 (fun j o hj => by simpa using hj) hdsts each) (fun a w hE hs hd hI ht => fin a w ⟨hE.os, hE.tape, hE.output, hE.size, hE.block⟩ hs hd hI ht)
  intro i j oi oj σ σ' w w' hij hoi hoj _ hI hR hσ _ _
  unfold InvS at hI ⊢
  cases hdj : dstOf ops j with
  | none => trivial
  | some d =>
    rw [hdj] at hI
    show (sh j).ok (σ' d) w'
    have hne : oi.dst ≠ some d := by
      intro e
      have hi' : i < ops.size := (Array.getElem?_eq_some_iff.1 hoi).1
      have hj' : j < ops.size := (Array.getElem?_eq_some_iff.1 hoj).1
      have := List.all_eq_true.1 (List.all_eq_true.1 hdist i (List.mem_range.2 hi')) j (List.mem_range.2 hj')
      rw [hoi, hoj] at this
      have hdj' : oj.dst = some d := by simpa [dstOf, hoj] using hdj
      simp [e, hdj', hij] at this
    rw [hσ d hne]
    exact (sh j).keep _ _ _ hI hR
/-- the guard says yes -/
theorem wanted_yes {ops : Array Oper} {o : Oper} {a : Act} {j : Nat} {b : Bool} {d : Nat} (hg : o.guard = some (j, b)) (hd : dstOf ops j = some d) (hs : d < a.tmps.size) (hv : sl a d = .bool b) : Region.wanted o (yielded ops a.tmps) = true := by
  have h1 : a.tmps[d]? = some (.bool b) := by
    have := hv
    simp only [sl, Array.getD_eq_getD_getElem?, Array.getElem?_eq_getElem hs, Option.getD_some] at this
    rw [Array.getElem?_eq_getElem hs, this]
  unfold dstOf at hd
  simp [Region.wanted, hg, yielded, hd, h1]
theorem ite_y {c : Prop} [Decidable c] {A B : Prop} (hc : c) (h : A) : if c then A else B := by rw [if_pos hc]; exact h
/-- an operation that gives a value -/
theorem wp_val {P : Program} {o : Oper} {a : Act} {w : World} {K : Act → World → Prop} {Q : Exit → Act → World → Prop} (v : Value) (hrun : (execOp a.eval o).run P w = .ok (.value v) w) (h : K (a.put o.dst v) w) : o.wp P a w K Q := by
  unfold Oper.wp; rw [hrun]; exact h
theorem wp_val' {P : Program} {o : Oper} {a : Act} {w w' : World} {K : Act → World → Prop} {Q : Exit → Act → World → Prop} (v : Value) (hrun : (execOp a.eval o).run P w = .ok (.value v) w') (h : K (a.put o.dst v) w') : o.wp P a w K Q := by
  unfold Oper.wp; rw [hrun]; exact h
/-- an operation that calls -/
theorem wp_enter {P : Program} {o : Oper} {a : Act} {w : World} {K : Act → World → Prop} {Q : Exit → Act → World → Prop} (f : FuncId) (args : Array Value) (hrun : (execOp a.eval o).run P w = .ok (.enter f args) w)
    {R : Ending → World → Prop} (hc : Calls P f args w R) (h : ∀ e w', R e w' → ∃ v, e = .returned v ∧ K (a.put o.dst v) w') : o.wp P a w K Q := by
  unfold Oper.wp; rw [hrun]
  show Calls P f args w _
  refine hc.mono ?_
  intro e w' hr
  obtain ⟨v, rfl, hk⟩ := h e w' hr
  exact hk
end Go.By
namespace Go.By
open Go.RowKit
/-- a store into a block of element type X, numbered B or more -/
structure StepX (B X : Nat) (w w' : World) : Prop where
  os : w'.os = w.os
  tape : w'.tape = w.tape
  output : w'.output = w.output
  size : w.heap.size ≤ w'.heap.size
  keep : ∀ k, k < w.heap.size → (k < B ∨ ∀ (cs : Array Value) fr, w.heap[k]? ≠ some (Obj.cells cs X fr)) → w'.heap[k]? = w.heap[k]?
  cells : ∀ (k : Nat) (cs : Array Value), w.heap[k]? = some (Obj.cells cs X (0, 0)) → ∃ cs' : Array Value, cs'.size = cs.size ∧ w'.heap[k]? = some (Obj.cells cs' X (0, 0))
/-- a slice whose cells no such store meets -/
def Away (B X : Nat) (w : World) (p : Option Addr) (n : Nat) : Prop := ∀ a, p = some a → 0 < n → a.block < B ∨ ∀ (cs : Array Value) fr, w.heap[a.block]? ≠ some (Obj.cells cs X fr)
section
variable {B X : Nat} {w w' : World}
theorem Away.keep {α : Type} {enc : α → Value} {p : Option Addr} {n c : Nat} {xs : List α} (h : Away B X w p n) (hs : Sl enc w p n c xs) (hb : Below w.heap.size w w') : Away B X w' p n := by
  intro a ha hn
  rcases h a ha hn with h | h
  · exact .inl h
  · right
    obtain ⟨b, o, hp, hlt⟩ := hs.rs.lt (by rw [hs.len]; exact hn)
    rw [ha] at hp; cases hp
    rw [hb.block b hlt]; exact h
theorem Away.step {α : Type} {enc : α → Value} {p : Option Addr} {n c : Nat} {xs : List α} (h : Away B X w p n) (hs : Sl enc w p n c xs) (hb : StepX B X w w') : Away B X w' p n ∧ Sl enc w' p n c xs := by
  have key : ∀ a, p = some a → 0 < n → w'.heap[a.block]? = w.heap[a.block]? := by
    intro a ha hn
    obtain ⟨b, o, hp, hlt⟩ := hs.rs.lt (by rw [hs.len]; exact hn)
    rw [ha] at hp; cases hp
    exact hb.keep b hlt (h _ ha hn)
  refine ⟨?_, hs.len, hs.le, hs.max, hs.nil, ?_⟩
  · intro a ha hn
    rcases h a ha hn with h | h
    · exact .inl h
    · exact .inr (by rw [key a ha hn]; exact h)
  · intro i hi
    obtain ⟨b, o, hp, hc⟩ := hs.rs i hi
    refine ⟨b, o, hp, (World.cell?_of_block (a := ⟨b, o + i, none⟩) ?_).trans hc⟩
    exact key ⟨b, o, none⟩ hp (by rw [← hs.len]; omega)
theorem Away.old {α : Type} {enc : α → Value} {W : World} {p : Option Addr} {n c : Nat} {xs : List α} (hs : Sl enc W p n c xs) (hB : W.heap.size ≤ B) : Away B X w p n := by
  intro a ha hn
  obtain ⟨b, o, hp, hlt⟩ := hs.rs.lt (by rw [hs.len]; exact hn)
  rw [ha] at hp; cases hp
  exact .inl (by show b < B; omega)
theorem Away.own {base e n c : Nat} {p : Option Addr} {ys : List Value} (h : w.ownsRow base e 1 (.slice p n c) n ys) (he : e ≠ X) : Away B X w p n := by
  intro a ha hn
  right
  intro cs fr hcs
  rcases h.2 with ⟨h2, _⟩ | ⟨g, cap, cur, hv, _, hh, _⟩
  · simp at h2; rw [h2.1] at ha; cases ha
  · obtain ⟨rfl, _⟩ : p = some ⟨g, 0, none⟩ ∧ c = cap := by simpa using hv
    cases ha
    rw [hh] at hcs; cases hcs; exact he rfl
end
structure ShX (B X : Nat) where
  ok : Value → World → Prop
  keep : ∀ (v : Value) (w w' : World), ok v w → Below w.heap.size w w' → ok v w'
  step : ∀ (v : Value) (w w' : World), ok v w → StepX B X w w' → ok v w'
def XBytes (B X : Nat) (xs : List UInt8) (v : Value) (w : World) : Prop := ∃ p n c, v = .slice p n c ∧ Sl B8 w p n c xs ∧ Away B X w p n
def XRow (B X : Nat) (r : List UInt8 × List UInt8) (v : Value) (w : World) : Prop := ∃ p1 n1 c1 p2 n2 c2, v = .agg #[.slice p1 n1 c1, .slice p2 n2 c2] ∧ (Sl B8 w p1 n1 c1 r.1 ∧ Away B X w p1 n1) ∧ (Sl B8 w p2 n2 c2 r.2 ∧ Away B X w p2 n2)
def XRowT (B X : Nat) (r : List UInt8 × List UInt8) (code : Int) (v : Value) (w : World) : Prop := ∃ u, v = .tuple #[u, .int .i64 code] ∧ XRow B X r u w
def XBox (B X size : Nat) (v : Value) (w : World) : Prop := ∃ b cs, v = .pointer (some ⟨b, 0, none⟩) ∧ B ≤ b ∧ cs.size = size ∧ w.heap[b]? = some (.cells cs X (0, 0))
section
variable (B X : Nat)
def ShX.val (u : Value) : ShX B X := ⟨fun v _ => v = u, fun _ _ _ h _ => h, fun _ _ _ h _ => h⟩
def ShX.any : ShX B X := ⟨fun _ _ => True, fun _ _ _ h _ => h, fun _ _ _ h _ => h⟩
def ShX.bytes (xs : List UInt8) : ShX B X := ⟨XBytes B X xs, fun _ _ _ ⟨p, n, c, e, h, k⟩ hb => ⟨p, n, c, e, h.keep hb, k.keep h hb⟩, fun _ _ _ ⟨p, n, c, e, h, k⟩ hb => ⟨p, n, c, e, (k.step h hb).2, (k.step h hb).1⟩⟩
theorem XRow.keep {B X : Nat} {r : List UInt8 × List UInt8} {v : Value} {w w' : World} (h : XRow B X r v w) (hb : Below w.heap.size w w') : XRow B X r v w' := by
  obtain ⟨p1, n1, c1, p2, n2, c2, e, ⟨h1, k1⟩, ⟨h2, k2⟩⟩ := h
  exact ⟨p1, n1, c1, p2, n2, c2, e, ⟨h1.keep hb, k1.keep h1 hb⟩, ⟨h2.keep hb, k2.keep h2 hb⟩⟩
theorem XRow.step {B X : Nat} {r : List UInt8 × List UInt8} {v : Value} {w w' : World} (h : XRow B X r v w) (hb : StepX B X w w') : XRow B X r v w' := by
  obtain ⟨p1, n1, c1, p2, n2, c2, e, ⟨h1, k1⟩, ⟨h2, k2⟩⟩ := h
  exact ⟨p1, n1, c1, p2, n2, c2, e, ⟨(k1.step h1 hb).2, (k1.step h1 hb).1⟩, ⟨(k2.step h2 hb).2, (k2.step h2 hb).1⟩⟩
def ShX.row (r : List UInt8 × List UInt8) : ShX B X := ⟨XRow B X r, fun _ _ _ h hb => h.keep hb, fun _ _ _ h hb => h.step hb⟩
def ShX.rowT (r : List UInt8 × List UInt8) (code : Int) : ShX B X := ⟨XRowT B X r code, fun _ _ _ ⟨u, e, h⟩ hb => ⟨u, e, h.keep hb⟩, fun _ _ _ ⟨u, e, h⟩ hb => ⟨u, e, h.step hb⟩⟩
def ShX.box (size : Nat) : ShX B X := ⟨XBox B X size, fun _ _ _ ⟨b, cs, e, hb, hs, hh⟩ hw => ⟨b, cs, e, hb, hs, (hw.block b (lt_of_block hh)).trans hh⟩,
  fun _ _ _ ⟨b, cs, e, hb, hs, hh⟩ hw => by
    obtain ⟨cs', h1, h2⟩ := hw.cells b cs hh
    exact ⟨b, cs', e, hb, h1.trans hs, h2⟩⟩
end
/-- behind the store: the box in slot t holds a value that reads so -/
def Boxed (B X t : Nat) (s : ShX B X) (σ : Nat → Value) (w : World) : Prop := ∃ b cs, σ t = .pointer (some ⟨b, 0, none⟩) ∧ B ≤ b ∧ w.heap[b]? = some (.cells cs X (0, 0)) ∧ s.ok (.agg cs) w
def InvX (ops : Array Oper) (B X : Nat) (sh : Nat → ShX B X) (st t : Nat) (s : ShX B X) (i : Nat) (σ : Nat → Value) (w : World) : Prop :=
  if i = st then Boxed B X t s σ w else match dstOf ops i with
  | some d => (sh i).ok (σ d) w
  | none => True
def RX (B X st : Nat) (i : Nat) (w w' : World) : Prop := if i = st then StepX B X w w' else Below w.heap.size w w'
/-- all that was there stays -/
def EX (B : Nat) (W w : World) : Prop := Below B W w ∧ W.heap.size ≤ w.heap.size
def StepXS (P : Program) (ops : Array Oper) (Q : Exit → Act → World → Prop) (a0 : Act) (W0 : World) (B X : Nat) (sh : Nat → ShX B X) (st t : Nat) (s : ShX B X) (i : Nat) (o : Oper) : Prop :=
  ∀ (a : Act) (w : World), Below B W0 w → a.tmps.size = a0.tmps.size → (∀ k, k ∈ preds o → InvX ops B X sh st t s k (sl a) w) → (∀ u, initAt ops i u = true → sl a u = sl a0 u) →
    if Region.wanted o (yielded ops a.tmps) = true then o.wp P a w (fun a' w' => ∃ v, a' = a.put o.dst v ∧ RX B X st i w w' ∧ (if i = st then Boxed B X t s (sl a) w' else (sh i).ok v w')) Q
    else i ≠ st ∧ (sh i).ok undef w
def EachX (P : Program) (ops : Array Oper) (Q : Exit → Act → World → Prop) (a0 : Act) (W0 : World) (B X : Nat) (sh : Nat → ShX B X) (st t : Nat) (s : ShX B X) : List Oper → Nat → Prop
  | [], _ => True
  | o :: rest, i => StepXS P ops Q a0 W0 B X sh st t s i o ∧ EachX P ops Q a0 W0 B X sh st t s rest (i + 1)
/-- the store writes no slot, all others do; the box's slot is written by one that the store waits for -/
def dstsX (ops : Array Oper) (n st t : Nat) : Bool := (List.range ops.size).all fun i => match ops[i]? with
  | some o => (match o.dst with
    | some d => decide (d < n) && i != st && (d != t || (match ops[st]? with
      | some os => (preds os).contains i
      | none => false))
    | none => i == st)
  | none => true
theorem eachX_of {P : Program} {ops : Array Oper} {Q : Exit → Act → World → Prop} {a0 : Act} {W0 : World} {B X : Nat} {sh : Nat → ShX B X} {st t : Nat} {s : ShX B X} {n : Nat} (hn : a0.tmps.size = n) (hd : dstsX ops n st t = true) : ∀ (l : List Oper) (k : Nat), (∀ j o, l[j]? = some o → ops[k + j]? = some o) →
    EachX P ops Q a0 W0 B X sh st t s l k → Each P ops Q a0 W0.drew (fun W w => Below B W w) (RX B X st) (InvX ops B X sh st t s) l k := by
  intro l
  induction l with
  | nil => intro k _ _; trivial
  | cons o l ih =>
    intro k hk h
    refine ⟨?_, ih (k + 1) (fun j o' hj => by have := hk (j + 1) o' (by simpa using hj); rwa [show k + (j + 1) = k + 1 + j by omega] at this) h.2⟩
    intro a w hE hs hp hi
    have ho : ops[k]? = some o := by have := hk 0 o (by simp); simpa using this
    have hks : k < ops.size := (Array.getElem?_eq_some_iff.1 ho).1
    have hdk := List.all_eq_true.1 hd k (List.mem_range.2 hks)
    rw [ho] at hdk
    dsimp only at hdk
    have hs1 := h.1 a w ⟨hE.os, hE.tape, hE.output, hE.size, hE.block⟩ hs hp hi
    cases hdo : o.dst with
    | none =>
      rw [hdo] at hdk
      dsimp only at hdk
      have hkst : k = st := by simpa using hdk
      split
      · rename_i hw
        rw [if_pos hw] at hs1
        refine Oper.wp_mono ?_ hs1
        rintro a' w' ⟨v, e, hb, hok⟩
        rw [if_pos hkst] at hok
        refine ⟨v, e.trans (by rw [hdo]), hb, ?_⟩
        unfold InvX
        rw [if_pos hkst, e, hdo]; exact hok
      · rename_i hw
        rw [if_neg hw] at hs1
        exact absurd hkst hs1.1
    | some d =>
      rw [hdo] at hdk
      dsimp only at hdk
      simp only [Bool.and_eq_true, decide_eq_true_eq, bne_iff_ne] at hdk
      have hkst : k ≠ st := hdk.1.2
      have hdn : d < a.tmps.size := by rw [hs, hn]; exact hdk.1.1
      have hdst : dstOf ops k = some d := by simp [dstOf, ho, hdo]
      split
      · rename_i hw
        rw [if_pos hw] at hs1
        refine Oper.wp_mono ?_ hs1
        rintro a' w' ⟨v, e, hb, hok⟩
        rw [if_neg hkst] at hok
        refine ⟨v, e.trans (by rw [hdo]), hb, ?_⟩
        unfold InvX
        rw [if_neg hkst, hdst]
        show (sh k).ok (sl a' d) w'
        rw [e, hdo, put_same _ _ _ hdn]; exact hok
      · rename_i hw
        rw [if_neg hw] at hs1
        refine ⟨?_, ?_⟩
        · unfold RX; rw [if_neg hkst]; exact Below.refl _ _
        · unfold InvX
          rw [if_neg hkst, hdst]
          show (sh k).ok (sl (a.put (some d) undef) d) w
          rw [put_same _ _ _ hdn]; exact hs1.2
theorem stepX_below {B X : Nat} {W w w' : World} (hE : Below B W w) (h : StepX B X w w') (hB : B ≤ W.heap.size) : Below B W w' :=
  hE.trans ⟨h.os, h.tape, h.output, h.size, fun k hk => h.keep k (by have := hE.size; omega) (.inl hk)⟩
theorem wp_region_boxed {P : Program} {ops : Array Oper} {Q : Exit → Act → World → Prop} {id : Nat} {a0 : Act} {w0 : World} (X : Nat) (sh : Nat → ShX w0.heap.size X) (st t : Nat) (s : ShX w0.heap.size X) (n : Nat) (hn : a0.tmps.size = n) (hm : P.follows .mixedOrders = true) (hback : backB ops = true) (hdist : distB ops = true) (hdsts : dstsX ops n st t = true)
    (each : EachX P ops Q a0 w0 w0.heap.size X sh st t s ops.toList 0)
    (fin : ∀ a w, Below w0.heap.size w0 w → a.tmps.size = a0.tmps.size → a.defers = a0.defers → (∀ j, j < ops.size → InvX ops w0.heap.size X sh st t s j (sl a) w) → (∀ u, (ops.toList.all fun o => o.dst != some u) = true → sl a u = sl a0 u) → Q .normal a w) :
    (Code.region id ops true).wp P Q a0 w0 := by
  refine wp_region_each hm hback (fun W w => Below w0.heap.size W w) (RX w0.heap.size X st) (InvX ops w0.heap.size X sh st t s) (Below.refl _ _) ?_ ?_ (eachX_of (W0 := w0) hn hdsts ops.toList 0 (fun j o hj => by simpa using hj) each) (fun a w hE hs hd hI ht => fin a w ⟨hE.os, hE.tape, hE.output, hE.size, hE.block⟩ hs hd hI ht)
  · intro i w w' h hR
    unfold RX at hR
    split at hR
    · exact stepX_below h hR (Nat.le_refl _)
    · exact h.trans (hR.mono h.size)
  intro i j oi oj σ σ' w w' hij hoi hoj _ hI hR hσ _ hord
  have hi' : i < ops.size := (Array.getElem?_eq_some_iff.1 hoi).1
  have hj' : j < ops.size := (Array.getElem?_eq_some_iff.1 hoj).1
  have hdi := List.all_eq_true.1 hdsts i (List.mem_range.2 hi')
  rw [hoi] at hdi
  dsimp only at hdi
  unfold InvX at hI ⊢
  by_cases hjs : j = st
  · rw [if_pos hjs] at hI ⊢
    obtain ⟨b, cs, hb, hBb, hh, hok⟩ := hI
    have his : i ≠ st := fun e => hij (e.trans hjs.symm)
    unfold RX at hR
    rw [if_neg his] at hR
    have hne : oi.dst ≠ some t := by
      intro e
      rw [e] at hdi
      dsimp only at hdi
      simp only [Bool.and_eq_true, decide_eq_true_eq, bne_self_eq_false, Bool.false_or] at hdi
      have h2 := hdi.2
      rw [← hjs, hoj] at h2
      exact hord t e (by simpa using h2)
    exact ⟨b, cs, by rw [hσ t hne]; exact hb, hBb, (hR.block b (lt_of_block hh)).trans hh, s.keep _ _ _ hok hR⟩
  · rw [if_neg hjs] at hI ⊢
    cases hdj : dstOf ops j with
    | none => trivial
    | some d =>
      rw [hdj] at hI
      show (sh j).ok (σ' d) w'
      have hne : oi.dst ≠ some d := by
        intro e
        have := List.all_eq_true.1 (List.all_eq_true.1 hdist i (List.mem_range.2 hi')) j (List.mem_range.2 hj')
        rw [hoi, hoj] at this
        have hdj' : oj.dst = some d := by simpa [dstOf, hoj] using hdj
        simp [e, hdj', hij] at this
      rw [hσ d hne]
      unfold RX at hR
      by_cases his : i = st
      · rw [if_pos his] at hR; exact (sh j).step _ _ _ hI hR
      · rw [if_neg his] at hR; exact (sh j).keep _ _ _ hI hR
/-- a store of a whole value into a box is such a step -/
theorem stepX_setRow {B X b : Nat} {w : World} {cs cs' : Array Value} (hb : B ≤ b) (h : w.heap[b]? = some (.cells cs X (0, 0))) (hs : cs'.size = cs.size) : StepX B X w (w.setRow b cs') := by
  refine ⟨rfl, rfl, rfl, by simp, ?_, ?_⟩
  · intro k hk hp
    simp only [World.setRow, Array.getElem?_modify]
    have : b ≠ k := by
      rintro rfl
      rcases hp with hp | hp
      · omega
      · exact hp _ _ h
    rw [if_neg this]
  · intro k cs1 h1
    by_cases e : k = b
    · subst e
      rw [h] at h1; cases h1
      exact ⟨cs', hs, hrs h⟩
    · exact ⟨cs1, rfl, hro h1 e⟩
end Go.By
namespace Go.By
open Go.RowKit
theorem putAll_size (a : Act) : ∀ (ws : List Nat) (b : Act), (ws.foldl (fun b t => b.put (some t) (sl a t)) b).tmps.size = b.tmps.size := by
  intro ws
  induction ws with
  | nil => intro b; rfl
  | cons t ws ih => intro b; rw [List.foldl_cons, ih]; simp [Act.put]
theorem putAll_sl (a : Act) : ∀ (ws : List Nat) (b : Act) (n : Nat), a.tmps.size = n → b.tmps.size = n → (∀ t, t < n → t ∉ ws → sl b t = sl a t) → ∀ t, t < n → sl (ws.foldl (fun b t => b.put (some t) (sl a t)) b) t = sl a t := by
  intro ws
  induction ws with
  | nil => intro b n ha hb h t ht; exact h t ht (by simp)
  | cons u ws ih =>
    intro b n ha hb h t ht
    rw [List.foldl_cons]
    refine ih _ n ha (by simp [Act.put, hb]) ?_ t ht
    intro s hs hn
    by_cases e : s = u
    · subst e; exact put_same _ _ _ (by rw [hb]; exact hs)
    · have h1 := h s hs (by simp [e, hn])
      rw [← h1]
      simp [sl, Act.put, Array.getD_eq_getD_getElem?, Array.getElem?_setIfInBounds, show ¬ u = s from fun h => e h.symm]
theorem putAll_defers (a : Act) : ∀ (ws : List Nat) (b : Act), (ws.foldl (fun b t => b.put (some t) (sl a t)) b).defers = b.defers := by
  intro ws
  induction ws with
  | nil => intro b; rfl
  | cons t ws ih => intro b; rw [List.foldl_cons, ih]; rfl
/-- the frame behind the region: the written slots, the others as before -/
theorem act_is {ops : Array Oper} {a a0 : Act} (ws : List Nat) (hs : a.tmps.size = a0.tmps.size) (hd : a.defers = a0.defers) (hrest : ∀ t, (ops.toList.all fun o => o.dst != some t) = true → sl a t = sl a0 t)
    (hws : (ops.toList.all fun o => match o.dst with | some t => ws.contains t | none => true) = true) : a = ws.foldl (fun b t => b.put (some t) (sl a t)) a0 := by
  have key := putAll_sl a ws a0 a.tmps.size rfl hs.symm (by
    intro t _ hn
    refine (hrest t ?_).symm
    refine List.all_eq_true.2 fun o ho => ?_
    have := List.all_eq_true.1 hws o ho
    cases hdo : o.dst with
    | none => simp
    | some u =>
      rw [hdo] at this
      have hu : u ∈ ws := by simpa using this
      have : u ≠ t := fun e => hn (e ▸ hu)
      simpa using this)
  have h1 := putAll_size a ws a0
  have h2 := putAll_defers a ws a0
  generalize ws.foldl (fun b t => b.put (some t) (sl a t)) a0 = b at key h1 h2
  obtain ⟨ta, da⟩ := a
  obtain ⟨tb, db⟩ := b
  simp only at h1 h2 hd key hs
  have e1 : ta = tb := by
    refine Array.ext (by omega) fun i hi hj => ?_
    have := key i hi
    simpa [sl, Array.getD_eq_getD_getElem?, hi, hj] using this.symm
  rw [e1, hd, h2]
/-- an operation whose operands' values are known runs as one whose operands are these values -/
theorem eval_tmp (a : Act) (t : Nat) : a.eval (.tmp t) = sl a t := rfl
theorem eval_const (a : Act) (v : Value) : a.eval (.const v) = v := rfl
theorem eval_func (a : Act) (f : FuncId) : a.eval (.func f) = .func (.func f) #[] #[] := rfl
theorem postX {B X st t i : Nat} {sh : Nat → ShX B X} {s : ShX B X} {a : Act} {w w' : World} {dst : Option Tmp} {v : Value} (hi : i ≠ st) (hb : Below w.heap.size w w') (hv : (sh i).ok v w') :
    ∃ u, a.put dst v = a.put dst u ∧ RX B X st i w w' ∧ (if i = st then Boxed B X t s (sl a) w' else (sh i).ok u w') := by
  refine ⟨v, rfl, ?_, ?_⟩
  · unfold RX; rw [if_neg hi]; exact hb
  · rw [if_neg hi]; exact hv
theorem postXs {B X st t i : Nat} {sh : Nat → ShX B X} {s : ShX B X} {a : Act} {w w' : World} {dst : Option Tmp} {v : Value} (hi : i = st) (hb : StepX B X w w') (hv : Boxed B X t s (sl a) w') :
    ∃ u, a.put dst v = a.put dst u ∧ RX B X st i w w' ∧ (if i = st then Boxed B X t s (sl a) w' else (sh i).ok u w') := by
  refine ⟨v, rfl, ?_, ?_⟩
  · unfold RX; rw [if_pos hi]; exact hb
  · rw [if_pos hi]; exact hv
theorem undrew {w W : World} (h : Below w.drew.heap.size w.drew W) : Below w.heap.size w W := ⟨h.os, h.tape, h.output, h.size, h.block⟩
/-- the cells of a struct of two -/
theorem cells2 {w : World} {b T : Nat} {u v : Value} (h : w.heap[b]? = some (.cells #[u, v] T (0, 0))) : w.cell? ⟨b, 0, none⟩ = some u ∧ w.cell? ⟨b, 1, none⟩ = some v :=
  ⟨cell_of_row _ _ 0 _ _ _ h, cell_of_row _ _ 1 _ _ _ h⟩
/-- an owned row is of another element type than the box -/
theorem XRow.of_owns {B X base e : Nat} {w : World} {r : List UInt8 × List UInt8} {q1 q2 : Option Addr} {m1 k1 m2 k2 : Nat} (he : e ≠ X) (h1 : w.ownsRow base e 1 (.slice q1 m1 k1) m1 (r.1.map B8)) (h2 : w.ownsRow base e 1 (.slice q2 m2 k2) m2 (r.2.map B8)) :
    XRow B X r (.agg #[.slice q1 m1 k1, .slice q2 m2 k2]) w := ⟨q1, m1, k1, q2, m2, k2, rfl, ⟨Sl.of_owns h1, Away.own h1 he⟩, ⟨Sl.of_owns h2, Away.own h2 he⟩⟩
theorem stepX_cell {B X b i : Nat} {w : World} {cs : Array Value} {v : Value} (hb : B ≤ b) (h : w.heap[b]? = some (.cells cs X (0, 0))) : StepX B X w (w.setCell ⟨b, i, none⟩ v) := by
  refine ⟨rfl, rfl, rfl, by simp [World.setCell], ?_, ?_⟩
  · intro k hk hp
    refine Below.heap_setCell _ _ _ _ fun e => ?_
    have e : k = b := e
    subst e
    rcases hp with hp | hp
    · omega
    · exact hp _ _ h
  · intro k cs1 h1
    by_cases e : k = b
    · subst e
      rw [h] at h1; cases h1
      exact ⟨cs.setIfInBounds i v, by simp, hss h⟩
    · exact ⟨cs1, rfl, hsc h1 e⟩
theorem StepX.trans {B X : Nat} {w1 w2 w3 : World} (h : StepX B X w1 w2) (g : StepX B X w2 w3) : StepX B X w1 w3 := by
  refine ⟨g.os.trans h.os, g.tape.trans h.tape, g.output.trans h.output, Nat.le_trans h.size g.size, ?_, ?_⟩
  · intro k hk hp
    have h1 := h.keep k hk hp
    rw [g.keep k (by have := h.size; omega) (by rcases hp with hp | hp; exact .inl hp; exact .inr (by rw [h1]; exact hp)), h1]
  · intro k cs hc
    obtain ⟨c1, e1, h1⟩ := h.cells k cs hc
    obtain ⟨c2, e2, h2⟩ := g.cells k c1 h1
    exact ⟨c2, e2.trans e1, h2⟩
theorem stepX_set2 {B X b : Nat} {w : World} {u0 u1 v0 v1 : Value} (hb : B ≤ b) (h : w.heap[b]? = some (.cells #[u0, u1] X (0, 0))) : StepX B X w ((w.setCell ⟨b, 0, none⟩ v0).setCell ⟨b, 1, none⟩ v1) :=
  (stepX_cell hb h).trans (stepX_cell hb (hss h))
theorem heap_set2 {X b : Nat} {w : World} {u0 u1 v0 v1 : Value} (h : w.heap[b]? = some (.cells #[u0, u1] X (0, 0))) : ((w.setCell ⟨b, 0, none⟩ v0).setCell ⟨b, 1, none⟩ v1).heap[b]? = some (.cells #[v0, v1] X (0, 0)) := hss (hss h)
/-- an operation that stores -/
theorem wp_skipX {P : Program} {o : Oper} {a : Act} {w w' : World} {K : Act → World → Prop} {Q : Exit → Act → World → Prop} (hrun : (execOp a.eval o).run P w = .ok .skip w') (h : K (a.put o.dst undef) w') : o.wp P a w K Q := by
  unfold Oper.wp; rw [hrun]; exact h
theorem ite_n {c : Prop} [Decidable c] {A B : Prop} (hc : ¬ c) (h : B) : if c then A else B := by rw [if_neg hc]; exact h
/-- the guard says no -/
theorem wanted_no {ops : Array Oper} {o : Oper} {a : Act} {j : Nat} {b c : Bool} {d : Nat} (hg : o.guard = some (j, b)) (hd : dstOf ops j = some d) (hs : d < a.tmps.size) (hv : sl a d = .bool c) (hn : c ≠ b) : ¬ Region.wanted o (yielded ops a.tmps) = true := by
  have h1 : a.tmps[d]? = some (.bool c) := by
    have := hv
    simp only [sl, Array.getD_eq_getD_getElem?, Array.getElem?_eq_getElem hs, Option.getD_some] at this
    rw [Array.getElem?_eq_getElem hs, this]
  unfold dstOf at hd
  simp [Region.wanted, hg, yielded, hd, h1, hn]
theorem size2 {cs : Array Value} (h : cs.size = 2) : ∃ u v, cs = #[u, v] := by
  obtain ⟨l⟩ := cs
  match l, h with
  | [u, v], _ => exact ⟨u, v, rfl⟩
end Go.By
namespace Go.By
open Go.RowKit
theorem wanted_undef {ops : Array Oper} {o : Oper} {a : Act} {j : Nat} {b : Bool} {d : Nat} (hg : o.guard = some (j, b)) (hd : dstOf ops j = some d) (hs : d < a.tmps.size) (hv : sl a d = undef) : ¬ Region.wanted o (yielded ops a.tmps) = true := by
  have h1 : a.tmps[d]? = some undef := by
    have := hv
    simp only [sl, Array.getD_eq_getD_getElem?, Array.getElem?_eq_getElem hs, Option.getD_some] at this
    rw [Array.getElem?_eq_getElem hs, this]
  unfold dstOf at hd
  simp [Region.wanted, hg, yielded, hd, h1, undef]
theorem cells5 {w : World} {b T : Nat} {u v x y z : Value} (h : w.heap[b]? = some (.cells #[u, v, x, y, z] T (0, 0))) : w.cell? ⟨b, 0, none⟩ = some u ∧ w.cell? ⟨b, 1, none⟩ = some v ∧ w.cell? ⟨b, 2, none⟩ = some x ∧ w.cell? ⟨b, 3, none⟩ = some y ∧ w.cell? ⟨b, 4, none⟩ = some z :=
  ⟨cell_of_row _ _ 0 _ _ _ h, cell_of_row _ _ 1 _ _ _ h, cell_of_row _ _ 2 _ _ _ h, cell_of_row _ _ 3 _ _ _ h, cell_of_row _ _ 4 _ _ _ h⟩
theorem blk_lt {w : World} {b : Nat} {o : Obj} (h : w.heap[b]? = some o) : b < w.heap.size := (Array.getElem?_eq_some_iff.1 h).1
theorem Sl2.at0 {W : World} {g n c : Nat} {xss : List (List UInt8)} (h : Sl2 W (some ⟨g, 0, none⟩) n c xss) (i : Nat) (hi : i < n) : ∃ q m c' xs, W.cell? ⟨g, i, none⟩ = some (.slice q m c') ∧ Sl B8 W q m c' xs ∧ Hid (xss[i]? = some xs) := by
  obtain ⟨b, o, q, m, c', xs, hp, hc, hs, hx⟩ := h.at i hi
  obtain ⟨rfl, rfl⟩ : b = g ∧ o = 0 := by simp at hp; omega
  exact ⟨q, m, c', xs, by simpa using hc, hs, hx⟩
end Go.By
namespace Go.By
open Go.RowKit
theorem cells3 {w : World} {b T : Nat} {u v x : Value} (h : w.heap[b]? = some (.cells #[u, v, x] T (0, 0))) : w.cell? ⟨b, 0, none⟩ = some u ∧ w.cell? ⟨b, 1, none⟩ = some v ∧ w.cell? ⟨b, 2, none⟩ = some x :=
  ⟨cell_of_row _ _ 0 _ _ _ h, cell_of_row _ _ 1 _ _ _ h, cell_of_row _ _ 2 _ _ _ h⟩
theorem Sl.mid {α : Type} {enc : α → Value} {w : World} {b o n c k m : Nat} {xs : List α} (h : Sl enc w (some ⟨b, o, none⟩) n c xs) (hk : k + m ≤ n) : Sl enc w (some ⟨b, o + k, none⟩) m (c - k) ((xs.drop k).take m) := by
  have h1 := h.len; have h2 := h.le; have h3 := h.max
  refine ⟨by rw [List.length_take, List.length_drop]; omega, by omega, by omega, fun e => (by cases e), ?_⟩
  intro i hi
  have hi' : k + i < xs.length := by rw [List.length_take, List.length_drop] at hi; omega
  obtain ⟨b', o', hp, hc⟩ := h.rs (k + i) hi'
  cases hp
  exact ⟨b, o + k, rfl, by rw [show o + k + i = o + (k + i) by omega, hc]; simp⟩
theorem Sl.empty {α : Type} {enc : α → Value} {w : World} {p : Option Addr} {n c : Nat} {xs : List α} (h : Sl enc w p n c xs) : Sl enc w p 0 c ([] : List α) :=
  ⟨rfl, Nat.zero_le _, h.max, fun e => ⟨rfl, (h.nil e).2⟩, Rs.nil⟩
end Go.By
namespace Go.Proofs.Ytofhdakggapahaa
open Go.RowKit Go.By
theorem info_grid : (Try.prog.info? 27).map (·.size) = some 3 := by kernel_rfl
def rowF (wd : Nat) (cells : List UInt8) (i : Nat) : List UInt8 := (cells.drop (i * wd)).take wd
/-- a row, not copied -/
def RetRow (w : World) (p : Option Addr) (wd i : Nat) (cells : List UInt8) (e : Ending) (w' : World) : Prop :=
  ∃ q c', e = .returned (.slice q wd c') ∧ Sl B8 w' q wd c' (rowF wd cells i) ∧ (0 < wd → ∀ g o, p = some ⟨g, o, none⟩ → q = some ⟨g, o + i * wd, none⟩) ∧ Below w.heap.size w w'
set_option maxRecDepth 100000 in
set_option maxHeartbeats 1000000 in
theorem row_any (h wd i : Nat) (p : Option Addr) (n c : Nat) (cells : List UInt8) (w : World) (hs : Sl B8 w p n c cells) (hn : n = h * wd) (hi : i < h) (hb : h ≤ 9223372036854775807) :
    Calls Try.prog 57 #[.agg #[.int .i64 h, .int .i64 wd, .slice p n c], .int .i64 i] w (RetRow w p wd i cells) := by
  have hB : ∀ o, Below w.heap.size w (w.alloc o) := fun o => al (Below.refl _ _) (Nat.le_refl _)
  have HB := Lib.hid hB
  have hmul : (i + 1) * wd ≤ n := by rw [hn]; exact Nat.mul_le_mul_right _ hi
  have hmul2 : (i + 1) * wd = i * wd + wd := Nat.succ_mul _ _
  have hbd := hs.bound
  have w1 : IntKind.i64.wrap ((i : Int) * (wd : Int)) = ((i * wd : Nat) : Int) := by rw [← Int.natCast_mul]; exact Go.IntWalk.i64_in _ (by omega)
  have w2 : IntKind.i64.wrap (((i : Int) + 1) * (wd : Int)) = ((i * wd + wd : Nat) : Int) := by
    rw [← hmul2, Int.natCast_mul, Int.natCast_add]; exact Go.IntWalk.i64_in _ (by rw [← Int.natCast_one, ← Int.natCast_add, ← Int.natCast_mul]; omega)
  have hle := hs.le
  have HS := Lib.hid hs
  have HN := Lib.hid hn
  obtain ⟨k, hk⟩ : ∃ k, k = i * wd := ⟨_, rfl⟩
  rw [← hk] at w1 w2 hmul2
  have HK := Lib.hid hk
  have hk2 : k + wd ≤ n := by omega
  by_cases hw0 : wd = 0
  · subst hw0
    have hk0 : k = 0 := by rw [hk]; simp
    subst hk0
    have HE : Hid (rowF 0 cells i = []) := by show rowF 0 cells i = []; simp [rowF]
    cases p with
    | none =>
      obtain ⟨rfl, rfl⟩ := hs.nil rfl
      clear hs hn hB hk hmul hmul2 hle hk2
      go_enter Try.func57, Try.ntmps57
      go_wp2
      go_ret
      exact ⟨none, 0, rfl, by rw [HE.out]; exact Sl.nil0 _ _, fun h => by omega, HB.out _⟩
    | some ad =>
      clear hs hn hB hk hmul hmul2
      by_cases hc0 : c = 0
      · subst hc0
        go_enter Try.func57, Try.ntmps57
        go_wp2
        go_ret
        exact ⟨_, _, rfl, by rw [HE.out]; simpa using (HS.out.keep (HB.out _)).empty, fun h => by omega, HB.out _⟩
      · have hcp : 0 < c := by omega
        go_enter Try.func57, Try.ntmps57
        go_wp2
        go_ret
        refine ⟨_, _, rfl, by rw [HE.out]; exact ⟨rfl, Nat.zero_le _, by have := HS.out.max; omega, fun e => (by cases e), Rs.nil⟩, fun h => by omega, HB.out _⟩
  · cases p with
    | none => have := hs.nil rfl; omega
    | some ad =>
      obtain ⟨b, o, hp, hc0⟩ := hs.rs 0 (by rw [hs.len]; omega)
      obtain rfl : ad = ⟨b, o, none⟩ := by simpa using hp
      clear hc0 hs hn hB hk hmul hmul2
      have hkc : k < c := by omega
      go_enter Try.func57, Try.ntmps57
      go_wp2
      go_ret
      refine ⟨some ⟨b, o + k, none⟩, c - k, rfl, ?_, fun _ g o' e => by cases e; rw [HK.out], HB.out _⟩
      unfold rowF
      rw [← HK.out]
      exact (HS.out.keep (HB.out _)).mid hk2
set_option maxHeartbeats 400000 in
theorem Width_any (h wd : Nat) (v : Value) (w : World) : Calls Try.prog 14 #[.agg #[.int .i64 h, .int .i64 wd, v]] w fun e w' => e = .returned (.int .i64 wd) ∧ Below w.heap.size w w' := by
  go_enter Try.func14, Try.ntmps14
  go_wp2
  go_ret
  exact ⟨rfl, al (Below.refl _ _) (Nat.le_refl _)⟩
set_option maxHeartbeats 400000 in
theorem Height_any (h wd : Nat) (v : Value) (w : World) : Calls Try.prog 15 #[.agg #[.int .i64 h, .int .i64 wd, v]] w fun e w' => e = .returned (.int .i64 h) ∧ Below w.heap.size w w' := by
  go_enter Try.func15, Try.ntmps15
  go_wp2
  go_ret
  exact ⟨rfl, al (Below.refl _ _) (Nat.le_refl _)⟩
set_option maxRecDepth 100000 in
set_option maxHeartbeats 1000000 in
theorem GSame_any (h1 w1 h2 w2 : Nat) (p1 p2 : Option Addr) (n1 c1 n2 c2 : Nat) (xs ys : List UInt8) (w : World) (s1 : Sl B8 w p1 n1 c1 xs) (s2 : Sl B8 w p2 n2 c2 ys) :
    Calls Try.prog 18 #[.agg #[.int .i64 h1, .int .i64 w1, .slice p1 n1 c1], .agg #[.int .i64 h2, .int .i64 w2, .slice p2 n2 c2]] w fun e w' => e = .returned (.bool (decide (w1 = w2 ∧ h1 = h2 ∧ xs = ys))) ∧ Below w.heap.size w w' := by
  have hB : ∀ o1 o2, Below w.heap.size w ((w.alloc o1).alloc o2) := fun o1 o2 => al (al (Below.refl _ _) (Nat.le_refl _)) (by simp)
  have HB := Lib.hid hB; have S1 := Lib.hid s1; have S2 := Lib.hid s2
  clear hB s1 s2
  by_cases e1 : w1 = w2
  · by_cases e2 : h1 = h2
    · subst e1; subst e2
      have HE : Hid (decide (w1 = w1 ∧ h1 = h1 ∧ xs = ys) = decide (xs = ys)) := by simp [Hid]
      go_enter Try.func18, Try.ntmps18
      go_wp2_with fail
      refine (EqualB_d _ _ _ _ _ _ xs ys _ (S1.out.keep (HB.out _ _)) (S2.out.keep (HB.out _ _))).mono ?_; rintro e w1 ⟨rfl, q, rfl⟩
      generalize decide (xs = ys) = z at HE ⊢
      go_wp2
      go_ret
      exact ⟨by rw [HE.out]; rfl, bdn (HB.out _ _)⟩
    · have HE : Hid (decide (w1 = w2 ∧ h1 = h2 ∧ xs = ys) = false) := by simp [Hid, e2]
      have d1 : ((w1 : Int) == (w2 : Int)) = true := by simp [e1]
      have d2 : ((h1 : Int) == (h2 : Int)) = false := by simp; omega
      clear e1 e2
      go_enter Try.func18, Try.ntmps18
      go_wp2
      go_ret
      exact ⟨by rw [HE.out]; rfl, HB.out _ _⟩
  · have HE : Hid (decide (w1 = w2 ∧ h1 = h2 ∧ xs = ys) = false) := by simp [Hid, e1]
    have d1 : ((w1 : Int) == (w2 : Int)) = false := by simp; omega
    clear e1
    go_enter Try.func18, Try.ntmps18
    go_wp2
    go_ret
    exact ⟨by rw [HE.out]; rfl, HB.out _ _⟩
/-- a grid in new memory -/
def RetG (T : TypeId) (w : World) (h wd : Nat) (cells : List UInt8) (e : Ending) (w' : World) : Prop :=
  ∃ q n c, n = h * wd ∧ e = .returned (.agg #[.int .i64 h, .int .i64 wd, .slice q n c]) ∧ w'.ownsRow w.heap.size T 1 (.slice q n c) n (cells.map B8) ∧ Below w.heap.size w w'
/-- a grid in new memory, and a code -/
def RetG2 (T : TypeId) (w : World) (h wd : Nat) (cells : List UInt8) (code : Int) (e : Ending) (w' : World) : Prop :=
  ∃ q n c, n = h * wd ∧ e = .returned (.tuple #[.agg #[.int .i64 h, .int .i64 wd, .slice q n c], .int .i64 code]) ∧ w'.ownsRow w.heap.size T 1 (.slice q n c) n (cells.map B8) ∧ Below w.heap.size w w'
set_option maxRecDepth 100000 in
set_option maxHeartbeats 1000000 in
theorem blank_any (h wd : Nat) (w : World) (hn : Room (h * wd)) (b1 : h ≤ 9223372036854775807) (b2 : wd ≤ 9223372036854775807) :
    Calls Try.prog 56 #[.int .i64 h, .int .i64 wd] w (RetG 5 w h wd (List.replicate (h * wd) 0)) := by
  obtain ⟨i0, hi, hz0, hz1, hz2⟩ := info_parts info_u8
  have hinfo := info_grid
  obtain ⟨n, hN⟩ : ∃ n, n = h * wd := ⟨_, rfl⟩
  rw [← hN] at hn ⊢
  unfold Room at hn
  have wm : IntKind.i64.wrap ((h : Int) * (wd : Int)) = ((n : Nat) : Int) := by rw [hN, ← Int.natCast_mul]; exact Go.IntWalk.i64_in _ (by rw [← hN]; omega)
  have HM1 : Hid (n ≤ maxLen) := by show n ≤ maxLen; unfold maxLen; omega
  have HM2 : Hid (1 * n ≤ 281474976710656) := by show 1 * n ≤ _; omega
  have HNN := Lib.hid hN
  have HB : Hid (∀ o, Below w.heap.size w (w.alloc o)) := fun o => al (Below.refl _ _) (Nat.le_refl _)
  clear hN
  go_enter Try.func56, Try.ntmps56
  go_wp2_with (at_make; refine wpList_make_full _ rfl _ _ 25 rfl (w.heap.size + 1) 5 i0 (.int .u8 0) 1 Try.underlying25 hi hz0 hz1 .i64 .i64 _ _ n rfl rfl rfl rfl (by rw [hz2]; exact HM2.out) HM1.out (by simp) ?_)
  intro w1 ho hg
  have ho' : w1.ownsRow (w.heap.size + 1) 5 1 (.slice (some ⟨w.heap.size + 1, 0, none⟩) n n) n ((List.replicate n (0 : UInt8)).map B8) := by
    have e : (madeCells #[Value.int .u8 0] n).toList = (List.replicate n (0 : UInt8)).map B8 := by
      rw [List.map_replicate]; exact toList_madeCells_one _ _
    rw [← e]; simpa using ho
  have hb : Below w.heap.size w w1 := (HB.out _).grown hg (by simp) (by simp)
  have e2 : w1.heap[w.heap.size]? = some (.cells #[.int .i64 0, .int .i64 0, .slice none 0 0] 27 (0, 0)) := by
    rw [hg.block _ (by simp) (by simp)]; exact hnew rfl
  obtain ⟨f0, f1, f2⟩ := cells3 e2
  have g0 : w1.frozen? ⟨w.heap.size, 0, none⟩ = false := frozen_of_row _ _ 0 _ _ e2
  have g1 : w1.frozen? ⟨w.heap.size, 1, none⟩ = false := frozen_of_row _ _ 1 _ _ e2
  have g2 : w1.frozen? ⟨w.heap.size, 2, none⟩ = false := frozen_of_row _ _ 2 _ _ e2
  have E2 := Lib.hid e2; have HO := Lib.hid ho'; have HBB := Lib.hid hb
  clear e2 ho ho' hg hb
  go_wp2
  refine bodyPost_ret (results_cell_row rfl _ _ _ 27 #[.int .i64 h, .int .i64 wd, .slice (some ⟨w.heap.size + 1, 0, none⟩) n n] (0, 0) _ rfl (hss (hss (hss E2.out))) Try.underlying27 rfl hinfo) rfl ⟨_, n, n, HNN.out, rfl, ?_, ((HBB.out.setCell (Nat.le_refl _) _).setCell (Nat.le_refl _) _).setCell (Nat.le_refl _) _⟩
  exact owns_mono (owns_set (owns_set (owns_set HO.out (by simp)) (by simp)) (by simp)) (by simp)
end Go.Proofs.Ytofhdakggapahaa
namespace Go.Proofs.Ytofhdakggapahaa
open Go.RowKit Go.By
def gofS (width : Int) (rows : List (List UInt8)) : Int :=
  if width < 0 ∨ 65536 < width then 2 else if (65536 : Int) < rows.length ∨ (65536 : Int) < rows.length * width then 5 else if rows.all (fun y => decide (y.length = width.toNat)) then 0 else 4
theorem enters_of1 : Enters Try.prog 53 := enters_of Try.func53 (by kernel_rfl) rfl
set_option maxHeartbeats 400000 in
theorem Of1_any (q : Option Addr) (m c B s : Nat) (w : World) (hB : w.cell? ⟨B, 0, none⟩ = some (.int .i64 s)) :
    Calls Try.prog 53 #[.slice q m c, .pointer (some ⟨B, 0, none⟩)] w fun e w' => e = .returned (.bool ((m : Int) != s)) ∧ w = w' := by
  go_enter Try.func53, Try.ntmps53
  go_wp2
  go_ret
  exact ⟨rfl, rfl⟩
theorem RetG2.zero {T : TypeId} {w w' : World} {code : Int} (hb : Below w.heap.size w w') : RetG2 T w 0 0 [] code (.returned (.tuple #[.agg #[.int .i64 0, .int .i64 0, .slice none 0 0], .int .i64 code])) w' :=
  ⟨none, 0, 0, rfl, rfl, World.ownsRow_nil _ _ _ _, hb⟩
set_option maxRecDepth 100000 in
set_option maxHeartbeats 1000000 in
theorem GOf_bad (width : Int) (p : Option Addr) (m c : Nat) (w : World) (code : Int) (hc : (width < 0 ∨ 65536 < width) ∧ code = 2 ∨ (0 ≤ width ∧ width ≤ 65536 ∧ 65536 < m ∧ code = 5) ∨ (0 ≤ width ∧ width ≤ 65536 ∧ m ≤ 65536 ∧ (65536 : Int) < (m : Int) * width ∧ code = 5)) (hm : m ≤ 9223372036854775807) (hw : width ≤ 9223372036854775807) :
    Calls Try.prog 11 #[.int .i64 width, .slice p m c] w (RetG2 5 w 0 0 [] code) := by
  have hinfo := info_grid
  have HB : Hid (∀ o1 o2, Below w.heap.size w ((w.alloc o1).alloc o2)) := fun o1 o2 => al (al (Below.refl _ _) (Nat.le_refl _)) (by simp)
  have HX : Hid (∀ o1, ((w.alloc o1).alloc (.cells #[.int .i64 0, .int .i64 0, .slice none 0 0] 27)).heap[w.heap.size + 1]? = some (.cells #[.int .i64 0, .int .i64 0, .slice none 0 0] 27 (0, 0))) := fun o1 => hnew (by simp)
  rcases hc with ⟨h1 | h1, rfl⟩ | ⟨h0, h1, h2, rfl⟩ | ⟨h0, h1, h2, h3, rfl⟩
  · go_enter Try.func11, Try.ntmps11
    go_wp2
    refine bodyPost_ret (results_cell_tmp rfl _ _ _ 27 #[.int .i64 0, .int .i64 0, .slice none 0 0] (0, 0) _ (.int .i64 2) rfl (HX.out _) rfl Try.underlying27 rfl hinfo) rfl (RetG2.zero (HB.out _ _))
  · have h0 : 0 ≤ width := by omega
    go_enter Try.func11, Try.ntmps11
    go_wp2
    refine bodyPost_ret (results_cell_tmp rfl _ _ _ 27 #[.int .i64 0, .int .i64 0, .slice none 0 0] (0, 0) _ (.int .i64 2) rfl (HX.out _) rfl Try.underlying27 rfl hinfo) rfl (RetG2.zero (HB.out _ _))
  · have h3 : (65536 : Int) < (m : Int) := by omega
    go_enter Try.func11, Try.ntmps11
    go_wp2
    refine bodyPost_ret (results_cell_tmp rfl _ _ _ 27 #[.int .i64 0, .int .i64 0, .slice none 0 0] (0, 0) _ (.int .i64 5) rfl (HX.out _) rfl Try.underlying27 rfl hinfo) rfl (RetG2.zero (HB.out _ _))
  · obtain ⟨wd, rfl⟩ := Int.eq_ofNat_of_zero_le h0
    have h4 : (m : Int) ≤ 65536 := by omega
    have hle : m * wd ≤ 65536 * 65536 := Nat.mul_le_mul h2 (by omega)
    obtain ⟨k, hk⟩ : ∃ k, k = m * wd := ⟨_, rfl⟩
    have wm : IntKind.i64.wrap ((m : Int) * (wd : Int)) = ((k : Nat) : Int) := by rw [hk, ← Int.natCast_mul]; exact Go.IntWalk.i64_in _ (by omega)
    have h5 : (65536 : Int) < (k : Int) := by rw [hk, Int.natCast_mul]; exact h3
    clear h3 hk hle
    go_enter Try.func11, Try.ntmps11
    go_wp2
    refine bodyPost_ret (results_cell_tmp rfl _ _ _ 27 #[.int .i64 0, .int .i64 0, .slice none 0 0] (0, 0) _ (.int .i64 5) rfl (HX.out _) rfl Try.underlying27 rfl hinfo) rfl (RetG2.zero (HB.out _ _))
set_option maxRecDepth 100000 in
set_option maxHeartbeats 1000000 in
theorem RGOf_bad (width : Int) (p : Option Addr) (m c : Nat) (w : World) (code : Int) (hc : (width < 0 ∨ 65536 < width) ∧ code = 2 ∨ (0 ≤ width ∧ width ≤ 65536 ∧ 65536 < m ∧ code = 5) ∨ (0 ≤ width ∧ width ≤ 65536 ∧ m ≤ 65536 ∧ (65536 : Int) < (m : Int) * width ∧ code = 5)) (hm : m ≤ 9223372036854775807) (hw : width ≤ 9223372036854775807) :
    Calls Try.prog 13 #[.int .i64 width, .slice p m c] w fun e w' => e = .returned (.int .i64 code) ∧ w = w' := by
  rcases hc with ⟨h1 | h1, rfl⟩ | ⟨h0, h1, h2, rfl⟩ | ⟨h0, h1, h2, h3, rfl⟩
  · go_enter Try.func13, Try.ntmps13
    go_wp2
    go_ret
    exact ⟨rfl, rfl⟩
  · have h0 : 0 ≤ width := by omega
    go_enter Try.func13, Try.ntmps13
    go_wp2
    go_ret
    exact ⟨rfl, rfl⟩
  · have h3 : (65536 : Int) < (m : Int) := by omega
    go_enter Try.func13, Try.ntmps13
    go_wp2
    go_ret
    exact ⟨rfl, rfl⟩
  · obtain ⟨wd, rfl⟩ := Int.eq_ofNat_of_zero_le h0
    have h4 : (m : Int) ≤ 65536 := by omega
    have hle : m * wd ≤ 65536 * 65536 := Nat.mul_le_mul h2 (by omega)
    obtain ⟨k, hk⟩ : ∃ k, k = m * wd := ⟨_, rfl⟩
    have wm : IntKind.i64.wrap ((m : Int) * (wd : Int)) = ((k : Nat) : Int) := by rw [hk, ← Int.natCast_mul]; exact Go.IntWalk.i64_in _ (by omega)
    have h5 : (65536 : Int) < (k : Int) := by rw [hk, Int.natCast_mul]; exact h3
    clear h3 hk hle
    go_enter Try.func13, Try.ntmps13
    go_wp2
    go_ret
    exact ⟨rfl, rfl⟩
set_option maxRecDepth 100000 in
set_option maxHeartbeats 1000000 in
theorem RGOf_good (wd : Nat) (p : Option Addr) (m c : Nat) (xss : List (List UInt8)) (w : World) (h : Sl2 w p m c xss) (h1 : wd ≤ 65536) (h2 : m ≤ 65536) (h3 : m * wd ≤ 65536) :
    Calls Try.prog 13 #[.int .i64 wd, .slice p m c] w fun e w' => e = .returned (.int .i64 (if xss.all (fun y => decide (y.length = wd)) then 0 else 4)) ∧ w = w' := by
  obtain ⟨k, hk⟩ : ∃ k, k = m * wd := ⟨_, rfl⟩
  have wm : IntKind.i64.wrap ((m : Int) * (wd : Int)) = ((k : Nat) : Int) := by rw [hk, ← Int.natCast_mul]; exact Go.IntWalk.i64_in _ (by omega)
  rw [← hk] at h3
  have H := Lib.hid h
  have HL := Lib.hid h.len
  obtain ⟨R, hR⟩ : ∃ R : Int, R = if xss.all (fun y => decide (y.length = wd)) then 0 else 4 := ⟨_, rfl⟩
  rw [← hR]
  have HR := Lib.hid hR
  clear hk h hR
  go_enter Try.func13, Try.ntmps13
  go_wp2
  go_loop [25] (fun i => ∃ k : Nat, k ≤ m ∧ i = .int .i64 k ∧ Hid (∀ (j : Nat) (x : List UInt8), j < k → xss[j]? = some x → x.length = wd)) (fun i => m - (intOf i).toNat)
  case atStart => exact ⟨0, Nat.zero_le _, rfl, fun j x hj => by omega⟩
  case round =>
    obtain ⟨k, hk, rfl, hj⟩ := hrel
    by_cases hlt : k < m
    · obtain ⟨b, o, q, mx, cx, xs, rfl, hc, hs, hx⟩ := H.out.at k hlt
      have hmx := hs.len
      have hmb := hs.bound
      by_cases e : mx = wd
      · subst e
        have HX := Lib.hid hmx
        clear hs hmx
        go_wp2
        go_round
        case rel => exact ⟨k + 1, by omega, by go_num, fun j x hjk hx' => by
          rcases Nat.lt_or_ge j k with h | h
          · exact hj.out j x h hx'
          · obtain rfl : j = k := by omega
            have := hx.out; rw [hx'] at this; cases this; exact HX.out⟩
        case measure => simp [intOf]; omega
      · have d1 : ((mx : Int) != (wd : Int)) = true := by simp; omega
        have hR4 : Hid (R = 4) := by
          show R = 4
          rw [HR.out, if_neg]
          intro hall
          have := List.all_eq_true.1 hall xs (List.mem_of_getElem? hx.out)
          simp at this; omega
        clear hs hmx e
        go_wp2
        go_ret
        exact ⟨by rw [hR4.out]; rfl, rfl⟩
    · have hkm : k = m := by omega
      have hR0 : Hid (R = 0) := by
        show R = 0
        rw [HR.out, if_pos]
        rw [List.all_eq_true]
        intro x hx
        obtain ⟨i, hi, rfl⟩ := List.getElem_of_mem hx
        exact decide_eq_true (hj.out i _ (by rw [hkm, ← HL.out]; exact hi) (List.getElem?_eq_getElem hi))
      have hge : (m : Int) ≤ (k : Int) := by omega
      clear hkm
      go_wp2
      go_ret
      exact ⟨by rw [hR0.out]; rfl, rfl⟩
set_option maxRecDepth 100000 in
set_option maxHeartbeats 1000000 in
theorem Few7_any (p : Option Addr) (m c : Nat) (xss : List (List UInt8)) (w : World) (h : Sl2 w p m c xss) :
    Calls Try.prog 10 #[.slice p m c] w fun e w' => e = .returned (.bool (xss.all (fun y => decide (y.length ≤ 30)) && decide (m ≤ 30))) ∧ w = w' := by
  have H := Lib.hid h
  have HL := Lib.hid h.len
  have hmb := h.bound
  obtain ⟨R, hR⟩ : ∃ R : Bool, R = (xss.all (fun y => decide (y.length ≤ 30)) && decide (m ≤ 30)) := ⟨_, rfl⟩
  rw [← hR]
  have HR := Lib.hid hR
  clear h hR
  go_enter Try.func10, Try.ntmps10
  go_wp2
  go_loop [7] (fun i => ∃ k : Nat, k ≤ m ∧ i = .int .i64 k ∧ Hid (∀ (j : Nat) (x : List UInt8), j < k → xss[j]? = some x → x.length ≤ 30)) (fun i => m - (intOf i).toNat)
  case atStart => exact ⟨0, Nat.zero_le _, rfl, fun j x hj => by omega⟩
  case round =>
    obtain ⟨k, hk, rfl, hj⟩ := hrel
    by_cases hlt : k < m
    · obtain ⟨b, o, q, mx, cx, xs, rfl, hc, hs, hx⟩ := H.out.at k hlt
      have hmx := hs.len
      have hxb := hs.bound
      by_cases e : mx ≤ 30
      · have HX := Lib.hid hmx
        clear hs hmx
        have e' : (mx : Int) ≤ 30 := by omega
        go_wp2
        go_round
        case rel => exact ⟨k + 1, by omega, by go_num, fun j x hjk hx' => by
          rcases Nat.lt_or_ge j k with h | h
          · exact hj.out j x h hx'
          · obtain rfl : j = k := by omega
            have := hx.out; rw [hx'] at this; cases this; rw [HX.out]; exact e⟩
        case measure => simp [intOf]; omega
      · have e' : (30 : Int) < (mx : Int) := by omega
        have hRf : Hid (R = false) := by
          show R = false
          rw [HR.out]
          have : xss.all (fun y => decide (y.length ≤ 30)) = false := by
            rw [List.all_eq_false]
            exact ⟨xs, List.mem_of_getElem? hx.out, by simp; omega⟩
          rw [this]; rfl
        clear hs hmx e
        go_wp2
        go_ret
        exact ⟨by rw [hRf.out]; rfl, rfl⟩
    · have hkm : k = m := by omega
      have hRt : Hid (R = decide ((m : Int) ≤ 30)) := by
        show R = _
        rw [HR.out]
        have : xss.all (fun y => decide (y.length ≤ 30)) = true := by
          rw [List.all_eq_true]
          intro x hx
          obtain ⟨i, hi, rfl⟩ := List.getElem_of_mem hx
          exact decide_eq_true (hj.out i _ (by rw [hkm, ← HL.out]; exact hi) (List.getElem?_eq_getElem hi))
        rw [this, Bool.true_and]
        by_cases h30 : m ≤ 30
        · rw [decide_eq_true h30, decide_eq_true (by omega)]
        · rw [decide_eq_false h30, decide_eq_false (by omega)]
      have hge : (m : Int) ≤ (k : Int) := by omega
      clear hkm
      go_wp2
      go_ret
      exact ⟨by rw [hRt.out]; rfl, rfl⟩
end Go.Proofs.Ytofhdakggapahaa
namespace Go.By
theorem list_set_succ {α : Type} (vs : List α) (n : Nat) (z u : α) : (vs ++ List.replicate (n + 1) z).set vs.length u = (vs ++ [u]) ++ List.replicate n z := by
  rw [List.set_append_right _ _ (Nat.le_refl _), Nat.sub_self, List.replicate_succ, List.set_cons_zero, List.append_assoc]; rfl
end Go.By
namespace Go.Proofs.Ytofhdakggapahaa
open Go.RowKit Go.By
/-- the cells of a unit behind so many rounds -/
def unitC (n : Nat) : Nat → List UInt8
  | 0 => List.replicate (n * n) 0
  | k + 1 => (unitC n k).set (k * n + k) 1
theorem unitC_len (n : Nat) : ∀ k, (unitC n k).length = n * n
  | 0 => by simp [unitC]
  | k + 1 => by simp [unitC, unitC_len n k]
theorem info_rows : (Try.prog.info? 25).map (fun i => (i.zero, i.size, i.bytes)) = some (some (.slice none 0 0), 1, 24) := by kernel_rfl
set_option maxRecDepth 100000 in
set_option maxHeartbeats 1000000 in
theorem Unit_bad (n : Int) (w : World) (h : n < 0 ∨ 256 < n) : Calls Try.prog 12 #[.int .i64 n] w (RetG2 5 w 0 0 [] 2) := by
  have hinfo := info_grid
  have HB : Hid (∀ o1, Below w.heap.size w (w.alloc o1)) := fun o1 => al (Below.refl _ _) (Nat.le_refl _)
  have HX : Hid ((w.alloc (.cells #[.int .i64 0, .int .i64 0, .slice none 0 0] 27)).heap[w.heap.size]? = some (.cells #[.int .i64 0, .int .i64 0, .slice none 0 0] 27 (0, 0))) := hnew rfl
  rcases h with h | h
  · go_enter Try.func12, Try.ntmps12
    go_wp2
    refine bodyPost_ret (results_cell_tmp rfl _ _ _ 27 #[.int .i64 0, .int .i64 0, .slice none 0 0] (0, 0) _ (.int .i64 2) rfl HX.out rfl Try.underlying27 rfl hinfo) rfl (RetG2.zero (HB.out _))
  · have h0 : 0 ≤ n := by omega
    go_enter Try.func12, Try.ntmps12
    go_wp2
    refine bodyPost_ret (results_cell_tmp rfl _ _ _ 27 #[.int .i64 0, .int .i64 0, .slice none 0 0] (0, 0) _ (.int .i64 2) rfl HX.out rfl Try.underlying27 rfl hinfo) rfl (RetG2.zero (HB.out _))
set_option maxRecDepth 100000 in
set_option maxHeartbeats 2000000 in
theorem Unit_good (n : Nat) (w : World) (hn : n ≤ 256) : Calls Try.prog 12 #[.int .i64 n] w (RetG2 5 w n n (unitC n n) 0) := by
  have hinfo := info_grid
  have hnn : n * n ≤ 256 * 256 := Nat.mul_le_mul hn hn
  have HBL := Lib.hid (fun W => blank_any n n W (show Room (n * n) by unfold Room; omega) (by omega) (by omega))
  obtain ⟨N, hN⟩ : ∃ N, N = n * n := ⟨_, rfl⟩
  have HNE := Lib.hid hN
  have HL : Hid (∀ k, (unitC n k).length = N) := fun k => by rw [hN]; exact unitC_len n k
  rw [← hN] at hnn
  clear hN
  go_enter Try.func12, Try.ntmps12
  go_wp2_with fail
  refine Calls.mono (HBL.out _) ?_; rintro e w1 ⟨q, n1, c, hn1, rfl, ho, hb⟩
  obtain rfl : n1 = N := hn1.trans HNE.out.symm
  have E0 : Hid (w1.heap[w.heap.size]? = some (.cells #[.int .i64 0, .int .i64 0, .slice none 0 0] 27 (0, 0))) := (hb.block _ (by simp)).trans (hnew rfl)
  have K1 : Hid (Below w.heap.size w w1) := bl (al (Below.refl _ _) (Nat.le_refl _)) hb (by simp)
  have hs1 := hb.size
  have HS1 : Hid (w.heap.size + 1 ≤ w1.heap.size) := by show _ ≤ _; simp at hs1; omega
  have HO : Hid (w1.ownsRow (w.heap.size + 1) 5 1 (.slice q n1 c) n1 ((unitC n 0).map B8)) := by
    show World.ownsRow _ _ _ _ _ _ _
    unfold unitC
    have ho2 := owns_mono ho (show w.heap.size + 1 ≤ _ by simp)
    exact ho2
  clear ho hb hs1 hn1
  go_wp2
  go_loopw [17] (fun i wr => ∃ k : Nat, k ≤ n ∧ i = .int .i64 k ∧ Hid (wr.ownsRow (w.heap.size + 1) 5 1 (.slice q n1 c) n1 ((unitC n k).map B8)) ∧ Hid (Below w.heap.size w wr) ∧
    Hid (wr.heap[w1.heap.size]? = some (.cells #[.int .i64 n, .int .i64 n, .slice q n1 c] 27 (0, 0))) ∧ Hid (wr.heap[w.heap.size]? = some (.cells #[.int .i64 0, .int .i64 0, .slice none 0 0] 27 (0, 0)))) (fun i _ => n - (intOf i).toNat)
  case atStart => exact ⟨0, Nat.zero_le _, rfl, owns_keep HO.out (al (Below.refl _ _) (Nat.le_refl _)), al K1.out K1.out.size, hnew rfl, hal E0.out⟩
  case round =>
    obtain ⟨k, hk, rfl, hO, hB, hX, hZ⟩ := hrel
    by_cases hlt : k < n
    · obtain ⟨x0, x1, x2⟩ := cells3 hX.out
      have hpos : 0 < n1 := by rw [HNE.out]; exact Nat.mul_pos (by omega) (by omega)
      obtain ⟨g, rfl, hg1, hg2⟩ := owns_at hO.out hpos
      have hidx : k * n + k < n1 := by
        have h1 : (k + 1) * n ≤ n * n := Nat.mul_le_mul_right _ hlt
        rw [Nat.add_mul, Nat.one_mul, ← HNE.out] at h1; omega
      have hg : w1.heap.size ≠ g := fun e => by
        subst e
        rcases hO.out.2 with ⟨h', _⟩ | ⟨g', cap, cur, hv, _, hh, _⟩
        · cases h'
        · cases hv
          rw [hX.out] at hh; cases hh
      have hz : w.heap.size ≠ g := by omega
      go_wp2_with fail
      refine Calls.mono (row_any n n k _ n1 c (unitC n k) wr (Sl.of_owns hO.out) HNE.out hlt (by omega)) ?_
      rintro e w2 ⟨q', c', rfl, hs', hq', hb'⟩
      have hq2 := hq' (by omega) g 0 rfl
      rw [Nat.zero_add] at hq2
      subst hq2
      have hO2 : Hid (w2.ownsRow (w.heap.size + 1) 5 1 (.slice (some ⟨g, 0, none⟩) n1 c) n1 ((unitC n k).map B8)) := owns_keep hO.out hb'
      have hB2 : Hid (Below w.heap.size w w2) := bl hB.out hb' hB.out.size
      have hX2 : Hid (w2.heap[w1.heap.size]? = some (.cells #[.int .i64 n, .int .i64 n, .slice (some ⟨g, 0, none⟩) n1 c] 27 (0, 0))) := (hb'.block _ (blk_lt hX.out)).trans hX.out
      have hZ2 : Hid (w2.heap[w.heap.size]? = some (.cells #[.int .i64 0, .int .i64 0, .slice none 0 0] 27 (0, 0))) := (hb'.block _ (blk_lt hZ.out)).trans hZ.out
      obtain ⟨y, hy⟩ : ∃ y, (unitC n k)[k * n + k]? = some y := ⟨_, List.getElem?_eq_getElem (by rw [HL.out]; exact hidx)⟩
      have cx : w2.cell? ⟨g, k * n + k, none⟩ = some (B8 y) := by rw [hO2.out.cellAt _ (by omega), List.getElem?_map, hy]; rfl
      have zx : w2.frozen? ⟨g, k * n + k, none⟩ = false := hO2.out.frozenAt _
      have kn : (k : Int) < (n : Int) := by omega
      clear hO hB hX hZ hs' hq' hb' x0 x1 x2 hy hidx
      have P2 : Hid ((w2.setCell ⟨g, k * n + k, none⟩ (.int .u8 1)).ownsRow (w.heap.size + 1) 5 1 (.slice (some ⟨g, 0, none⟩) n1 c) n1 ((unitC n (k + 1)).map B8) ∧ Below w.heap.size w (w2.setCell ⟨g, k * n + k, none⟩ (.int .u8 1)) ∧
          (w2.setCell ⟨g, k * n + k, none⟩ (.int .u8 1)).heap[w1.heap.size]? = some (.cells #[.int .i64 n, .int .i64 n, .slice (some ⟨g, 0, none⟩) n1 c] 27 (0, 0)) ∧
          (w2.setCell ⟨g, k * n + k, none⟩ (.int .u8 1)).heap[w.heap.size]? = some (.cells #[.int .i64 0, .int .i64 0, .slice none 0 0] 27 (0, 0))) := by
        refine ⟨?_, hB2.out.setCell (by show w.heap.size ≤ g; omega) _, hsc hX2.out hg, hsc hZ2.out hz⟩
        have e : unitC n (k + 1) = (unitC n k).set (k * n + k) 1 := rfl
        rw [e, List.map_set]
        exact (hO2.out.stored (k * n + k) (B8 1)).1
      clear hO2 hB2 hX2 hZ2
      go_wp2
      go_roundw
      case rel => exact ⟨k + 1, by omega, by go_num, P2.out.1, P2.out.2.1, P2.out.2.2.1, P2.out.2.2.2⟩
      case measure => simp [intOf]; omega
    · have hkn : k = n := by omega
      obtain ⟨x0, x1, x2⟩ := cells3 hX.out
      obtain ⟨f0, f1, f2⟩ := cells3 hZ.out
      have z0 := frozen_of_row _ _ 0 _ _ hZ.out
      have z1 := frozen_of_row _ _ 1 _ _ hZ.out
      have z2 := frozen_of_row _ _ 2 _ _ hZ.out
      have hge : (n : Int) ≤ (k : Int) := by omega
      have HKN := Lib.hid hkn
      clear hkn
      go_wp2
      refine bodyPost_ret (results_cell_tmp rfl _ _ _ 27 #[.int .i64 n, .int .i64 n, .slice q n1 c] (0, 0) _ (.int .i64 0) rfl (hss (hss (hss hZ.out))) rfl Try.underlying27 rfl hinfo) rfl ⟨q, n1, c, HNE.out, rfl, ?_, ((hB.out.setCell (Nat.le_refl _) _).setCell (Nat.le_refl _) _).setCell (Nat.le_refl _) _⟩
      rw [← HKN.out]
      rw [HKN.out] at hO ⊢
      exact owns_mono (owns_set (owns_set (owns_set hO.out (by simp)) (by simp)) (by simp)) (by simp)
set_option maxRecDepth 100000 in
set_option maxHeartbeats 2000000 in
theorem GRows_any (h wd : Nat) (p : Option Addr) (n c : Nat) (cells : List UInt8) (w : World) (hs : Sl B8 w p n c cells) (hn : n = h * wd) (hr : Room wd) (hh : Room (h * 24)) :
    Calls Try.prog 17 #[.agg #[.int .i64 h, .int .i64 wd, .slice p n c]] w fun e w' => ∃ q c', e = .returned (.slice q h c') ∧ Own2 25 5 w' w.heap.size (.slice q h c') h ((List.range h).map (rowF wd cells)) ∧ Below w.heap.size w w' := by
  obtain ⟨r0, hr0, hrz, hr1, hr2⟩ := info_parts info_rows
  have HS := Lib.hid hs; have HN := Lib.hid hn
  unfold Room at hh
  have hb : h ≤ 9223372036854775807 := by omega
  have HM1 : Hid (h ≤ maxLen) := by show h ≤ maxLen; unfold maxLen; omega
  have HM2 : Hid (24 * h ≤ 281474976710656) := by show 24 * h ≤ _; omega
  have HR := Lib.hid hr
  have HB : Hid (∀ o, Below w.heap.size w (w.alloc o)) := fun o => al (Below.refl _ _) (Nat.le_refl _)
  clear hs hn hr
  go_enter Try.func17, Try.ntmps17
  go_wp2_with (at_make; refine wpList_make_full _ rfl _ _ 22 rfl (w.heap.size + 1) 25 r0 (.slice none 0 0) 1 Try.underlying22 hr0 hrz hr1 .i64 .i64 _ _ h rfl rfl rfl rfl (by rw [hr2]; exact HM2.out) HM1.out (by simp) ?_)
  intro w1 ho hg
  have HO : Hid (w1.ownsRow (w.heap.size + 1) 25 1 (.slice (some ⟨w.heap.size + 1, 0, none⟩) h h) h ([] ++ List.replicate (h - 0) (Value.slice none 0 0))) := by
    have e : (madeCells #[Value.slice none 0 0] h).toList = List.replicate h (Value.slice none 0 0) := toList_madeCells_one _ _
    show World.ownsRow _ _ _ _ _ _ _
    rw [List.nil_append, Nat.sub_zero, ← e]; simpa using ho
  have hb1 : Below w.heap.size w w1 := (HB.out _).grown hg (by simp) (by simp)
  have E0 : Hid (w1.heap[w.heap.size]? = some (.cells #[.int .i64 h, .int .i64 wd, .slice p n c] 27 (0, 0))) := by
    show _ = _
    rw [hg.block _ (by simp) (by simp)]; exact hnew rfl
  have K1 := Lib.hid hb1
  obtain ⟨y0, y1, y2⟩ := cells3 E0.out
  clear ho hg hb1
  go_wp2
  clear y0 y1 y2
  go_loopw [10] (fun i wr => ∃ (k : Nat) (vs : List Value), k ≤ h ∧ i = .int .i64 k ∧ Hid (vs.length = k) ∧ Hid (wr.ownsRow (w.heap.size + 1) 25 1 (.slice (some ⟨w.heap.size + 1, 0, none⟩) h h) h (vs ++ List.replicate (h - k) (Value.slice none 0 0))) ∧
    Hid (∀ (j : Nat) (v : Value), vs[j]? = some v → ∃ q c', v = .slice q wd c' ∧ wr.ownsRow (w.heap.size + 1) 5 1 (.slice q wd c') wd ((rowF wd cells j).map B8)) ∧ Hid (Below w.heap.size w wr) ∧
    Hid (wr.heap[w.heap.size]? = some (.cells #[.int .i64 h, .int .i64 wd, .slice p n c] 27 (0, 0)))) (fun i _ => h - (intOf i).toNat)
  case atStart => exact ⟨0, [], Nat.zero_le _, rfl, rfl, HO.out, fun j v hj => by simp at hj, K1.out, E0.out⟩
  case round =>
    obtain ⟨k, vs, hk, rfl, hl, hO, hV, hBw, hX⟩ := hrel
    by_cases hlt : k < h
    · obtain ⟨x0, x1, x2⟩ := cells3 hX.out
      go_wp2_with fail
      refine Calls.mono (row_any h wd k p n c cells wr (HS.out.keep hBw.out) HN.out hlt hb) ?_
      rintro e w2 ⟨q', c', rfl, hs', -, hb'⟩
      have hB2 : Hid (Below w.heap.size w w2) := bl hBw.out hb' hBw.out.size
      have HS' := Lib.hid hs'
      have hs2 := hb'.size
      have hsz := hBw.out.size
      clear x0 x1 x2 hs'
      go_wp2_with fail
      refine Calls.mono (CloneB_any q' wd c' (rowF wd cells k) w2 HS'.out HR.out) ?_
      rintro e w3 ⟨q3, c3, rfl, ho3, hb3⟩
      have hb23 := bl hb' hb3 hs2
      have hO3 : Hid (w3.ownsRow (w.heap.size + 1) 25 1 (.slice (some ⟨w.heap.size + 1, 0, none⟩) h h) h (vs ++ List.replicate (h - k) (Value.slice none 0 0))) := owns_keep hO.out hb23
      have hlt0 := (hO.out.lt (w.heap.size + 1) rfl).2
      have hR3 : Hid (w3.ownsRow (w.heap.size + 1) 5 1 (.slice q3 wd c3) wd ((rowF wd cells k).map B8)) := owns_mono ho3 (by omega)
      have hV3 : Hid (∀ (j : Nat) (v : Value), vs[j]? = some v → ∃ q c', v = .slice q wd c' ∧ w3.ownsRow (w.heap.size + 1) 5 1 (.slice q wd c') wd ((rowF wd cells j).map B8)) := fun j v hj => by
        obtain ⟨q, c', e, ho⟩ := hV.out j v hj
        exact ⟨q, c', e, owns_keep ho hb23⟩
      have hB3 : Hid (Below w.heap.size w w3) := bl hBw.out hb23 hBw.out.size
      have hX3 : Hid (w3.heap[w.heap.size]? = some (.cells #[.int .i64 h, .int .i64 wd, .slice p n c] 27 (0, 0))) := (hb23.block _ (blk_lt hX.out)).trans hX.out
      have cx : w3.cell? ⟨w.heap.size + 1, k, none⟩ = some (.slice none 0 0) := by
        rw [hO3.out.cellAt _ (by omega), List.getElem?_append_right (by rw [hl.out]; exact Nat.le_refl _), hl.out, Nat.sub_self]
        exact List.getElem?_replicate_of_lt (by omega)
      have zx : w3.frozen? ⟨w.heap.size + 1, k, none⟩ = false := hO3.out.frozenAt _
      have kn : (k : Int) < (h : Int) := by omega
      have P2 : Hid ((w3.setCell ⟨w.heap.size + 1, k, none⟩ (.slice q3 wd c3)).ownsRow (w.heap.size + 1) 25 1 (.slice (some ⟨w.heap.size + 1, 0, none⟩) h h) h ((vs ++ [.slice q3 wd c3]) ++ List.replicate (h - (k + 1)) (Value.slice none 0 0)) ∧
          (∀ (j : Nat) (v : Value), (vs ++ [.slice q3 wd c3])[j]? = some v → ∃ q c', v = .slice q wd c' ∧ (w3.setCell ⟨w.heap.size + 1, k, none⟩ (.slice q3 wd c3)).ownsRow (w.heap.size + 1) 5 1 (.slice q wd c') wd ((rowF wd cells j).map B8)) ∧
          Below w.heap.size w (w3.setCell ⟨w.heap.size + 1, k, none⟩ (.slice q3 wd c3)) ∧
          (w3.setCell ⟨w.heap.size + 1, k, none⟩ (.slice q3 wd c3)).heap[w.heap.size]? = some (.cells #[.int .i64 h, .int .i64 wd, .slice p n c] 27 (0, 0))) := by
        have hst := hO3.out.stored k (.slice q3 wd c3)
        have hkeep : ∀ (q : Option Addr) (c' j : Nat), w3.ownsRow (w.heap.size + 1) 5 1 (.slice q wd c') wd ((rowF wd cells j).map B8) → (w3.setCell ⟨w.heap.size + 1, k, none⟩ (.slice q3 wd c3)).ownsRow (w.heap.size + 1) 5 1 (.slice q wd c') wd ((rowF wd cells j).map B8) := fun q c' j hh =>
          owns_kept hh hst.2 (owns_ne hh hO3.out (by decide))
        refine ⟨?_, ?_, hB3.out.setCell (by show w.heap.size ≤ w.heap.size + 1; omega) _, hsc hX3.out (by show w.heap.size ≠ w.heap.size + 1; omega)⟩
        · have e := list_set_succ vs (h - (k + 1)) (Value.slice none 0 0) (.slice q3 wd c3)
          rw [hl.out, show h - (k + 1) + 1 = h - k by omega] at e
          rw [← e]; exact hst.1
        · intro j v hj
          by_cases hjk : j < vs.length
          · rw [List.getElem?_append_left hjk] at hj
            obtain ⟨q, c', e, ho⟩ := hV3.out j v hj
            exact ⟨q, c', e, hkeep _ _ _ ho⟩
          · have hj2 := (List.getElem?_eq_some_iff.1 hj).1
            rw [List.length_append, List.length_singleton] at hj2
            obtain rfl : j = vs.length := by omega
            rw [List.getElem?_append_right (Nat.le_refl _), Nat.sub_self] at hj
            have hv : Value.slice q3 wd c3 = v := by simpa using hj
            exact ⟨q3, c3, hv.symm, by rw [hl.out]; exact hkeep _ _ _ hR3.out⟩
      have HL2 : Hid ((vs ++ [Value.slice q3 wd c3]).length = k + 1) := by show _ = _; rw [List.length_append, hl.out]; rfl
      clear hO hV hBw hX ho3 hb3 hb23 hO3 hR3 hV3 hB3 hX3 hB2 hs2 hlt0 HS' hb' hsz
      go_wp2
      go_roundw
      case rel => exact ⟨k + 1, vs ++ [Value.slice q3 wd c3], by omega, by go_num, HL2.out, P2.out.1, P2.out.2.1, P2.out.2.2.1, P2.out.2.2.2⟩
      case measure => simp [intOf]; omega
    · have hkh : k = h := by omega
      have hge : (h : Int) ≤ (k : Int) := by omega
      have HF : Hid (Own2 25 5 wr w.heap.size (.slice (some ⟨w.heap.size + 1, 0, none⟩) h h) h ((List.range h).map (rowF wd cells))) := by
        have hO' := hO.out
        rw [hkh, Nat.sub_self, List.replicate_zero, List.append_nil] at hO'
        refine ⟨vs, owns_mono hO' (by omega), by simp, ?_⟩
        intro j v hj
        have hj2 := (List.getElem?_eq_some_iff.1 hj).1
        rw [hl.out] at hj2
        obtain ⟨q, c', e, ho⟩ := hV.out j v hj
        have hlen : (rowF wd cells j).length = wd := by have := owns_len ho; simpa using this
        refine ⟨rowF wd cells j, q, c', by rw [List.getElem?_map, List.getElem?_range (by omega)]; rfl, by rw [hlen]; exact e, ?_⟩
        rw [hlen]; exact owns_mono ho (by omega)
      have HBF := Lib.hid hBw.out
      clear hkh hO hV hX hBw hl
      go_wp2
      go_ret
      exact ⟨_, _, rfl, HF.out, HBF.out⟩
end Go.Proofs.Ytofhdakggapahaa
namespace Go.By
open Go.RowKit
def fl2 (vs : List (Value × Value)) : List Value := vs.flatMap fun u => [u.1, u.2]
theorem fl2_append (a b : List (Value × Value)) : fl2 (a ++ b) = fl2 a ++ fl2 b := by simp [fl2]
theorem fl2_length (vs : List (Value × Value)) : (fl2 vs).length = vs.length * 2 := by
  induction vs with
  | nil => rfl
  | cons u vs ih => show (u.1 :: u.2 :: fl2 vs).length = _; simp only [List.length_cons, ih]; omega
theorem fl2_at : ∀ {vs : List (Value × Value)} {i : Nat} {u : Value × Value}, vs[i]? = some u → (fl2 vs)[i * 2]? = some u.1 ∧ (fl2 vs)[i * 2 + 1]? = some u.2
  | v :: vs, 0, u, h => by obtain rfl : v = u := by simpa using h
                           exact ⟨rfl, rfl⟩
  | v :: vs, i + 1, u, h => by
    have ih := fl2_at (vs := vs) (i := i) (u := u) (by simpa using h)
    have e : fl2 (v :: vs) = v.1 :: v.2 :: fl2 vs := rfl
    rw [e, show (i + 1) * 2 = i * 2 + 2 by omega]
    exact ⟨by simpa using ih.1, by simpa using ih.2⟩
/-- a slice value that owns these bytes -/
def Bw (T1 : TypeId) (w : World) (base : Nat) (v : Value) (xs : List UInt8) : Prop := ∃ q m c, v = .slice q m c ∧ xs.length = m ∧ w.ownsRow base T1 1 (.slice q m c) m (xs.map B8)
/-- rows, each with bytes of its own -/
def RwL (T2 T1 : TypeId) (w : World) (base : Nat) (v : Value) (n : Nat) (K : List (List UInt8 × List UInt8)) : Prop :=
  ∃ vs : List (Value × Value), vs.length = n ∧ K.length = n ∧ w.ownsRow base T2 2 v n (fl2 vs) ∧ ∀ (j : Nat) (u : Value × Value), vs[j]? = some u → ∃ k, K[j]? = some k ∧ Bw T1 w base u.1 k.1 ∧ Bw T1 w base u.2 k.2
section
variable {T2 T1 : TypeId} {w w' : World} {base n : Nat} {v : Value} {K : List (List UInt8 × List UInt8)}
theorem Bw.keep {xs : List UInt8} (h : Bw T1 w base v xs) (hb : Below w.heap.size w w') : Bw T1 w' base v xs := by
  obtain ⟨q, m, c, e, l, o⟩ := h; exact ⟨q, m, c, e, l, owns_keep o hb⟩
theorem Bw.sl {xs : List UInt8} (h : Bw T1 w base v xs) : ∃ q m c, v = .slice q m c ∧ Sl B8 w q m c xs := by
  obtain ⟨q, m, c, e, l, o⟩ := h; exact ⟨q, m, c, e, Sl.of_owns o⟩
theorem Bw.grown {xs : List UInt8} {u : Value} {L : List Value} {m : Nat} (h : Bw T1 w base v xs) (hT : T1 ≠ T2) (ho : w.ownsRow base T2 2 u m L) (hg : w.grownBy w' u.ownBlock) : Bw T1 w' base v xs := by
  obtain ⟨q, m, c, e, l, o⟩ := h; exact ⟨q, m, c, e, l, owns_kept o hg (owns_ne o ho hT)⟩
theorem RwL.nil (T2 T1 : TypeId) (w : World) (base : Nat) : RwL T2 T1 w base (.slice none 0 0) 0 [] := ⟨[], rfl, rfl, World.ownsRow_nil _ _ _ _, fun j u h => by simp at h⟩
theorem RwL.keep (h : RwL T2 T1 w base v n K) (hb : Below w.heap.size w w') : RwL T2 T1 w' base v n K := by
  obtain ⟨vs, a, b, o, r⟩ := h
  exact ⟨vs, a, b, owns_keepv o hb, fun j u hj => by obtain ⟨k, hk, g1, g2⟩ := r j u hj; exact ⟨k, hk, g1.keep hb, g2.keep hb⟩⟩
theorem RwL.len (h : RwL T2 T1 w base v n K) : K.length = n := by obtain ⟨vs, a, b, o, r⟩ := h; exact b
theorem RwL.shape (h : RwL T2 T1 w base v n K) : ∃ q c, v = .slice q n c := by obtain ⟨vs, a, b, o, r⟩ := h; exact owns_shape o
/-- one row, in memory -/
theorem RwL.at {q : Option Addr} {c : Nat} (h : RwL T2 T1 w base (.slice q n c) n K) {j : Nat} (hj : j < n) : ∃ g k q1 m1 c1 q2 m2 c2, q = some ⟨g, 0, none⟩ ∧ w.cell? ⟨g, j * 2, none⟩ = some (.slice q1 m1 c1) ∧ w.cell? ⟨g, j * 2 + 1, none⟩ = some (.slice q2 m2 c2) ∧
    Hid (K[j]? = some k) ∧ Sl B8 w q1 m1 c1 k.1 ∧ Sl B8 w q2 m2 c2 k.2 := by
  obtain ⟨vs, a, b, o, r⟩ := h
  obtain ⟨u, hu⟩ : ∃ u, vs[j]? = some u := ⟨_, List.getElem?_eq_getElem (by omega)⟩
  obtain ⟨k, hk, g1, g2⟩ := r j u hu
  obtain ⟨q1, m1, c1, e1, s1⟩ := g1.sl
  obtain ⟨q2, m2, c2, e2, s2⟩ := g2.sl
  rcases o.2 with ⟨hv, _⟩ | ⟨g, cap, cur, hv, _⟩
  · simp at hv; omega
  · obtain ⟨rfl, rfl⟩ : q = some ⟨g, 0, none⟩ ∧ c = cap := by simpa using hv
    obtain ⟨f1, f2⟩ := fl2_at hu
    refine ⟨g, k, q1, m1, c1, q2, m2, c2, rfl, ?_, ?_, hk, s1, s2⟩
    · rw [o.cellAt _ (by omega), f1, e1]
    · rw [o.cellAt _ (by omega), f2, e2]
theorem RwL.lt (h : RwL T2 T1 w base v n K) : ∀ k, v.ownBlock = some k → base ≤ k ∧ k < w.heap.size := by
  obtain ⟨vs, a, b, o, r⟩ := h; exact fun k hk => o.lt k hk
theorem Bw.set {xs : List UInt8} {g o : Nat} {u : Value} (h : Bw T1 w base v xs) (hne : ∀ k, v.ownBlock = some k → k ≠ g) (hg : w.grownBy w' (some g)) : Bw T1 w' base v xs := by
  obtain ⟨q, m, c, rfl, l, ho⟩ := h; exact ⟨q, m, c, rfl, l, owns_kept ho hg (fun k hk e => hne k hk (by injection e))⟩
/-- what is written into a block of another type leaves them -/
theorem RwL.set {g TX : Nat} {cs : Array Value} {fr : Nat × Nat} (h : RwL T2 T1 w base v n K) (hX : w.heap[g]? = some (.cells cs TX fr)) (h1 : T1 ≠ TX) (h2 : v.ownBlock ≠ some g) (hg : w.grownBy w' (some g)) : RwL T2 T1 w' base v n K := by
  obtain ⟨vs, a, b, o, r⟩ := h
  have hB : ∀ (u : Value) (xs : List UInt8), Bw T1 w base u xs → Bw T1 w' base u xs := fun u xs hu => by
    refine hu.set (g := g) (o := 0) (u := u) (fun k hk e => ?_) hg
    obtain ⟨q, m, c, rfl, l, ho⟩ := hu
    rcases ho.2 with ⟨hv, _⟩ | ⟨g', cap, cur, hv, _, hh, _⟩
    · rw [hv] at hk; simp [Value.ownBlock] at hk
    · rw [hv] at hk; simp [Value.ownBlock] at hk
      rw [e] at hk; rw [hk, hX] at hh
      injection hh with hh; injection hh with _ hh _; exact h1 hh.symm
  exact ⟨vs, a, b, owns_kept o hg (fun k hk e => h2 (by rw [hk, e])), fun j u hj => by obtain ⟨k, hk, g1, g2⟩ := r j u hj; exact ⟨k, hk, hB _ _ g1, hB _ _ g2⟩⟩
/-- one more -/
theorem RwL.push {w1 : World} {v' : Value} {u1 u2 : Value} {k : List UInt8 × List UInt8} {vs : List (Value × Value)} (a : vs.length = n) (b : K.length = n) (o : w.ownsRow base T2 2 v n (fl2 vs))
    (r : ∀ (j : Nat) (u : Value × Value), vs[j]? = some u → ∃ k, K[j]? = some k ∧ Bw T1 w base u.1 k.1 ∧ Bw T1 w base u.2 k.2) (hT : T1 ≠ T2) (h1 : Bw T1 w base u1 k.1) (h2 : Bw T1 w base u2 k.2)
    (ho : w1.ownsRow base T2 2 v' (n + 1) (fl2 vs ++ [u1, u2])) (hg : w.grownBy w1 v.ownBlock) : RwL T2 T1 w1 base v' (n + 1) (K ++ [k]) := by
  refine ⟨vs ++ [(u1, u2)], by simp [a], by simp [b], by rw [fl2_append]; exact ho, ?_⟩
  intro j u hj
  by_cases hjn : j < vs.length
  · rw [List.getElem?_append_left hjn] at hj
    obtain ⟨k', hk, g1, g2⟩ := r j u hj
    exact ⟨k', by rw [List.getElem?_append_left (by omega)]; exact hk, g1.grown hT o hg, g2.grown hT o hg⟩
  · have hj2 := (List.getElem?_eq_some_iff.1 hj).1
    rw [List.length_append, List.length_singleton] at hj2
    obtain rfl : j = vs.length := by omega
    rw [List.getElem?_append_right (Nat.le_refl _), Nat.sub_self] at hj
    have hu : (u1, u2) = u := by simpa using hj
    subst hu
    exact ⟨k, by rw [a, ← b, List.getElem?_append_right (Nat.le_refl _), Nat.sub_self]; rfl, h1.grown hT o hg, h2.grown hT o hg⟩
end
end Go.By
namespace Go.By
open Go.RowKit
theorem wpAny_done {P : Program} {ops : Array Oper} {Q : Exit → Act → World → Prop} {listed : Array Bool} {a : Act} {w : World} (fuel : Nat) (hall : ∀ j, j < ops.size → listed.getD j true = true) (h : Q .normal a w) : wpAny P .any ops Q fuel listed a w := by
  have hr : Region.ready .any ops listed = [] := by
    rw [List.eq_nil_iff_forall_not_mem]
    intro i hi
    obtain ⟨h1, h2, _⟩ := mem_ready.1 hi
    rw [hall i h1] at h2; cases h2
  cases fuel with
  | zero => exact ⟨hr, h⟩
  | succ n => exact ⟨fun _ => h, fun i hi => by rw [hr] at hi; simp at hi⟩
/-- the last operation waits for all others -/
def lastB (ops : Array Oper) (m : Nat) : Bool := decide (ops.size = m + 1) && (match ops[m]? with
  | some o => o.guard.isNone
  | none => false) && (List.range m).all fun i => (List.range (m + 1)).any fun j => decide (i < j) && match ops[j]? with
  | some o => (preds o).contains i
  | none => false
theorem wp_region_last {P : Program} {ops : Array Oper} {Q : Exit → Act → World → Prop} {id : Nat} {a0 : Act} {w0 : World} (sh : Nat → Shp) (n m : Nat) (hn : a0.tmps.size = n) (hm : P.follows .mixedOrders = true) (hback : backB ops = true) (hdist : distB ops = true)
    (hlast : lastB ops m = true) (hdsts : dstsB (ops.extract 0 m) n = true)
    (each : EachS P ops Q a0 w0.drew sh (ops.toList.take m) 0)
    (fin : ∀ a w o, ops[m]? = some o → Below w0.heap.size w0 w → a.tmps.size = a0.tmps.size → a.defers = a0.defers → (∀ j, j < m → InvS ops sh j (sl a) w) → (∀ t, (ops.toList.all fun o => o.dst != some t) = true → sl a t = sl a0 t) → o.wp P a w (fun a' w' => Q .normal a' w') Q) :
    (Code.region id ops true).wp P Q a0 w0 := by
  unfold lastB at hlast
  rw [Bool.and_eq_true, Bool.and_eq_true] at hlast
  have hsz : ops.size = m + 1 := of_decide_eq_true hlast.1.1
  have hm' : m < ops.size := by omega
  obtain ⟨ol, hol⟩ : ∃ ol, ops[m]? = some ol := ⟨_, Array.getElem?_eq_getElem hm'⟩
  have hl2 := hlast.1.2
  rw [hol] at hl2
  have hguard : ol.guard = none := by cases hg : ol.guard <;> simp [hg] at hl2 ⊢
  have hpl : ∀ i, i < m → ∃ j o, i < j ∧ j ≤ m ∧ ops[j]? = some o ∧ i ∈ preds o := fun i hi => by
    obtain ⟨j, hj, h⟩ := List.any_eq_true.1 (List.all_eq_true.1 hlast.2 i (List.mem_range.2 hi))
    have hjm := List.mem_range.1 hj
    rw [Bool.and_eq_true] at h
    obtain ⟨oj, hoj⟩ : ∃ oj, ops[j]? = some oj := ⟨_, Array.getElem?_eq_getElem (by omega)⟩
    have h2 := h.2
    rw [hoj] at h2
    exact ⟨j, oj, of_decide_eq_true h.1, by omega, hoj, by simpa using h2⟩
  have hE := each_of (Q := Q) (P := P) (a0 := a0) (W0 := w0.drew) (sh := sh) hn (ops.toList.take m) 0 (fun j o hj => by
      rw [List.getElem?_take] at hj; split at hj
      · simpa using hj
      · cases hj) (by
      unfold dstsB at hdsts
      have e : (ops.extract 0 m).toList = ops.toList.take m := by simp
      rw [e] at hdsts; exact hdsts) each
  have stepAt : ∀ i o, i < m → ops[i]? = some o → StepOf P ops Q a0 w0.drew (fun W w => Below W.heap.size W w) (fun _ w w' => Below w.heap.size w w') (InvS ops sh) i o := fun i o hi ho => by
    have := Each.get _ 0 hE i o (by rw [List.getElem?_take, if_pos hi]; simpa using ho)
    rwa [Nat.zero_add] at this
  have stable : ∀ i j oi oj (σ σ' : Nat → Value) w w', i ≠ j → ops[i]? = some oi → ops[j]? = some oj → InvS ops sh j σ w → Below w.heap.size w w' → (∀ t, oi.dst ≠ some t → σ' t = σ t) → InvS ops sh j σ' w' := by
    intro i j oi oj σ σ' w w' hij hoi hoj hI hR hσ
    unfold InvS at hI ⊢
    cases hdj : dstOf ops j with
    | none => trivial
    | some d =>
      rw [hdj] at hI
      show (sh j).ok (σ' d) w'
      have hne : oi.dst ≠ some d := by
        intro e
        have hi' : i < ops.size := (Array.getElem?_eq_some_iff.1 hoi).1
        have hj' : j < ops.size := (Array.getElem?_eq_some_iff.1 hoj).1
        have := List.all_eq_true.1 (List.all_eq_true.1 hdist i (List.mem_range.2 hi')) j (List.mem_range.2 hj')
        rw [hoi, hoj] at this
        have hdj' : oj.dst = some d := by simpa [dstOf, hoj] using hdj
        simp [e, hdj', hij] at this
      rw [hσ d hne]
      exact (sh j).keep _ _ _ hI hR
  refine wp_region_any hm ?_
  show wpAny P .any ops Q ops.size (Array.replicate ops.size false) a0 w0.drew
  have main : ∀ (fuel : Nat) (listed : Array Bool) (a : Act) (w : World), unl ops.size listed ≤ fuel → listed.getD m true = false → Below w0.heap.size w0 w → a.tmps.size = a0.tmps.size → a.defers = a0.defers →
      (∀ j o, listed.getD j false = true → ops[j]? = some o → ∀ k, k ∈ preds o → listed.getD k false = true) →
      (∀ j, j < ops.size → listed.getD j true = true → listed.getD j false = true) →
      (∀ j, j < m → listed.getD j false = true → InvS ops sh j (sl a) w) →
      (∀ t, (∀ j o, j < m → listed.getD j false = true → ops[j]? = some o → o.dst ≠ some t) → sl a t = sl a0 t) → wpAny P .any ops Q fuel listed a w := by
    intro fuel
    induction fuel with
    | zero =>
      intro listed a w hu hlm
      exfalso
      have h0 : unl ops.size listed = 0 := by omega
      unfold unl at h0
      have := List.countP_eq_zero.1 h0 m (List.mem_range.2 hm')
      simp [hlm] at this
    | succ fuel ih =>
      intro listed a w hu hlm hEw hs hd hcl hlt hI ht
      refine ⟨fun hr => ?_, fun i hi => ?_⟩
      · exfalso
        have hall : ∀ k j, j < k → j < ops.size → listed.getD j false = true := by
          intro k
          induction k with
          | zero => intro j hj; omega
          | succ k ihk =>
            intro j hj hjs
            refine hlt j hjs ?_
            cases hb : listed.getD j true with
            | true => rfl
            | false =>
              exfalso
              have ho : ops[j]? = some ops[j] := Array.getElem?_eq_getElem hjs
              have : j ∈ Region.ready .any ops listed := mem_ready.2 ⟨hjs, hb, _, ho, fun q hq => by
                have hbk := List.all_eq_true.1 hback j (List.mem_range.2 hjs)
                rw [ho] at hbk
                have hkj := of_decide_eq_true (List.all_eq_true.1 hbk q hq)
                exact ihk q (by omega) (by omega)⟩
              rw [hr] at this; cases this
        have hx := hall (m + 1) m (by omega) hm'
        rcases Nat.lt_or_ge m listed.size with h | h
        · simp [Array.getD_eq_getD_getElem?, h] at hlm hx; rw [hlm] at hx; cases hx
        · simp [Array.getD_eq_getD_getElem?, Array.getElem?_eq_none h] at hx
      · obtain ⟨h1, h2, o, ho, h3⟩ := mem_ready.1 hi
        have hnl : listed.getD i false ≠ true := by
          intro hx
          rcases Nat.lt_or_ge i listed.size with h | h
          · simp [Array.getD_eq_getD_getElem?, h] at h2 hx; rw [h2] at hx; cases hx
          · simp [Array.getD_eq_getD_getElem?, Array.getElem?_eq_none h] at hx
        have his : i < listed.size := by
          rcases Nat.lt_or_ge i listed.size with h | h
          · exact h
          · simp [Array.getD_eq_getD_getElem?, Array.getElem?_eq_none h] at h2
        have gset : ∀ j (d : Bool), (listed.setIfInBounds i true).getD j d = if i = j then true else listed.getD j d := by
          intro j d
          simp only [Array.getD_eq_getD_getElem?, Array.getElem?_setIfInBounds]
          by_cases e : i = j
          · subst e; simp [his]
          · simp [e]
        by_cases him : i = m
        · subst him
          rw [hol] at ho; cases ho
          have hdown : ∀ d j, i - j ≤ d → j < i → listed.getD j false = true := by
            intro d
            induction d with
            | zero => intro j h4 h5; omega
            | succ d ihd =>
              intro j h4 h5
              obtain ⟨j2, o2, g1, g2, g3, g4⟩ := hpl j h5
              by_cases e : j2 = i
              · subst e; rw [hol] at g3; cases g3; exact h3 j g4
              · exact hcl j2 o2 (ihd j2 (by omega) (by omega)) g3 j g4
          have hdn : ∀ j, j < i → listed.getD j false = true := fun j hj => hdown i j (by omega) hj
          have hf := fin a w ol hol hEw hs hd (fun j hj => hI j hj (hdn j hj)) (fun t htt => ht t (fun j oj hj _ hoj => by
            have := List.all_eq_true.1 htt oj (by rw [Array.mem_toList_iff]; exact Array.mem_of_getElem? hoj)
            simpa using this))
          unfold wpOp
          rw [hol]
          show if Region.wanted ol (yielded ops a.tmps) = true then _ else _
          rw [if_pos (by simp [Region.wanted, hguard])]
          refine .inl (Oper.wp_mono (fun a' w' hq => wpAny_done _ (fun j hj => ?_) hq) hf)
          rw [gset]
          by_cases e : i = j
          · rw [if_pos e]
          · rw [if_neg e]
            have hjl := hdn j (by omega)
            rcases Nat.lt_or_ge j listed.size with h | h
            · simp [Array.getD_eq_getD_getElem?, h] at hjl ⊢; exact hjl
            · simp [Array.getD_eq_getD_getElem?, Array.getElem?_eq_none h]
        · have him' : i < m := by omega
          have hst := stepAt i o him' ho
          have hst' := hst a w ⟨hEw.os, hEw.tape, hEw.output, hEw.size, hEw.block⟩ hs (fun k hk => hI k (by
              have hbk := List.all_eq_true.1 hback i (List.mem_range.2 h1)
              rw [ho] at hbk
              have := of_decide_eq_true (List.all_eq_true.1 hbk k hk); omega) (h3 k hk)) (fun t hti => by
            refine ht t (fun j oj hj hlj hoj hdj => ?_)
            have := List.all_eq_true.1 hti j (List.mem_range.2 (by omega))
            rw [hoj] at this
            by_cases e : j = i
            · subst e; exact hnl hlj
            · simp [e, hdj] at this
              exact hnl (hcl j oj hlj hoj i this))
          have next : ∀ (v : Value) (w' : World), Below w.heap.size w w' → InvS ops sh i (sl (a.put o.dst v)) w' → wpAny P .any ops Q fuel (listed.setIfInBounds i true) (a.put o.dst v) w' := by
            intro v w' hR hIi
            refine ih _ _ _ (by have := unl_set (n := ops.size) h1 h2; omega) (by rw [gset, if_neg him]; exact hlm) (hEw.trans (hR.mono hEw.size)) ((put_size _ _ _).trans hs) ((put_defers _ _ _).trans hd) ?_ ?_ ?_ ?_
            · intro j oj hj hoj k hk
              rw [gset] at hj ⊢
              by_cases e : i = k
              · rw [if_pos e]
              · rw [if_neg e]
                by_cases e' : i = j
                · subst e'; rw [ho] at hoj; cases hoj; exact h3 k hk
                · rw [if_neg e'] at hj; exact hcl j oj hj hoj k hk
            · intro j hj hl
              rw [gset] at hl ⊢
              by_cases e : i = j
              · rw [if_pos e]
              · rw [if_neg e] at hl ⊢; exact hlt j hj hl
            · intro j hj hl
              rw [gset] at hl
              by_cases e : i = j
              · subst e; exact hIi
              · rw [if_neg e] at hl
                have hoj : ops[j]? = some ops[j] := Array.getElem?_eq_getElem (by omega)
                exact stable i j o _ (sl a) _ w w' e ho hoj (hI j hj hl) hR (fun t h => put_sl _ _ _ _ h)
            · intro t htt
              have hdt : o.dst ≠ some t := htt i o him' (by rw [gset, if_pos rfl]) ho
              rw [put_sl _ _ _ _ hdt]
              exact ht t (fun j oj hj hl hoj => htt j oj hj (by rw [gset]; split <;> simp [hl]) hoj)
          unfold wpOp
          rw [ho]
          show if Region.wanted o (yielded ops a.tmps) = true then _ else _
          split
          · rename_i hw
            rw [if_pos hw] at hst'
            exact .inl (Oper.wp_mono (fun a' w' ⟨v, e, hR, hIi⟩ => by rw [e] at hIi ⊢; exact next v w' hR hIi) hst')
          · rename_i hw
            rw [if_neg hw] at hst'
            exact next undef w hst'.1 hst'.2
  refine main ops.size _ a0 w0.drew ?_ ?_ ⟨rfl, rfl, rfl, Nat.le_refl _, fun _ _ => rfl⟩ rfl rfl ?_ ?_ ?_ ?_
  · unfold unl; exact Nat.le_trans List.countP_le_length (by simp)
  · simp [Array.getD_eq_getD_getElem?, Array.getElem?_replicate, hm']
  · intro j o hj; simp [Array.getD_eq_getD_getElem?, Array.getElem?_replicate] at hj
    split at hj <;> simp at hj
  · intro j hj hl; simp [Array.getD_eq_getD_getElem?, Array.getElem?_replicate, hj] at hl
  · intro j hj hl; simp [Array.getD_eq_getD_getElem?, Array.getElem?_replicate, show j < ops.size by omega] at hl
  · intro t _; rfl
theorem wp_skip_none {P : Program} {o : Oper} {a : Act} {w w' : World} {K : Act → World → Prop} {Q : Exit → Act → World → Prop} (hd : o.dst = none) (hrun : (execOp a.eval o).run P w = .ok .skip w') (h : K a w') : o.wp P a w K Q :=
  wp_skipX hrun (by rw [hd]; exact h)
def RowT (r : List UInt8 × List UInt8) (code : Int) (v : Value) (w : World) : Prop := ∃ u, v = .tuple #[u, .int .i64 code] ∧ RowIs r u w
def Shp.rowT (r : List UInt8 × List UInt8) (code : Int) : Shp := ⟨RowT r code, fun _ _ _ ⟨u, e, h⟩ hb => ⟨u, e, (Shp.row r).keep _ _ _ h hb⟩⟩
end Go.By
namespace Go.By
open Go.RowKit
/-- the last operation (a store) waits for all others but one (an extract) -/
def lateB (ops : Array Oper) (m e : Nat) : Bool := decide (ops.size = m + 1) && decide (e < m) && match ops[m]? with
  | some o => o.guard.isNone && o.dst.isNone && (List.range m).all fun i => i == e || (preds o).contains i
  | none => false
theorem wpAny_one {P : Program} {ops : Array Oper} {Q : Exit → Act → World → Prop} {listed : Array Bool} {a : Act} {w : World} {e : Nat} {oe : Oper} (fuel : Nat) (he : ops[e]? = some oe) (hall : ∀ j, j < ops.size → j ≠ e → listed.getD j true = true) (hle : listed.getD e true = false) (hpe : ∀ k, k ∈ preds oe → listed.getD k false = true)
    (hu : unl ops.size listed ≤ fuel) (hg : oe.guard = none) (h : oe.wp P a w (fun a' w' => Q .normal a' w') Q) : wpAny P .any ops Q fuel listed a w := by
  have hes : e < ops.size := (Array.getElem?_eq_some_iff.1 he).1
  have hin : e ∈ Region.ready .any ops listed := mem_ready.2 ⟨hes, hle, oe, he, hpe⟩
  cases fuel with
  | zero =>
    exfalso
    have h0 : unl ops.size listed = 0 := by omega
    unfold unl at h0
    have := List.countP_eq_zero.1 h0 e (List.mem_range.2 hes)
    simp [hle] at this
  | succ n =>
    refine ⟨fun hr => by rw [hr] at hin; simp at hin, fun i hi => ?_⟩
    have hie : i = e := by
      apply Classical.byContradiction
      intro hne
      obtain ⟨h1, h2, _⟩ := mem_ready.1 hi
      rw [hall i h1 hne] at h2; cases h2
    subst hie
    unfold wpOp
    rw [he]
    show if Region.wanted oe (yielded ops a.tmps) = true then _ else _
    rw [if_pos (by simp [Region.wanted, hg])]
    have his : i < listed.size := by
      rcases Nat.lt_or_ge i listed.size with h | h
      · exact h
      · simp [Array.getD_eq_getD_getElem?, Array.getElem?_eq_none h] at hle
    refine .inl (Oper.wp_mono (fun a' w' hq => wpAny_done _ (fun j hj => ?_) hq) h)
    simp only [Array.getD_eq_getD_getElem?, Array.getElem?_setIfInBounds]
    by_cases e2 : i = j
    · subst e2; simp [his]
    · rw [if_neg e2]
      have := hall j hj (fun h => e2 h.symm)
      simpa [Array.getD_eq_getD_getElem?] using this
theorem wp_region_late {P : Program} {ops : Array Oper} {Q : Exit → Act → World → Prop} {id : Nat} {a0 : Act} {w0 : World} (sh : Nat → Shp) (n m e t d : Nat) (hn : a0.tmps.size = n) (hm : P.follows .mixedOrders = true) (hback : backB ops = true) (hdist : distB ops = true)
    (hlast : lateB ops m e = true) (oe : Oper) (hoe : ops[e]? = some oe) (hge : oe.guard = none) (hde : oe.dst = some d) (hdn : d < n)
    (hrun : ∀ (a : Act) (u x : Value) (w : World), sl a t = .tuple #[u, x] → ∃ v, (execOp a.eval oe).run P w = .ok (.value v) w) (hdsts : dstsB (ops.extract 0 m) n = true)
    (each : EachS P ops Q a0 w0.drew sh (ops.toList.take m) 0)
    (fin : ∀ a w o, ops[m]? = some o → Below w0.heap.size w0 w → a.tmps.size = a0.tmps.size → a.defers = a0.defers → (∀ j, j < m → j ≠ e → InvS ops sh j (sl a) w) → (∀ t, (ops.toList.all fun o => o.dst != some t) = true → sl a t = sl a0 t) →
      (∃ u x, sl a t = .tuple #[u, x]) ∧ o.wp P a w (fun a' w' => a' = a ∧ ∀ b : Act, b.tmps.size = a0.tmps.size → b.defers = a0.defers → (∀ t', t' ≠ d → sl b t' = sl a t') → Q .normal b w') Q) :
    (Code.region id ops true).wp P Q a0 w0 := by
  unfold lateB at hlast
  rw [Bool.and_eq_true, Bool.and_eq_true] at hlast
  have hsz : ops.size = m + 1 := of_decide_eq_true hlast.1.1
  have hem : e < m := of_decide_eq_true hlast.1.2
  have hm' : m < ops.size := by omega
  obtain ⟨ol, hol⟩ : ∃ ol, ops[m]? = some ol := ⟨_, Array.getElem?_eq_getElem hm'⟩
  have hl2 := hlast.2
  rw [hol] at hl2
  simp only [Bool.and_eq_true] at hl2
  have hguard : ol.guard = none := by cases hg : ol.guard <;> simp [hg] at hl2 ⊢
  have hdst : ol.dst = none := by cases hg : ol.dst <;> simp [hg] at hl2 ⊢
  have hpl : ∀ i, i < m → i ≠ e → i ∈ preds ol := fun i hi hne => by
    have := List.all_eq_true.1 hl2.2 i (List.mem_range.2 hi)
    simpa [hne] using this
  have hE := each_of (Q := Q) (P := P) (a0 := a0) (W0 := w0.drew) (sh := sh) hn (ops.toList.take m) 0 (fun j o hj => by
      rw [List.getElem?_take] at hj; split at hj
      · simpa using hj
      · cases hj) (by
      unfold dstsB at hdsts
      have e : (ops.extract 0 m).toList = ops.toList.take m := by simp
      rw [e] at hdsts; exact hdsts) each
  have stepAt : ∀ i o, i < m → ops[i]? = some o → StepOf P ops Q a0 w0.drew (fun W w => Below W.heap.size W w) (fun _ w w' => Below w.heap.size w w') (InvS ops sh) i o := fun i o hi ho => by
    have := Each.get _ 0 hE i o (by rw [List.getElem?_take, if_pos hi]; simpa using ho)
    rwa [Nat.zero_add] at this
  have stable : ∀ i j oi oj (σ σ' : Nat → Value) w w', i ≠ j → ops[i]? = some oi → ops[j]? = some oj → InvS ops sh j σ w → Below w.heap.size w w' → (∀ t, oi.dst ≠ some t → σ' t = σ t) → InvS ops sh j σ' w' := by
    intro i j oi oj σ σ' w w' hij hoi hoj hI hR hσ
    unfold InvS at hI ⊢
    cases hdj : dstOf ops j with
    | none => trivial
    | some d =>
      rw [hdj] at hI
      show (sh j).ok (σ' d) w'
      have hne : oi.dst ≠ some d := by
        intro e
        have hi' : i < ops.size := (Array.getElem?_eq_some_iff.1 hoi).1
        have hj' : j < ops.size := (Array.getElem?_eq_some_iff.1 hoj).1
        have := List.all_eq_true.1 (List.all_eq_true.1 hdist i (List.mem_range.2 hi')) j (List.mem_range.2 hj')
        rw [hoi, hoj] at this
        have hdj' : oj.dst = some d := by simpa [dstOf, hoj] using hdj
        simp [e, hdj', hij] at this
      rw [hσ d hne]
      exact (sh j).keep _ _ _ hI hR
  refine wp_region_any hm ?_
  show wpAny P .any ops Q ops.size (Array.replicate ops.size false) a0 w0.drew
  have main : ∀ (fuel : Nat) (listed : Array Bool) (a : Act) (w : World), unl ops.size listed ≤ fuel → listed.getD m true = false → Below w0.heap.size w0 w → a.tmps.size = a0.tmps.size → a.defers = a0.defers →
      (∀ j o, listed.getD j false = true → ops[j]? = some o → ∀ k, k ∈ preds o → listed.getD k false = true) →
      (∀ j, j < ops.size → listed.getD j true = true → listed.getD j false = true) →
      (∀ j, j < m → listed.getD j false = true → InvS ops sh j (sl a) w) →
      (∀ t, (∀ j o, j < m → listed.getD j false = true → ops[j]? = some o → o.dst ≠ some t) → sl a t = sl a0 t) → wpAny P .any ops Q fuel listed a w := by
    intro fuel
    induction fuel with
    | zero =>
      intro listed a w hu hlm
      exfalso
      have h0 : unl ops.size listed = 0 := by omega
      unfold unl at h0
      have := List.countP_eq_zero.1 h0 m (List.mem_range.2 hm')
      simp [hlm] at this
    | succ fuel ih =>
      intro listed a w hu hlm hEw hs hd hcl hlt hI ht
      refine ⟨fun hr => ?_, fun i hi => ?_⟩
      · exfalso
        have hall : ∀ k j, j < k → j < ops.size → listed.getD j false = true := by
          intro k
          induction k with
          | zero => intro j hj; omega
          | succ k ihk =>
            intro j hj hjs
            refine hlt j hjs ?_
            cases hb : listed.getD j true with
            | true => rfl
            | false =>
              exfalso
              have ho : ops[j]? = some ops[j] := Array.getElem?_eq_getElem hjs
              have : j ∈ Region.ready .any ops listed := mem_ready.2 ⟨hjs, hb, _, ho, fun q hq => by
                have hbk := List.all_eq_true.1 hback j (List.mem_range.2 hjs)
                rw [ho] at hbk
                have hkj := of_decide_eq_true (List.all_eq_true.1 hbk q hq)
                exact ihk q (by omega) (by omega)⟩
              rw [hr] at this; cases this
        have hx := hall (m + 1) m (by omega) hm'
        rcases Nat.lt_or_ge m listed.size with h | h
        · simp [Array.getD_eq_getD_getElem?, h] at hlm hx; rw [hlm] at hx; cases hx
        · simp [Array.getD_eq_getD_getElem?, Array.getElem?_eq_none h] at hx
      · obtain ⟨h1, h2, o, ho, h3⟩ := mem_ready.1 hi
        have hnl : listed.getD i false ≠ true := by
          intro hx
          rcases Nat.lt_or_ge i listed.size with h | h
          · simp [Array.getD_eq_getD_getElem?, h] at h2 hx; rw [h2] at hx; cases hx
          · simp [Array.getD_eq_getD_getElem?, Array.getElem?_eq_none h] at hx
        have his : i < listed.size := by
          rcases Nat.lt_or_ge i listed.size with h | h
          · exact h
          · simp [Array.getD_eq_getD_getElem?, Array.getElem?_eq_none h] at h2
        have gset : ∀ j (d : Bool), (listed.setIfInBounds i true).getD j d = if i = j then true else listed.getD j d := by
          intro j d
          simp only [Array.getD_eq_getD_getElem?, Array.getElem?_setIfInBounds]
          by_cases e : i = j
          · subst e; simp [his]
          · simp [e]
        by_cases him : i = m
        · subst him
          rw [hol] at ho; cases ho
          obtain ⟨⟨u, x, htu⟩, hf⟩ := fin a w ol hol hEw hs hd (fun j hj hje => hI j hj (h3 j (hpl j hj hje))) (fun t htt => ht t (fun j oj hj _ hoj => by
            have := List.all_eq_true.1 htt oj (by rw [Array.mem_toList_iff]; exact Array.mem_of_getElem? hoj)
            simpa using this))
          unfold wpOp
          rw [hol]
          show if Region.wanted ol (yielded ops a.tmps) = true then _ else _
          rw [if_pos (by simp [Region.wanted, hguard])]
          have toT : ∀ j, listed.getD j false = true → listed.getD j true = true := fun j hjl => by
            rcases Nat.lt_or_ge j listed.size with h | h
            · simp [Array.getD_eq_getD_getElem?, h] at hjl ⊢; exact hjl
            · simp [Array.getD_eq_getD_getElem?, Array.getElem?_eq_none h] at hjl
          refine .inl (Oper.wp_mono (fun a' w' hq => ?_) hf)
          obtain ⟨rfl, hq⟩ := hq
          cases hle : listed.getD e true with
          | true =>
            refine wpAny_done _ (fun j hj => ?_) (hq a' hs hd (fun _ _ => rfl))
            rw [gset]
            by_cases e2 : i = j
            · rw [if_pos e2]
            · rw [if_neg e2]
              by_cases e3 : j = e
              · subst e3; exact hle
              · exact toT j (h3 j (hpl j (by omega) e3))
          | false =>
            obtain ⟨v, hv⟩ := hrun a' u x w' htu
            refine wpAny_one _ hoe (fun j hj hje => ?_) (by rw [gset, if_neg (by omega)]; exact hle) (fun k hk => ?_) (by have := unl_set (n := ops.size) h1 h2; omega) hge ?_
            · rw [gset]
              by_cases e2 : i = j
              · rw [if_pos e2]
              · rw [if_neg e2]; exact toT j (h3 j (hpl j (by omega) hje))
            · have hbk := List.all_eq_true.1 hback e (List.mem_range.2 (by omega))
              rw [hoe] at hbk
              have hke := of_decide_eq_true (List.all_eq_true.1 hbk k hk)
              rw [gset, if_neg (by omega)]
              exact h3 k (hpl k (by omega) (by omega))
            · refine wp_val v hv ?_
              refine hq _ ((put_size _ _ _).trans hs) ((put_defers _ _ _).trans hd) (fun t' ht' => ?_)
              rw [hde, put_sl _ _ _ _ (fun h => ht' (by injection h with h; exact h.symm))]
        · have him' : i < m := by omega
          have hst := stepAt i o him' ho
          have hst' := hst a w ⟨hEw.os, hEw.tape, hEw.output, hEw.size, hEw.block⟩ hs (fun k hk => hI k (by
              have hbk := List.all_eq_true.1 hback i (List.mem_range.2 h1)
              rw [ho] at hbk
              have := of_decide_eq_true (List.all_eq_true.1 hbk k hk); omega) (h3 k hk)) (fun t hti => by
            refine ht t (fun j oj hj hlj hoj hdj => ?_)
            have := List.all_eq_true.1 hti j (List.mem_range.2 (by omega))
            rw [hoj] at this
            by_cases e : j = i
            · subst e; exact hnl hlj
            · simp [e, hdj] at this
              exact hnl (hcl j oj hlj hoj i this))
          have next : ∀ (v : Value) (w' : World), Below w.heap.size w w' → InvS ops sh i (sl (a.put o.dst v)) w' → wpAny P .any ops Q fuel (listed.setIfInBounds i true) (a.put o.dst v) w' := by
            intro v w' hR hIi
            refine ih _ _ _ (by have := unl_set (n := ops.size) h1 h2; omega) (by rw [gset, if_neg him]; exact hlm) (hEw.trans (hR.mono hEw.size)) ((put_size _ _ _).trans hs) ((put_defers _ _ _).trans hd) ?_ ?_ ?_ ?_
            · intro j oj hj hoj k hk
              rw [gset] at hj ⊢
              by_cases e : i = k
              · rw [if_pos e]
              · rw [if_neg e]
                by_cases e' : i = j
                · subst e'; rw [ho] at hoj; cases hoj; exact h3 k hk
                · rw [if_neg e'] at hj; exact hcl j oj hj hoj k hk
            · intro j hj hl
              rw [gset] at hl ⊢
              by_cases e : i = j
              · rw [if_pos e]
              · rw [if_neg e] at hl ⊢; exact hlt j hj hl
            · intro j hj hl
              rw [gset] at hl
              by_cases e : i = j
              · subst e; exact hIi
              · rw [if_neg e] at hl
                have hoj : ops[j]? = some ops[j] := Array.getElem?_eq_getElem (by omega)
                exact stable i j o _ (sl a) _ w w' e ho hoj (hI j hj hl) hR (fun t h => put_sl _ _ _ _ h)
            · intro t htt
              have hdt : o.dst ≠ some t := htt i o him' (by rw [gset, if_pos rfl]) ho
              rw [put_sl _ _ _ _ hdt]
              exact ht t (fun j oj hj hl hoj => htt j oj hj (by rw [gset]; split <;> simp [hl]) hoj)
          unfold wpOp
          rw [ho]
          show if Region.wanted o (yielded ops a.tmps) = true then _ else _
          split
          · rename_i hw
            rw [if_pos hw] at hst'
            exact .inl (Oper.wp_mono (fun a' w' ⟨v, e, hR, hIi⟩ => by rw [e] at hIi ⊢; exact next v w' hR hIi) hst')
          · rename_i hw
            rw [if_neg hw] at hst'
            exact next undef w hst'.1 hst'.2
  refine main ops.size _ a0 w0.drew ?_ ?_ ⟨rfl, rfl, rfl, Nat.le_refl _, fun _ _ => rfl⟩ rfl rfl ?_ ?_ ?_ ?_
  · unfold unl; exact Nat.le_trans List.countP_le_length (by simp)
  · simp [Array.getD_eq_getD_getElem?, Array.getElem?_replicate, hm']
  · intro j o hj; simp [Array.getD_eq_getD_getElem?, Array.getElem?_replicate] at hj
    split at hj <;> simp at hj
  · intro j hj hl; simp [Array.getD_eq_getD_getElem?, Array.getElem?_replicate, hj] at hl
  · intro j hj hl; simp [Array.getD_eq_getD_getElem?, Array.getElem?_replicate, show j < ops.size by omega] at hl
  · intro t _; rfl
/-- a row in memory from block B on -/
def RowN (B : Nat) (r : List UInt8 × List UInt8) (v : Value) (w : World) : Prop := ∃ p1 n1 c1 p2 n2 c2, v = .agg #[.slice p1 n1 c1, .slice p2 n2 c2] ∧ Sl B8 w p1 n1 c1 r.1 ∧ Sl B8 w p2 n2 c2 r.2 ∧ (∀ a, p1 = some a → B ≤ a.block) ∧ ∀ a, p2 = some a → B ≤ a.block
def Shp.rowN (B : Nat) (r : List UInt8 × List UInt8) : Shp := ⟨RowN B r, fun _ _ _ ⟨p1, n1, c1, p2, n2, c2, e, h1, h2, h3, h4⟩ hb => ⟨p1, n1, c1, p2, n2, c2, e, h1.keep hb, h2.keep hb, h3, h4⟩⟩
def RowTN (B : Nat) (r : List UInt8 × List UInt8) (code : Int) (v : Value) (w : World) : Prop := ∃ u, v = .tuple #[u, .int .i64 code] ∧ RowN B r u w
def Shp.rowTN (B : Nat) (r : List UInt8 × List UInt8) (code : Int) : Shp := ⟨RowTN B r code, fun _ _ _ ⟨u, e, h⟩ hb => ⟨u, e, (Shp.rowN B r).keep _ _ _ h hb⟩⟩
theorem grownBy_setCell' (w : World) (g o : Nat) (v : Value) : w.grownBy (w.setCell ⟨g, o, none⟩ v) (some g) :=
  ⟨rfl, rfl, rfl, by simp, fun b hb hne => Below.heap_setCell _ _ _ _ (fun e => hne (by rw [e]))⟩
theorem Sl.set {α : Type} {enc : α → Value} {w : World} {p : Option Addr} {n c g o : Nat} {v : Value} {xs : List α} (h : Sl enc w p n c xs) (hne : ∀ a, p = some a → a.block ≠ g) : Sl enc (w.setCell ⟨g, o, none⟩ v) p n c xs :=
  h.grown (grownBy_setCell' w g o v) (fun a ha e => hne a ha (by injection e))
theorem run_extract0 {P : Program} {a : Act} {u x : Value} {w : World} {t : Nat} (oe : Oper) (hop : oe.op = .extract (.tmp t) 0) (h : sl a t = .tuple #[u, x]) : ∃ v, (execOp a.eval oe).run P w = .ok (.value v) w :=
  ⟨u, by unfold execOp; rw [hop]; simp only [eval_tmp, h]; rfl⟩
theorem run_extract1 {P : Program} {a : Act} {u x : Value} {w : World} {t : Nat} (oe : Oper) (hop : oe.op = .extract (.tmp t) 1) (h : sl a t = .tuple #[u, x]) : ∃ v, (execOp a.eval oe).run P w = .ok (.value v) w :=
  ⟨x, by unfold execOp; rw [hop]; simp only [eval_tmp, h]; rfl⟩
end Go.By
