/- Linear algebra over the field of 256 elements: combinations, spans, independence, exchange, elimination. Nothing of the program. -/
import Derived.Test.YtofhdakggapahaaGf
namespace Gf
abbrev V := Nat → UInt8
/-- the combination of vectors -/
def comb : List UInt8 → List V → V
  | c :: cs, a :: as => fun j => gmul c (a j) ^^^ comb cs as j
  | _, _ => fun _ => 0
theorem comb_nil (c : List UInt8) (j : Nat) : comb c [] j = 0 := by cases c <;> rfl
theorem comb_nil' (A : List V) (j : Nat) : comb [] A j = 0 := by cases A <;> rfl
theorem comb_cons (c : UInt8) (cs : List UInt8) (a : V) (as : List V) (j : Nat) : comb (c :: cs) (a :: as) j = gmul c (a j) ^^^ comb cs as j := rfl
theorem comb_append (c2 : List UInt8) (A2 : List V) (j : Nat) : ∀ (c1 : List UInt8) (A1 : List V), c1.length = A1.length → comb (c1 ++ c2) (A1 ++ A2) j = comb c1 A1 j ^^^ comb c2 A2 j
  | [], [], _ => by simp [comb_nil', zero_xor]
  | c :: cs, a :: as, h => by
    simp only [List.cons_append, comb_cons]
    rw [comb_append c2 A2 j cs as (by simpa using h), xor_assoc]
theorem comb_add (j : Nat) : ∀ (c d : List UInt8) (A : List V), c.length = d.length → comb (List.zipWith (· ^^^ ·) c d) A j = comb c A j ^^^ comb d A j
  | [], [], A, _ => by simp [comb_nil', xor_self]
  | c :: cs, d :: ds, [], _ => by simp [comb_nil, xor_self]
  | c :: cs, d :: ds, a :: as, h => by
    simp only [List.zipWith_cons_cons, comb_cons]
    rw [comb_add j cs ds as (by simpa using h), gmul_xor_left, xor4]
theorem comb_scale (x : UInt8) (j : Nat) : ∀ (c : List UInt8) (A : List V), comb (c.map (gmul x)) A j = gmul x (comb c A j)
  | [], A => by simp [comb_nil', gmul_zero]
  | c :: cs, [] => by simp [comb_nil, gmul_zero]
  | c :: cs, a :: as => by
    simp only [List.map_cons, comb_cons]
    rw [comb_scale x j cs as, gmul_assoc, gmul_xor_right]
theorem comb_zeros (j : Nat) : ∀ (n : Nat) (A : List V), comb (List.replicate n 0) A j = 0
  | 0, A => by simp [comb_nil']
  | n + 1, [] => by simp [comb_nil]
  | n + 1, a :: as => by simp only [List.replicate_succ, comb_cons]; rw [comb_zeros j n as, zero_gmul, xor_self]
/-- a combination of vectors that are nought at a place is nought there -/
theorem comb_at_zero (j : Nat) : ∀ (c : List UInt8) (A : List V), (∀ a, a ∈ A → a j = 0) → comb c A j = 0
  | [], A, _ => comb_nil' _ _
  | c :: cs, [], _ => comb_nil _ _
  | c :: cs, a :: as, h => by rw [comb_cons, h a (by simp), gmul_zero, zero_xor, comb_at_zero j cs as (fun b hb => h b (by simp [hb]))]
/-- in the span -/
def Sp (B : List V) (v : V) : Prop := ∃ c : List UInt8, c.length = B.length ∧ v = comb c B
theorem Sp.zero (B : List V) : Sp B (fun _ => 0) := ⟨List.replicate B.length 0, by simp, by funext j; rw [comb_zeros]⟩
theorem Sp.add {B : List V} {u v : V} (h : Sp B u) (g : Sp B v) : Sp B (fun j => u j ^^^ v j) := by
  obtain ⟨c, hc, rfl⟩ := h; obtain ⟨d, hd, rfl⟩ := g
  exact ⟨List.zipWith (· ^^^ ·) c d, by simp [hc, hd], by funext j; rw [comb_add j c d B (by rw [hc, hd])]⟩
theorem Sp.scale {B : List V} {u : V} (x : UInt8) (h : Sp B u) : Sp B (fun j => gmul x (u j)) := by
  obtain ⟨c, hc, rfl⟩ := h
  exact ⟨c.map (gmul x), by simp [hc], by funext j; rw [comb_scale]⟩
theorem Sp.cons {B : List V} {u : V} (b : V) (h : Sp B u) : Sp (b :: B) u := by
  obtain ⟨c, hc, rfl⟩ := h
  exact ⟨0 :: c, by simp [hc], by funext j; rw [comb_cons, zero_gmul, zero_xor]⟩
theorem Sp.mem {a : V} : ∀ {B : List V}, a ∈ B → Sp B a
  | b :: B, h => by
    rcases List.mem_cons.1 h with rfl | h
    · exact ⟨1 :: List.replicate B.length 0, by simp, by funext j; rw [comb_cons, one_gmul, comb_zeros, xor_zero]⟩
    · exact (Sp.mem h).cons b
theorem Sp.comb {B : List V} : ∀ (c : List UInt8) (A : List V), (∀ a, a ∈ A → Sp B a) → Sp B (Gf.comb c A)
  | [], A, _ => by have : Gf.comb [] A = fun _ => 0 := by funext j; exact comb_nil' A j
                   rw [this]; exact Sp.zero B
  | c :: cs, [], _ => Sp.zero B
  | c :: cs, a :: as, h => Sp.add (Sp.scale c (h a (by simp))) (Sp.comb cs as (fun b hb => h b (by simp [hb])))
theorem Sp.trans {A B : List V} {v : V} (h : ∀ a, a ∈ A → Sp B a) (g : Sp A v) : Sp B v := by
  obtain ⟨c, _, rfl⟩ := g; exact Sp.comb c A h
theorem Sp.sub {A B : List V} {v : V} (h : ∀ a, a ∈ A → a ∈ B) (g : Sp A v) : Sp B v := Sp.trans (fun a ha => Sp.mem (h a ha)) g
theorem Sp.at_zero {A : List V} {v : V} {j : Nat} (h : Sp A v) (hz : ∀ a, a ∈ A → a j = 0) : v j = 0 := by
  obtain ⟨c, _, rfl⟩ := h; exact comb_at_zero j c A hz
/-- independent -/
def Ind (A : List V) : Prop := ∀ c : List UInt8, c.length = A.length → (∀ j, comb c A j = 0) → ∀ x, x ∈ c → x = 0
theorem Ind.nil : Ind [] := fun c hc _ x hx => by
  have : c = [] := List.length_eq_zero_iff.1 hc
  subst this; simp at hx
def dot : List UInt8 → List UInt8 → UInt8
  | c :: cs, t :: ts => gmul c t ^^^ dot cs ts
  | _, _ => 0
theorem comb_shift (a0 : V) (f : V → UInt8) (j : Nat) : ∀ (c : List UInt8) (L : List V), c.length = L.length → comb c (L.map (fun a j => a j ^^^ gmul (f a) (a0 j))) j = comb c L j ^^^ gmul (dot c (L.map f)) (a0 j)
  | [], [], _ => by simp [comb_nil', dot, zero_gmul, xor_self]
  | c :: cs, a :: as, h => by
    simp only [List.map_cons, comb_cons, dot]
    rw [comb_shift a0 f j cs as (by simpa using h), gmul_xor_left, gmul_xor_right, gmul_assoc, xor4]
/-- the exchange: independent vectors in the span of others are no more than these -/
theorem exchange : ∀ (W A : List V), Ind A → (∀ a, a ∈ A → Sp W a) → A.length ≤ W.length
  | [], A, hA, hS => by
    cases A with
    | nil => simp
    | cons a as =>
      exfalso
      obtain ⟨c, hc, ha⟩ := hS a (by simp)
      have h1 := hA (1 :: List.replicate as.length 0) (by simp) (fun j => by rw [comb_cons, comb_zeros, ha, comb_nil]; rw [gmul_zero, xor_zero]) 1 (by simp)
      exact absurd h1 (by decide)
  | w :: W, A, hA, hS => by
    by_cases hall : ∀ a, a ∈ A → Sp W a
    · exact Nat.le_succ_of_le (exchange W A hA hall)
    · have hex : ∃ a0, a0 ∈ A ∧ ¬ Sp W a0 := by
        apply Classical.byContradiction
        intro hn
        exact hall (fun a ha => Classical.byContradiction fun h => hn ⟨a, ha, h⟩)
      obtain ⟨a0, ha0, hn0⟩ := hex
      obtain ⟨A1, A2, rfl⟩ := List.append_of_mem ha0
      have part : ∀ a, Sp (w :: W) a → ∃ (x : UInt8) (r : V), Sp W r ∧ ∀ j, a j = gmul x (w j) ^^^ r j := by
        rintro a ⟨c, hc, rfl⟩
        cases c with
        | nil => simp at hc
        | cons x cs => exact ⟨x, Gf.comb cs W, ⟨cs, by simpa using hc, rfl⟩, fun j => rfl⟩
      obtain ⟨x0, r0, hr0, e0⟩ := part a0 (hS a0 ha0)
      have hx0 : x0 ≠ 0 := fun h => hn0 (by
        have : a0 = r0 := by funext j; rw [e0 j, h, zero_gmul, zero_xor]
        rw [this]; exact hr0)
      have ht : ∀ a, a ∈ A1 ++ A2 → ∃ t : UInt8, Sp W (fun j => a j ^^^ gmul t (a0 j)) := by
        intro a ha
        obtain ⟨x, r, hr, e⟩ := part a (hS a (by simp at ha ⊢; rcases ha with h | h <;> simp [h]))
        refine ⟨gmul x (ginv x0), ?_⟩
        have : (fun j => a j ^^^ gmul (gmul x (ginv x0)) (a0 j)) = fun j => r j ^^^ gmul (gmul x (ginv x0)) (r0 j) := by
          funext j
          rw [e j, e0 j, gmul_xor_right, ← gmul_assoc, gmul_assoc x (ginv x0) x0, ginv_gmul x0 hx0, gmul_one, xor4, xor_self, zero_xor]
        rw [this]; exact Sp.add hr (Sp.scale _ hr0)
      obtain ⟨f, hf⟩ : ∃ f : V → UInt8, ∀ a, a ∈ A1 ++ A2 → Sp W (fun j => a j ^^^ gmul (f a) (a0 j)) :=
        ⟨fun a => Classical.epsilon fun t => Sp W (fun j => a j ^^^ gmul t (a0 j)), fun a ha => Classical.epsilon_spec (ht a ha)⟩
      have hind : Ind ((A1 ++ A2).map (fun a j => a j ^^^ gmul (f a) (a0 j))) := by
        intro c hc hz x hx
        rw [List.length_map] at hc
        have hsplit : c = c.take A1.length ++ c.drop A1.length := (List.take_append_drop _ _).symm
        have l1 : (c.take A1.length).length = A1.length := by rw [List.length_take, hc, List.length_append]; omega
        have h2 := hA (c.take A1.length ++ dot c ((A1 ++ A2).map f) :: c.drop A1.length) (by
          rw [List.length_append, List.length_append, List.length_cons, List.length_cons, l1, List.length_drop, hc, List.length_append]; omega) (fun j => by
          rw [comb_append _ _ _ _ _ l1, comb_cons]
          have h3 := hz j
          rw [comb_shift a0 f j c (A1 ++ A2) hc] at h3
          have h4 : comb c (A1 ++ A2) j = comb (c.take A1.length) A1 j ^^^ comb (c.drop A1.length) A2 j := by
            conv => lhs; rw [hsplit]
            exact comb_append _ _ _ _ _ l1
          rw [h4] at h3
          rw [← h3, xor_assoc]; congr 1; exact xor_comm _ _)
        refine h2 x ?_
        rw [hsplit] at hx
        rcases List.mem_append.1 hx with h | h
        · exact List.mem_append_left _ h
        · exact List.mem_append_right _ (List.mem_cons_of_mem _ h)
      have := exchange W _ hind (fun a ha => by
        obtain ⟨b, hb, rfl⟩ := List.mem_map.1 ha
        exact hf b hb)
      rw [List.length_map, List.length_append] at this
      rw [List.length_append, List.length_cons, List.length_cons]; omega
/-- the rank of vectors -/
def Rk (A : List V) (r : Nat) : Prop := ∃ B, Ind B ∧ B.length = r ∧ (∀ b, b ∈ B → Sp A b) ∧ ∀ a, a ∈ A → Sp B a
theorem Rk.le {A C : List V} {r s : Nat} (h : Rk A r) (g : Rk C s) (hs : ∀ a, a ∈ A → Sp C a) : r ≤ s := by
  obtain ⟨B, b1, rfl, b3, b4⟩ := h; obtain ⟨D, d1, rfl, d3, d4⟩ := g
  exact exchange D B b1 (fun b hb => Sp.trans d4 (Sp.trans hs (b3 b hb)))
theorem Rk.le_length {A W : List V} {r : Nat} (h : Rk A r) (hs : ∀ a, a ∈ A → Sp W a) : r ≤ W.length := by
  obtain ⟨B, b1, rfl, b3, b4⟩ := h
  exact exchange W B b1 (fun b hb => Sp.trans hs (b3 b hb))
theorem Rk.unique {A : List V} {r s : Nat} (h : Rk A r) (g : Rk A s) : r = s :=
  Nat.le_antisymm (h.le g fun _ ha => Sp.mem ha) (g.le h fun _ ha => Sp.mem ha)
theorem Rk.same {A C : List V} {r s : Nat} (h : Rk A r) (g : Rk C s) (h1 : ∀ a, a ∈ A → Sp C a) (h2 : ∀ c, c ∈ C → Sp A c) : r = s := Nat.le_antisymm (h.le g h1) (g.le h h2)
/-- vectors, each with a place where it is 1 and all behind are nought -/
def Tri : List (V × Nat) → Prop
  | [] => True
  | (v, l) :: K => v l = 1 ∧ (∀ p, p ∈ K → p.1 l = 0) ∧ Tri K
theorem Tri.comb_zero : ∀ {K : List (V × Nat)} {c : List UInt8}, Tri K → c.length = K.length → (∀ p, p ∈ K → comb c (K.map (·.1)) p.2 = 0) → ∀ x, x ∈ c → x = 0
  | [], [], _, _, _ => by simp
  | (v, l) :: K, c :: cs, h, hc, hz => by
    obtain ⟨h1, h2, h3⟩ := h
    have hK : ∀ a, a ∈ K.map (·.1) → a l = 0 := fun a ha => by obtain ⟨p, hp, rfl⟩ := List.mem_map.1 ha; exact h2 p hp
    have c0 : c = 0 := by
      have := hz (v, l) (by simp)
      simp only [List.map_cons, comb_cons] at this
      rw [comb_at_zero l cs _ hK, h1, gmul_one, xor_zero] at this
      exact this
    subst c0
    have ih := Tri.comb_zero (c := cs) h3 (by simpa using hc) (fun p hp => by
      have := hz p (by simp [hp])
      simpa only [List.map_cons, comb_cons, zero_gmul, zero_xor] using this)
    intro x hx
    rcases List.mem_cons.1 hx with rfl | hx
    · rfl
    · exact ih x hx
theorem Tri.ind {K : List (V × Nat)} (h : Tri K) : Ind (K.map (·.1)) := fun c hc hz => h.comb_zero (by simpa using hc) (fun _ _ => hz _)
/-- in the span and nought at the places: nought -/
theorem Tri.span_zero {K : List (V × Nat)} {v : V} (h : Tri K) (hs : Sp (K.map (·.1)) v) (hz : ∀ p, p ∈ K → v p.2 = 0) : ∀ j, v j = 0 := by
  obtain ⟨c, hc, rfl⟩ := hs
  have := h.comb_zero (by simpa using hc) hz
  have e : c = List.replicate c.length 0 := List.eq_replicate_of_mem this
  intro j
  rw [e]; exact comb_zeros j _ _
/-- what is left of a vector behind others -/
def red (K : List (V × Nat)) (x : V) : V := K.foldl (fun x p j => x j ^^^ gmul (x p.2) (p.1 j)) x
theorem red_cons (p : V × Nat) (K : List (V × Nat)) (x : V) : red (p :: K) x = red K (fun j => x j ^^^ gmul (x p.2) (p.1 j)) := rfl
/-- what is left differs by a combination -/
theorem red_span : ∀ (K : List (V × Nat)) (x : V), Sp (K.map (·.1)) (fun j => x j ^^^ red K x j)
  | [], x => by have : (fun j => x j ^^^ red [] x j) = fun _ => 0 := by funext j; exact xor_self _
                rw [this]; exact Sp.zero _
  | p :: K, x => by
    have h1 := (red_span K (fun j => x j ^^^ gmul (x p.2) (p.1 j))).cons p.1
    have h2 : Sp (p.1 :: K.map (·.1)) (fun j => gmul (x p.2) (p.1 j)) := Sp.scale _ (Sp.mem (by simp))
    have := Sp.add h1 h2
    rw [List.map_cons]
    have e : (fun j => x j ^^^ red (p :: K) x j) = fun j => ((x j ^^^ gmul (x p.2) (p.1 j)) ^^^ red K (fun j => x j ^^^ gmul (x p.2) (p.1 j)) j) ^^^ gmul (x p.2) (p.1 j) := by
      funext j
      rw [red_cons, xor_assoc (x j), xor_comm (gmul _ _) (red _ _ _), ← xor_assoc (x j), xor_cancel]
    rw [e]; exact this
theorem red_keeps_zero {l : Nat} : ∀ {K : List (V × Nat)} {x : V}, (∀ p, p ∈ K → p.1 l = 0) → x l = 0 → red K x l = 0
  | [], x, _, h => h
  | p :: K, x, hK, h => by
    rw [red_cons]
    exact red_keeps_zero (fun q hq => hK q (by simp [hq])) (by rw [h, hK p (by simp), gmul_zero, xor_self])
theorem red_at : ∀ {K : List (V × Nat)} {x : V}, Tri K → ∀ p, p ∈ K → red K x p.2 = 0
  | (v, l) :: K, x, ⟨h1, h2, h3⟩, p, hp => by
    rw [red_cons]
    rcases List.mem_cons.1 hp with rfl | hp
    · exact red_keeps_zero h2 (by simp only [h1, gmul_one, xor_self])
    · exact red_at h3 p hp
/-- in the span just where nothing is left -/
theorem red_zero {K : List (V × Nat)} {x : V} (h : Tri K) : (∀ j, red K x j = 0) ↔ Sp (K.map (·.1)) x := by
  constructor
  · intro hz
    have := red_span K x
    have e : (fun j => x j ^^^ red K x j) = x := by funext j; rw [hz j, xor_zero]
    rwa [e] at this
  · intro hs
    have h1 := Sp.add hs (red_span K x)
    have e : (fun j => x j ^^^ (x j ^^^ red K x j)) = red K x := by funext j; rw [← xor_assoc, xor_self, zero_xor]
    rw [e] at h1
    exact h.span_zero h1 (red_at h)
theorem Tri.snoc : ∀ {K : List (V × Nat)} {y : V} {l : Nat}, Tri K → (∀ p, p ∈ K → y p.2 = 0) → y l = 1 → Tri (K ++ [(y, l)])
  | [], y, l, _, _, h1 => ⟨h1, by simp, trivial⟩
  | (v, l0) :: K, y, l, ⟨h1, h2, h3⟩, hz, hy => by
    refine ⟨h1, ?_, h3.snoc (fun p hp => hz p (by simp [hp])) hy⟩
    intro p hp
    rcases List.mem_append.1 hp with h | h
    · exact h2 p h
    · simp at h; subst h; exact hz (v, l0) (by simp)
theorem Tri.append : ∀ {K L : List (V × Nat)}, Tri K → Tri L → (∀ p, p ∈ K → ∀ q, q ∈ L → q.1 p.2 = 0) → Tri (K ++ L)
  | [], L, _, h, _ => h
  | (v, l0) :: K, L, ⟨h1, h2, h3⟩, hL, hz => by
    refine ⟨h1, ?_, h3.append hL (fun p hp => hz p (by simp [hp]))⟩
    intro p hp
    rcases List.mem_append.1 hp with h | h
    · exact h2 p h
    · exact hz (v, l0) (by simp) p h
theorem Tri.left : ∀ {K L : List (V × Nat)}, Tri (K ++ L) → Tri K
  | [], L, _ => trivial
  | (v, l0) :: K, L, ⟨h1, h2, h3⟩ => ⟨h1, fun p hp => h2 p (by simp [hp]), h3.left⟩
theorem Tri.right : ∀ {K L : List (V × Nat)}, Tri (K ++ L) → Tri L
  | [], L, h => h
  | (v, l0) :: K, L, ⟨_, _, h3⟩ => h3.right
theorem Tri.cross : ∀ {K L : List (V × Nat)}, Tri (K ++ L) → ∀ p, p ∈ K → ∀ q, q ∈ L → q.1 p.2 = 0
  | (v, l0) :: K, L, ⟨h1, h2, h3⟩, p, hp, q, hq => by
    rcases List.mem_cons.1 hp with rfl | hp
    · exact h2 q (by simp [hq])
    · exact h3.cross p hp q hq
end Gf
