/- The plain law of WayWhole: what came whole is what was sent; acts that harm nothing leave all whole; acts one by one are as all at once. -/
import Derived.Test.YtlfcijpkdhdmeaaAf
namespace Go.Proofs.Ytlfcijpkdhdmeaa
open Go.RowKit Go.By
theorem maskF_quiet (b j : Nat) (xs : List UInt8) : ∀ k, (maskF b j xs k).2 = false → (maskF b j xs k).1 = xs
  | 0, _ => rfl
  | k + 1, h => by
    unfold maskF at h ⊢
    split at h
    · simp at h
    · rename_i hc
      rw [if_neg hc]
      exact maskF_quiet b j xs k h
/-- each is harmed, or stands as it stood -/
def Good (xss : List (List UInt8)) (h : Bool) (ps : List Pack) : Prop := ∀ p, p ∈ ps → (p.2 = -1 ∧ h = true) ∨ ∃ k : Nat, p.2 = k ∧ xss[k]? = some p.1
theorem Good.init (xss : List (List UInt8)) : Good xss false (initS xss) := by
  intro p hp
  simp only [initS, List.mem_map, List.mem_range] at hp
  obtain ⟨i, hi, rfl⟩ := hp
  exact .inr ⟨i, rfl, by simp [List.getElem?_eq_getElem hi]⟩
theorem Good.step {xss : List (List UInt8)} {h : Bool} {ps : List Pack} (g : Good xss h ps) (a : ActD) : Good xss (h || harmsS a.d) (stepS ps a) := by
  have keep : ∀ p : Pack, ((p.2 = -1 ∧ h = true) ∨ ∃ k : Nat, p.2 = k ∧ xss[k]? = some p.1) → ((p.2 = -1 ∧ (h || harmsS a.d) = true) ∨ ∃ k : Nat, p.2 = k ∧ xss[k]? = some p.1) := fun p hp => by
    rcases hp with ⟨h1, h2⟩ | h1
    · exact .inl ⟨h1, by rw [h2]; rfl⟩
    · exact .inr h1
  intro x hx
  unfold stepS at hx
  split at hx
  · exact keep x (g x hx)
  · rename_i hn
    split at hx
    · rename_i h5
      rcases List.mem_append.1 hx with hx | hx
      · exact keep x (g x hx)
      · simp at hx; subst hx
        exact .inl ⟨rfl, by rw [h5]; simp [harmsS]⟩
    · rename_i h5
      split at hx
      · exact keep x (g x hx)
      · rename_i p hp
        have hpm := List.mem_of_getElem? hp
        split at hx
        · exact keep x (g x hx)
        · split at hx
          · exact keep x (g x ((dropAt_sub _ _).subset hx))
          · rename_i h0
            split at hx
            · rcases List.mem_append.1 hx with hx | hx
              · exact keep x (g x hx)
              · simp at hx; subst hx; exact keep _ (g _ hpm)
            · rename_i h1
              split at hx
              · rcases List.mem_cons.1 ((putAt_perm _ _ _).subset hx) with rfl | hx
                · exact keep _ (g _ hpm)
                · exact keep x (g x ((dropAt_sub _ _).subset hx))
              · rename_i h2
                split at hx
                · rename_i h3
                  rcases List.mem_or_eq_of_mem_set hx with hx | rfl
                  · exact keep x (g x hx)
                  · unfold cutP
                    split
                    · exact .inl ⟨rfl, by rw [h3]; simp [harmsS]⟩
                    · exact keep _ (g _ hpm)
                · rename_i h3
                  rcases List.mem_or_eq_of_mem_set hx with hx | rfl
                  · exact keep x (g x hx)
                  · have h4 : a.d = 4 := by omega
                    unfold maskP
                    cases hm : (maskF a.b a.j.toNat p.1 32).2 with
                    | true => exact .inl ⟨rfl, by rw [h4]; simp [harmsS]⟩
                    | false =>
                      rw [maskF_quiet _ _ _ _ hm]
                      exact keep _ (g _ hpm)
theorem Good.play {xss : List (List UInt8)} : ∀ {acs : List ActD} {h : Bool} {ps : List Pack}, Good xss h ps → Good xss (h || acs.any (fun a => harmsS a.d)) (playS ps acs) := by
  intro acs
  induction acs with
  | nil => intro h ps g; simpa [playS] using g
  | cons a acs ih =>
    intro h ps g
    have := ih (g.step a)
    rw [Bool.or_assoc] at this
    exact this
theorem step_bytes {ps qs : List Pack} (h : ps.map (·.1) = qs.map (·.1)) (a : ActD) : (stepS ps a).map (·.1) = (stepS qs a).map (·.1) := by
  have hl : ps.length = qs.length := by have := congrArg List.length h; simpa using this
  have hget : ∀ i : Nat, (ps[i]?).map (·.1) = (qs[i]?).map (·.1) := fun i => by rw [← List.getElem?_map, ← List.getElem?_map, h]
  unfold stepS
  split
  · exact h
  · split
    · rw [List.map_append, List.map_append, h]
    · have e := hget a.i.toNat
      cases hp : ps[a.i.toNat]? with
      | none =>
        rw [hp] at e
        cases hq : qs[a.i.toNat]? with
        | none => exact h
        | some q => rw [hq] at e; simp at e
      | some p =>
        rw [hp] at e
        cases hq : qs[a.i.toNat]? with
        | none => rw [hq] at e; simp at e
        | some q =>
          rw [hq] at e
          have e : p.1 = q.1 := by simpa using e
          simp only
          split
          · exact h
          · split
            · rw [dropAt_map, dropAt_map, h]
            · split
              · rw [List.map_append, List.map_append, h]; simp [e]
              · split
                · rw [putAt_map, putAt_map, dropAt_map, dropAt_map, h, hl, e]
                · split
                  · rw [List.map_set, List.map_set, h]
                    congr 1
                    unfold cutP
                    rw [e]
                    split <;> simp [e]
                  · rw [List.map_set, List.map_set, h]
                    congr 1
                    unfold maskP
                    simp [e]
theorem init_bytes (xss : List (List UInt8)) : (initS xss).map (·.1) = xss := by
  apply List.ext_getElem?
  intro i
  rw [List.getElem?_map]
  cases hx : xss[i]? with
  | none =>
    rw [List.getElem?_eq_none (by rw [initS_len]; exact List.getElem?_eq_none_iff.1 hx)]; rfl
  | some x => rw [initS_at hx]; rfl
/-- acts one by one -/
def oneS (xss : List (List UInt8)) (acs : List ActD) : List (List UInt8) := (playS (initS xss) acs).map (·.1)
theorem oneS_snoc {xss : List (List UInt8)} {acs : List ActD} {k : Nat} {a : ActD} (h : acs[k]? = some a) : oneS xss (acs.take (k + 1)) = (playS (initS (oneS xss (acs.take k))) [a]).map (·.1) := by
  unfold oneS
  rw [playS_snoc h]
  exact step_bytes (init_bytes _).symm a
end Go.Proofs.Ytlfcijpkdhdmeaa
