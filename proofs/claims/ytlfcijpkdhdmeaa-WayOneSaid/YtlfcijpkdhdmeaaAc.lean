/- What acts do to lists of packets; acts that came in, read from memory. -/
import Derived.Test.YtlfcijpkdhdmeaaA6
import Derived.Test.YtlfcijpkdhdmeaaA8
import Derived.Test.YtlfcijpkdhdmeaaA9
import Derived.Test.YtlfcijpkdhdmeaaAb
namespace Go.Proofs.Ytlfcijpkdhdmeaa
open Go.RowKit Go.By
structure ActD where
  d : Int
  i : Int
  j : Int
  b : Nat
  bs : List UInt8
abbrev Pack := List UInt8 × Int
def stepS (ps : List Pack) (a : ActD) : List Pack :=
  if a.d < 0 ∨ 6 ≤ a.d ∨ a.j < 0 then ps
  else if a.d = 5 then ps ++ [(a.bs, -1)]
  else match ps[a.i.toNat]? with
    | none => ps
    | some p => if a.i < 0 then ps
      else if a.d = 0 then dropAt ps a.i.toNat
      else if a.d = 1 then ps ++ [p]
      else if a.d = 2 then putAt (dropAt ps a.i.toNat) (min a.j.toNat (ps.length - 1)) p
      else if a.d = 3 then ps.set a.i.toNat (cutP p a.j.toNat)
      else ps.set a.i.toNat (maskP p a.b a.j.toNat)
def playS (ps : List Pack) (acs : List ActD) : List Pack := acs.foldl stepS ps
theorem stepS_len (ps : List Pack) (a : ActD) : (stepS ps a).length ≤ ps.length + 1 := by
  unfold stepS
  split
  · omega
  · split
    · simp
    · split
      · omega
      · rename_i p hp
        have hi := (List.getElem?_eq_some_iff.1 hp).1
        split
        · omega
        · split
          · rw [dropAt_length hi]; omega
          · split
            · simp
            · split
              · rw [(putAt_perm _ _ _).length_eq, List.length_cons, dropAt_length hi]; omega
              · split <;> simp
theorem stepS_room {ps : List Pack} {a : ActD} (h : ∀ p, p ∈ ps → Room p.1.length) (ha : Room a.bs.length) : ∀ p, p ∈ stepS ps a → Room p.1.length := by
  unfold stepS
  split
  · exact h
  · split
    · intro p hp
      rcases List.mem_append.1 hp with hp | hp
      · exact h p hp
      · simp at hp; subst hp; exact ha
    · split
      · exact h
      · rename_i p hp
        have hpm := List.mem_of_getElem? hp
        split
        · exact h
        · split
          · intro x hx; exact h x ((dropAt_sub _ _).subset hx)
          · split
            · intro x hx
              rcases List.mem_append.1 hx with hx | hx
              · exact h x hx
              · simp at hx; subst hx; exact h _ hpm
            · split
              · intro x hx
                rcases List.mem_cons.1 ((putAt_perm _ _ _).subset hx) with rfl | hx
                · exact h _ hpm
                · exact h x ((dropAt_sub _ _).subset hx)
              · split
                · intro x hx
                  rcases List.mem_or_eq_of_mem_set hx with hx | rfl
                  · exact h x hx
                  · unfold cutP
                    split
                    · exact (h _ hpm).le (by rw [List.length_take]; omega)
                    · exact h _ hpm
                · intro x hx
                  rcases List.mem_or_eq_of_mem_set hx with hx | rfl
                  · exact h x hx
                  · unfold maskP; simp only; rw [maskF_len]; exact h _ hpm
/-- a slice value of acts that reads as a list -/
structure SlA (w : World) (p : Option Addr) (n c : Nat) (acs : List ActD) : Prop where
  len : acs.length = n
  max : c ≤ maxLen
  le : n ≤ c
  rs : ∀ k a, acs[k]? = some a → ∃ b o q m c', p = some ⟨b, o, none⟩ ∧ w.cell? ⟨b, o + k * 5, none⟩ = some (.int .i64 a.d) ∧ w.cell? ⟨b, o + k * 5 + 1, none⟩ = some (.int .i64 a.i) ∧ w.cell? ⟨b, o + k * 5 + 2, none⟩ = some (.int .i64 a.j) ∧
    w.cell? ⟨b, o + k * 5 + 3, none⟩ = some (.int .u32 a.b) ∧ w.cell? ⟨b, o + k * 5 + 4, none⟩ = some (.slice q m c') ∧ Sl B8 w q m c' a.bs ∧ a.i ≤ 9223372036854775807 ∧ a.j ≤ 9223372036854775807 ∧ a.b < 4294967296
theorem SlA.keep {w w' : World} {p : Option Addr} {n c : Nat} {acs : List ActD} (h : SlA w p n c acs) (hb : Below w.heap.size w w') : SlA w' p n c acs :=
  ⟨h.len, h.max, h.le, fun k a hk => by
    obtain ⟨b, o, q, m, c', hp, h0, h1, h2, h3, h4, h5, h6⟩ := h.rs k a hk
    have hlt := lt_of_cell h0
    exact ⟨b, o, q, m, c', hp, (hb.cell (p := ⟨b, o + k * 5, none⟩) hlt).trans h0, (hb.cell (p := ⟨b, o + k * 5 + 1, none⟩) hlt).trans h1, (hb.cell (p := ⟨b, o + k * 5 + 2, none⟩) hlt).trans h2, (hb.cell (p := ⟨b, o + k * 5 + 3, none⟩) hlt).trans h3, (hb.cell (p := ⟨b, o + k * 5 + 4, none⟩) hlt).trans h4, h5.keep hb, h6⟩⟩
theorem SlA.bound {w : World} {p : Option Addr} {n c : Nat} {acs : List ActD} (h : SlA w p n c acs) : n ≤ 9223372036854775807 := by have := h.le; have := h.max; unfold maxLen at this; omega
/-- the packets, each with its place -/
def initS (xss : List (List UInt8)) : List Pack := (List.range xss.length).map fun i => (xss.getD i [], (i : Int))
def blankS (n : Nat) : List Pack := List.replicate n ([], 0)
theorem initS_len (xss : List (List UInt8)) : (initS xss).length = xss.length := by simp [initS]
theorem initS_at {xss : List (List UInt8)} {k : Nat} {x : List UInt8} (h : xss[k]? = some x) : (initS xss)[k]? = some (x, (k : Int)) := by
  have hk := (List.getElem?_eq_some_iff.1 h).1
  obtain ⟨hk', e⟩ := List.getElem?_eq_some_iff.1 h
  simp [initS, hk, e]
end Go.Proofs.Ytlfcijpkdhdmeaa
