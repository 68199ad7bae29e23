/- Small laws on slices: a slice that reads as a list; append of such a one. -/
import Derived.Test.YtnlfohbmdmeodaaB
import Derived.Laws.AppendOwnNone
namespace Go.By
open Go.RowKit
theorem grown_trans {a b c : World} {row : Option Nat} (h : a.grownBy b row) (k : b.grownBy c row) : a.grownBy c row :=
  ⟨k.os.trans h.os, k.tape.trans h.tape, k.output.trans h.output, Nat.le_trans h.size k.size, fun i hi hr => (k.block i (Nat.lt_of_lt_of_le hi h.size) hr).trans (h.block i hi hr)⟩
/-- a slice value '.slice p n c' that reads as the list xs -/
structure Sl {α : Type} (enc : α → Value) (w : World) (p : Option Addr) (n c : Nat) (xs : List α) : Prop where
  len : xs.length = n
  le : n ≤ c
  max : c ≤ maxLen
  nil : p = none → n = 0 ∧ c = 0
  rs : Rs enc w p xs
/-- so many bytes may be made -/
def Room (n : Nat) : Prop := n ≤ 140737488355328
theorem Room.of {n : Nat} (h : n ≤ 140737488355328) : Room n := h
theorem Room.le {n m : Nat} (h : Room n) (hm : m ≤ n) : Room m := Nat.le_trans hm h
section
variable {α : Type} {enc : α → Value} {w w' : World} {p : Option Addr} {n c : Nat} {xs : List α}
theorem Sl.keep (h : Sl enc w p n c xs) (hb : Below w.heap.size w w') : Sl enc w' p n c xs := ⟨h.len, h.le, h.max, h.nil, h.rs.keep hb⟩
theorem Sl.below {B : Nat} (h : Sl enc w p n c xs) (hb : Below B w w') (hB : ∀ a, p = some a → a.block < B) : Sl enc w' p n c xs := ⟨h.len, h.le, h.max, h.nil, h.rs.below hb hB⟩
theorem Sl.grown {row : Option Nat} (h : Sl enc w p n c xs) (hg : w.grownBy w' row) (hne : ∀ a, p = some a → some a.block ≠ row) : Sl enc w' p n c xs := ⟨h.len, h.le, h.max, h.nil, h.rs.grown hg hne⟩
theorem Sl.bound (h : Sl enc w p n c xs) : n ≤ 9223372036854775807 := by have := h.le; have := h.max; unfold maxLen at this; omega
theorem Sl.nil0 (enc : α → Value) (w : World) : Sl enc w none 0 0 ([] : List α) := ⟨rfl, Nat.le_refl _, by simp [maxLen], fun _ => ⟨rfl, rfl⟩, Rs.nil⟩
theorem Sl.of_owns {base e : Nat} (h : w.ownsRow base e 1 (.slice p n c) n (xs.map enc)) : Sl enc w p n c xs := by
  have hc := owns_cap h
  refine ⟨by simpa using owns_len h, hc.1, hc.2, fun hp => ?_, Rs.of_owns h⟩
  rcases h.2 with h2 | ⟨g, cap, cur, hv, _⟩
  · obtain ⟨h2, rfl⟩ := h2; simp at h2; simp [h2]
  · simp [hp] at hv
theorem Sl.at (h : Sl enc w p n c xs) (i : Nat) (hi : i < n) : ∃ b o x, p = some ⟨b, o, none⟩ ∧ w.cell? ⟨b, o + i, none⟩ = some (enc x) ∧ Hid (xs[i]? = some x) := by
  have hi' : i < xs.length := by rw [h.len]; exact hi
  obtain ⟨b, o, hp, hc⟩ := h.rs i hi'
  exact ⟨b, o, _, hp, hc, List.getElem?_eq_getElem hi'⟩
theorem owns_shape {base e size n : Nat} {v : Value} {ys : List Value} (h : w.ownsRow base e size v n ys) : ∃ q c, v = .slice q n c := by
  rcases h.2 with h2 | ⟨g, cap, cur, hv, _⟩
  · obtain ⟨h2, rfl⟩ := h2; exact ⟨none, 0, h2⟩
  · exact ⟨_, _, hv⟩
theorem owns_new {base e size n c : Nat} {ys : List Value} (h : w.ownsRow base e size (.slice p n c) n ys) : ∀ a, p = some a → base ≤ a.block ∧ a.block < w.heap.size := by
  intro a ha
  exact h.lt a.block (by simp [Value.ownBlock, ha])
/-- what is owned stays owned where only old blocks, or another's, may have been written -/
theorem owns_below {base B e size n c : Nat} {ys : List Value} (h : w.ownsRow base e size (.slice p n c) n ys) (hb : Below B w w') (hB : ∀ a, p = some a → a.block < B) : w'.ownsRow base e size (.slice p n c) n ys := by
  refine ⟨h.1, ?_⟩
  rcases h.2 with h2 | ⟨g, cap, cur, hv, hg, hh, r⟩
  · exact Or.inl h2
  · obtain ⟨rfl, rfl⟩ : p = some ⟨g, 0, none⟩ ∧ c = cap := by simpa using hv
    exact Or.inr ⟨g, c, cur, rfl, hg, (hb.block g (hB ⟨g, 0, none⟩ rfl)).trans hh, r⟩
theorem owns_keep {base e size n c : Nat} {ys : List Value} (h : w.ownsRow base e size (.slice p n c) n ys) (hb : Below w.heap.size w w') : w'.ownsRow base e size (.slice p n c) n ys :=
  owns_below h hb (fun a ha => (owns_new h a ha).2)
theorem owns_mono {base base' e size n : Nat} {v : Value} {ys : List Value} (h : w.ownsRow base e size v n ys) (hb : base' ≤ base) : w.ownsRow base' e size v n ys := by
  refine ⟨h.1, ?_⟩
  rcases h.2 with h2 | ⟨g, cap, cur, hv, hg, hh, r⟩
  · exact Or.inl h2
  · exact Or.inr ⟨g, cap, cur, hv, Nat.le_trans hb hg, hh, r⟩
end
/-- where the first is of which f holds; -1 -/
def idxf {α : Type} (f : α → Bool) (xs : List α) : Int := match xs.findIdx? f with
  | some i => i
  | none => -1
theorem idxf_found {α : Type} {f : α → Bool} {xs : List α} {k : Nat} {x : α} (hx : xs[k]? = some x) (hf : f x = true) (hb : ∀ j y, j < k → xs[j]? = some y → f y = false) : idxf f xs = k := by
  obtain ⟨hk, hx⟩ := List.getElem?_eq_some_iff.1 hx
  have : xs.findIdx? f = some k := by
    rw [List.findIdx?_eq_some_iff_getElem]
    exact ⟨hk, by rw [hx]; exact hf, fun j hj => by simp [hb j xs[j] hj (List.getElem?_eq_getElem (by omega))]⟩
  simp [idxf, this]
theorem idxf_none {α : Type} {f : α → Bool} {xs : List α} {k : Nat} (hk : k = xs.length) (hb : ∀ j y, j < k → xs[j]? = some y → f y = false) : idxf f xs = -1 := by
  have : xs.findIdx? f = none := by
    rw [List.findIdx?_eq_none_iff]
    intro x hx
    obtain ⟨j, hj, rfl⟩ := List.getElem_of_mem hx
    exact hb j _ (by omega) (List.getElem?_eq_getElem hj)
  simp [idxf, this]
theorem idxf_ge {α : Type} (f : α → Bool) (xs : List α) : decide (0 ≤ idxf f xs) = xs.any f := by
  unfold idxf
  cases h : xs.findIdx? f with
  | none =>
    rw [List.findIdx?_eq_none_iff] at h
    have : xs.any f = false := by rw [List.any_eq_false]; intro x hx; simp [h x hx]
    simp [this]
  | some i =>
    obtain ⟨hi, hf, _⟩ := List.findIdx?_eq_some_iff_getElem.1 h
    have : xs.any f = true := List.any_eq_true.2 ⟨_, List.getElem_mem hi, hf⟩
    simp [this]
/-- append(out, xs...) , out the call's own, xs whatever reads -/
theorem wpList_append_rs {P : Program} (w : World) {ops : Array Oper} {rest : List Oper} {o : Oper} {a : Act} {Q : Exit → Act → World → Prop} (hgd : o.guard = none) (s x : Operand) (t : TypeId)
    (ho : o.op = .call { callee := .builtin .append, args := #[s, x], argTypes := #[t, t] })
    (base : Nat) (e : TypeId) (i : TypeInfo) (z : Value) (bytes : Nat) (ht : P.underlying t = some (.slice e)) (hi : P.info? e = some i) (hz : i.zero = some z)
    (hsize : i.size = 1) (hby : i.bytes = bytes) (hzs : z.cells.size = 1)
    (v : Value) (n : Nat) (ys : List Value) (hs : a.eval s = v) (hown : w.ownsRow base e 1 v n ys)
    {α : Type} (enc : α → Value) (p : Option Addr) (m c : Nat) (news : List α) (henc : ∀ x, x ∈ news → (enc x).oneCell' = true) (hx : a.eval x = .slice p m c) (hrs : Sl enc w p m c news)
    (h63 : n + m ≤ maxLen) (hbytes : (n + m) * bytes ≤ 140737488355328) (hbase : base ≤ w.heap.size)
    (h : ∀ v' w', w'.ownsRow base e 1 v' (n + m) (ys ++ news.map enc) → w.grownBy w' v.ownBlock → wpList P ops Q rest (a.put o.dst v') w') : wpList P ops Q (o :: rest) a w := by
  cases p with
  | none =>
    obtain ⟨rfl, rfl⟩ := hrs.nil rfl
    have : news = [] := List.eq_nil_of_length_eq_zero hrs.len
    subst this
    refine wpList_append_own_none hgd s x t ho base e i 1 ht hi v n ys hs hown hx (h v w (by simpa using hown) (World.grownBy.refl _ _))
  | some ad =>
    refine wpList_append_own w hgd s x t ho base e i z 1 bytes ht hi hz hsize hby hzs (by decide) v n ys hs hown ad m c (news.map enc) hx (by simpa using hrs.len) ?_ ?_ h63 hbytes hbase (fun v' w' h1 h2 _ => h v' w' h1 h2)
    · intro j u hu
      obtain ⟨hj, hu⟩ := List.getElem?_eq_some_iff.1 hu
      obtain ⟨b, o', hp, hc⟩ := hrs.rs j (by simpa using hj)
      obtain rfl := Option.some.inj hp
      rw [Addr.add_lit, hc, ← hu]; simp
    · intro u hu
      obtain ⟨x, hx', rfl⟩ := List.mem_map.1 hu
      exact henc x hx'
end Go.By
