/- The contracts of the acts: drop, move, forge. -/
import Derived.Test.YtlfcijpkdhdmeaaA3
import Derived.Test.YtlfcijpkdhdmeaaA4
import Derived.Test.YtlfcijpkdhdmeaaA5
namespace Go.Proofs.Ytlfcijpkdhdmeaa
open Go.RowKit Go.By
theorem ne_types : (5 : Nat) ≠ 71 := by decide
abbrev PL (w : World) (base : Nat) (v : Value) (n : Nat) (ts : List Par) : Prop := Pl 71 5 w base v n ts
/-- the act, as a value -/
abbrev actV (d i j b : Int) (av : Value) : Value := .agg #[.int .i64 d, .int .i64 i, .int .i64 j, .int .u32 b, av]
/-- what comes back: a list of parcels -/
def RetP (base : Nat) (w : World) (ps : List (List UInt8 × Int)) (e : Ending) (w' : World) : Prop := ∃ u ss, e = .returned u ∧ PL w' base u ps.length ss ∧ ss.map parIs = ps ∧ Below base w w'
theorem RetP.of {base m : Nat} {w w' : World} {ps : List (List UInt8 × Int)} {u : Value} {ss : List Par} (h : PL w' base u m ss) (hb : Below base w w') (hs : ss.map parIs = ps) : RetP base w ps (.returned u) w' :=
  ⟨u, ss, rfl, by rw [← hs, List.length_map, h.len]; exact h, hs, hb⟩
set_option maxRecDepth 100000 in
set_option maxHeartbeats 1000000 in
theorem drop_any (base n i : Nat) (v : Value) (ts : List Par) (d j b : Int) (av : Value) (w : World) (h : PL w base v n ts) (hi : i < n) (hbase : base ≤ w.heap.size) :
    Calls Try.prog 46 #[actV d i j b av, v] w (RetP base w ((ts.map parIs).take i ++ (ts.map parIs).drop (i + 1))) := by
  obtain ⟨q, c, rfl⟩ : ∃ q c, v = .slice q n c := by
    rcases h.own.2 with ⟨h1, h0⟩ | ⟨g, cap, cur, hv, _⟩
    · omega
    · exact ⟨_, _, hv⟩
  obtain ⟨g, cur, rfl, hg, hh, hnc, hcm, hcl, hct⟩ := owns2_open h.own (by omega)
  unfold maxLen at hcm
  have hB := fun o => al (o := o) (Below.refl w.heap.size w) (Nat.le_refl _)
  have hB2 := fun o => al (o := o) (Below.refl base w) hbase
  have H := Lib.hid h
  clear h hh hct hcl
  go_enter Try.func46, Try.ntmps46
  go_wp2_with fail
  refine Calls.mono (Delete_any base g n c i (ts.map parOf) _ (H.out.keep (hB _)).own hi (H.out.ones)) ?_
  rintro e w' ⟨rfl, ho, hgr⟩
  have e1 : i + (n - (i + 1)) = n - 1 := by omega
  rw [e1]
  have FIN : Hid (PL w' base (.slice (some ⟨g, 0, none⟩) (n - 1) c) (n - 1) (ts.take i ++ ts.drop (i + 1)) ∧ Below base w w') := by
    have hs : (ts.take i ++ ts.drop (i + 1)).Sublist ts := by
      have h2 := List.Sublist.append (List.Sublist.refl (ts.take i)) (List.drop_sublist 1 (ts.drop i))
      rw [List.drop_drop, List.take_append_drop] at h2
      exact h2
    refine ⟨(H.out.keep (hB _)).turn ne_types (fun t ht => hs.subset ht) (H.out.dis.sublist (blks_sub hs)) ?_ ?_ hgr, (hB2 _).grown hgr (by simp; omega) (fun k hk => by cases hk; exact hg)⟩
    · rw [List.length_append, List.length_take, List.length_drop, H.out.len]; omega
    · rw [List.map_append, List.map_take, List.map_drop]; exact ho
  clear ho hgr e1
  go_wp2
  go_ret
  exact RetP.of FIN.out.1 FIN.out.2 (by rw [List.map_append, List.map_take, List.map_drop])
set_option maxRecDepth 100000 in
set_option maxHeartbeats 1000000 in
theorem forge_any (base n m c : Nat) (v : Value) (ts : List Par) (d i j b : Int) (p : Option Addr) (bs : List UInt8) (w : World) (h : PL w base v n ts) (hbase : base ≤ w.heap.size) (hs : Sl B8 w p m c bs) (hr : Room m) (hn : n < 4096) :
    Calls Try.prog 51 #[actV d i j b (.slice p m c), v] w (RetP base w (ts.map parIs ++ [(bs, -1)])) := by
  obtain ⟨i0, hi0, hz0, hz1, hz2⟩ := info_parts info_parcel
  obtain ⟨q, c', rfl⟩ : ∃ q c, v = .slice q n c := by
    rcases h.own.2 with ⟨h1, h0⟩ | ⟨g, cap, cur, hv, _⟩
    · subst h0; exact ⟨_, _, h1⟩
    · exact ⟨_, _, hv⟩
  have hB := fun o => al (o := o) (Below.refl w.heap.size w) (Nat.le_refl _)
  have hB2 := fun o => al (o := o) (Below.refl base w) hbase
  have H := Lib.hid h; have HS := Lib.hid hs
  clear h hs
  have h4'' : ¬ (4096 : Int) ≤ (n : Int) := by omega
  go_enter Try.func51, Try.ntmps51
  go_wp2_with fail
  refine Calls.mono (BClone_any p m c bs _ (HS.out.keep (hB _)) hr) ?_; rintro e w1 ⟨q1, c1, rfl, ho1, hb1⟩
  have HP := Lib.hid (H.out.keep (hB (.cells #[.int .i64 d, .int .i64 i, .int .i64 j, .int .u32 b, .slice p m c] 39)))
  have HB1 := Lib.hid hb1
  have HO1 := Lib.hid ho1
  have k1 : Below base w w1 := (hB2 (.cells #[.int .i64 d, .int .i64 i, .int .i64 j, .int .u32 b, .slice p m c] 39)).trans (hb1.mono (by simp; omega))
  have s1 := hb1.size
  clear ho1 hb1
  have hB3 := fun o => al (o := o) (Below.refl w1.heap.size w1) (Nat.le_refl _)
  go_wp2_with (at_builtin; refine wpList_append_own _ rfl _ _ 68 rfl base 71 i0 _ 2 32 Try.underlying68 hi0 hz0 hz1 hz2 rfl (by omega) _ n (pcs (ts.map parOf)) rfl ((HP.out.keep HB1.out).keep (hB3 _)).own ⟨w1.heap.size, 0, none⟩ 1 1 [.slice q1 m c1, .int .i64 (-1)] rfl rfl ?c1 ?c2 ?c3 ?c4 ?c5 ?_)
  case c1 =>
    intro j x hj
    rw [Addr.add_lit, Nat.zero_add, cell_of_row _ _ j _ _ _ (hnew rfl)]
    match j with
    | 0 => simpa using hj
    | 1 => simpa using hj
    | j + 2 => simp at hj
  case c2 => intro x hx; simp at hx; rcases hx with rfl | rfl <;> rfl
  case c3 => unfold maxLen; omega
  case c4 => omega
  case c5 => simp at s1 ⊢; omega
  intro v' w' ho' hg' _
  have FIN : Hid (PL w' base v' (n + 1) (ts ++ [(.slice q1 m c1, -1, bs)]) ∧ Below base w w') := by
    refine ⟨Pl.push (w2 := w1.alloc (.cells #[.slice q1 m c1, .int .i64 (-1)] 71)) HP.out ne_types ⟨_, _, _, rfl, owns_keep HO1.out (hB3 _)⟩ (by simp; omega) (bl HB1.out (hB3 _) HB1.out.size) ho' hg', ?_⟩
    have k2 : Below base w (w1.alloc (.cells #[.slice q1 m c1, .int .i64 (-1)] 71)) := k1.trans ((hB3 _).mono (by simp at s1; omega))
    refine k2.grown hg' (by simp at s1 ⊢; omega) (fun k hk => (HP.out.own.lt k hk).1)
  clear ho' hg'
  go_wp2
  go_ret
  exact RetP.of FIN.out.1 FIN.out.2 (by simp [parIs])
end Go.Proofs.Ytlfcijpkdhdmeaa
