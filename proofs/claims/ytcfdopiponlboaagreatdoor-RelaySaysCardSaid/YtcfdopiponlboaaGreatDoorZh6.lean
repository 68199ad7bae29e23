/- The contract of a grid's Turned. The contracts of grid.Of where rows fit, or are uneven. The contract of the law's Made. The contract of a grid's Mul. A region that draws its order, with two stores (an exchange): each value that comes up is told ahead; the world is one of two till the last store. A system of equations in memory; New, Size, Rank. Small parts of chapter 8's law; the reference's rows in one block. A drawn region with one store into a block of its own: a row in new memory. The contract of the reference's Rows of chapter 8: each equation put in by Insert, then cleared in place. The contract of the reference's Rest of chapter 8. The contract of a system's Rest. The contract of sort.Search. The contract of slices.Insert at rows: one more. The contract of slices.Insert at rows: one more, in the middle, where there is no room. Rows of a system in memory: one more, by slices.Insert; one in the place of another. A region that draws its order, with a call in its midst that writes: shapes ahead of it, told values behind it, and a store last. The closure of a system's Put. -/
import Derived.Test.YtcfdopiponlboaaGreatDoorZh5
import Derived.Deep.RegionWith
import Derived.Laws.CopyOwn
import Derived.BigRegion
import Derived.Deep.RegionLaw
import Derived.Lib.Overlaps
import Derived.Shelf.Spec.SlicesInsertGrow
import Derived.Lib.AppendZerosOnto
namespace Go.Proofs.YtcfdopiponlboaaGreatDoor
open Go.RowKit Go.By
theorem use_w1 {P : Program} {f : FuncId} {args : Array Value} {W : World} {Q : Ending → World → Prop} (I : World → Prop) (h : I W) (k : ∀ W', I W' → Calls P f args W' Q) : Calls P f args W Q := k W h
/-- turned so far: rows ahead of i, and of row i the places ahead of j -/
structure TurnP (h wd : Nat) (cells : List UInt8) (i j : Nat) (L : List UInt8) : Prop where
  len : L.length = wd * h
  at_ : ∀ a b, a < h → b < wd → L[b * h + a]? = some (if a < i ∨ (a = i ∧ b < j) then cells.getD (a * wd + b) 0 else 0)
theorem idx_lt {n m a b : Nat} (ha : a < n) (hb : b < m) : a * m + b < n * m := by
  have : (a + 1) * m ≤ n * m := Nat.mul_le_mul_right _ ha
  rw [Nat.add_mul, Nat.one_mul] at this; omega
theorem idx_inj {m a b a' b' : Nat} (hb : b < m) (hb' : b' < m) (e : a * m + b = a' * m + b') : a = a' ∧ b = b' := by
  have d1 : (a * m + b) / m = a := by rw [Nat.mul_comm, Nat.mul_add_div (by omega), Nat.div_eq_of_lt hb]; rfl
  have d2 : (a' * m + b') / m = a' := by rw [Nat.mul_comm, Nat.mul_add_div (by omega), Nat.div_eq_of_lt hb']; rfl
  rw [e, d2] at d1
  subst d1
  exact ⟨rfl, by omega⟩
theorem TurnP.start (h wd : Nat) (cells : List UInt8) : TurnP h wd cells 0 0 (List.replicate (wd * h) 0) :=
  ⟨by simp, fun a b ha hb => by rw [List.getElem?_replicate_of_lt (idx_lt hb ha), if_neg (by omega)]⟩
theorem TurnP.put {h wd : Nat} {cells : List UInt8} {i j : Nat} {L : List UInt8} {x : UInt8} (t : TurnP h wd cells i j L) (hi : i < h) (hj : j < wd) (hx : cells[i * wd + j]? = some x) : TurnP h wd cells i (j + 1) (L.set (j * h + i) x) := by
  refine ⟨by rw [List.length_set]; exact t.len, fun a b ha hb => ?_⟩
  rw [List.getElem?_set]
  by_cases e : j * h + i = b * h + a
  · obtain ⟨rfl, rfl⟩ := idx_inj hi ha e
    rw [if_pos rfl, if_pos (by rw [t.len]; exact idx_lt hj hi), if_pos (.inr ⟨rfl, by omega⟩)]
    simp [List.getD_eq_getElem?_getD, hx]
  · rw [if_neg e, t.at_ a b ha hb]
    by_cases h1 : a < i ∨ (a = i ∧ b < j)
    · rw [if_pos h1, if_pos (by omega)]
    · rw [if_neg h1, if_neg (fun h2 => by
        rcases h2 with h2 | ⟨rfl, h2⟩
        · exact h1 (.inl h2)
        · have : b = j := by omega
          subst this; exact e rfl)]
theorem TurnP.next {h wd : Nat} {cells : List UInt8} {i : Nat} {L : List UInt8} (t : TurnP h wd cells i wd L) : TurnP h wd cells (i + 1) 0 L :=
  ⟨t.len, fun a b ha hb => by
    rw [t.at_ a b ha hb]
    by_cases h1 : a < i ∨ (a = i ∧ b < wd)
    · rw [if_pos h1, if_pos (by omega)]
    · rw [if_neg h1, if_neg (by omega)]⟩
/-- a grid's columns -/
def turnR (h wd : Nat) (cells : List UInt8) : List (List UInt8) := (List.range wd).map fun b => (List.range h).map fun a => cells.getD (a * wd + b) 0
theorem TurnP.rows {h wd : Nat} {cells : List UInt8} {L : List UInt8} (t : TurnP h wd cells h 0 L) : (List.range wd).map (rowF h L) = turnR h wd cells := by
  unfold turnR
  refine List.map_congr_left (fun b hb => ?_)
  have hb' := List.mem_range.1 hb
  apply List.ext_getElem?
  intro a
  unfold rowF
  by_cases ha : a < h
  · rw [List.getElem?_take, if_pos ha, List.getElem?_drop, t.at_ a b ha hb', if_pos (.inl ha), List.getElem?_map, List.getElem?_range ha]; rfl
  · rw [List.getElem?_take, if_neg ha, List.getElem?_eq_none (by simp; omega)]
end Go.Proofs.YtcfdopiponlboaaGreatDoor
namespace Go.Proofs.YtcfdopiponlboaaGreatDoor
open Go.RowKit Go.By
set_option maxRecDepth 100000 in
set_option maxHeartbeats 2000000 in
theorem GOf_good (wd : Nat) (p : Option Addr) (m c : Nat) (xss : List (List UInt8)) (w : World) (h : Sl2 w p m c xss) (h1 : wd ≤ 65536) (h2 : m ≤ 65536) (h3 : m * wd ≤ 65536) (hall : xss.all (fun y => decide (y.length = wd)) = true) :
    Calls Tryz.prog 25 #[.int .i64 wd, .slice p m c] w (RetG2 5 w m wd xss.flatten 0) := by
  have hinfo := info_grid
  obtain ⟨k, hk⟩ : ∃ k, k = m * wd := ⟨_, rfl⟩
  have wm : IntKind.i64.wrap ((m : Int) * (wd : Int)) = ((k : Nat) : Int) := by rw [hk, ← Int.natCast_mul]; exact Go.IntWalk.i64_in _ (by omega)
  have hfl : xss.flatten.length = m * wd := by
    have : ∀ l : List (List UInt8), (∀ x, x ∈ l → x.length = wd) → l.flatten.length = l.length * wd := by
      intro l
      induction l with
      | nil => simp
      | cons x l ih => intro hx; rw [List.flatten_cons, List.length_append, ih (fun y hy => hx y (by simp [hy])), hx x (by simp), List.length_cons, Nat.add_mul]; omega
    rw [this xss (fun x hx => by simpa using List.all_eq_true.1 hall x hx), h.len]
  have hmb := h.bound
  obtain ⟨vs, hvs, hvv⟩ := h.vals
  have hax := any_vals (n := wd) (hvs.len.trans h.len.symm) hvv
  rw [hall] at hax
  rw [← hk] at h3 hfl
  have H := Lib.hid h; have HV := Lib.hid hvs; have HVV := Lib.hid hvv; have HA := Lib.hid hax
  have HR : Hid (Room xss.flatten.length) := by show Room _; unfold Room; omega
  have HFL := Lib.hid hfl; have HK := Lib.hid hk
  have HB : Hid (∀ o1 o2, Below w.heap.size w ((w.alloc o1).alloc o2)) := fun o1 o2 => al (al (Below.refl _ _) (Nat.le_refl _)) (by simp)
  have hX0 : ∀ o2, ((w.alloc (.cells #[.int .i64 wd] 3)).alloc o2).heap[w.heap.size]? = some (.cells #[.int .i64 wd] 3 (0, 0)) := fun o2 => hal (hnew rfl)
  have HX0 := Lib.hid hX0
  have HX1 : Hid (∀ o1, ((w.alloc o1).alloc (.cells #[.int .i64 0, .int .i64 0, .slice none 0 0] 79)).heap[w.heap.size + 1]? = some (.cells #[.int .i64 0, .int .i64 0, .slice none 0 0] 79 (0, 0))) := fun o1 => hnew (by simp)
  clear h hvs hvv hax hfl hk hX0 hall
  go_enter Tryz.func25, Tryz.ntmps25
  go_wp2_with fail
  refine (ContainsFuncBB_any id (lenNe wd) 63 _ enters_of1 p m c vs _ (HV.out.keep (HB.out _ _)) ?_).mono ?_
  · intro v hv
    obtain ⟨i, hi, e⟩ := List.getElem_of_mem hv
    obtain ⟨xs, q, c', hx, rfl, hs⟩ := HVV.out i v (by rw [List.getElem?_eq_getElem hi, e])
    exact Of1_any q _ c' _ wd _ (cell_of_row _ _ 0 _ _ _ (HX0.out _))
  rintro e w' ⟨rfl, rfl⟩
  rw [HA.out]
  go_wp2_with fail
  go_region_with (go_at_call 65; refine (Concat_any p m c xss _ (H.out.keep (HB.out _ _).drew) HR.out).mono ?_; rintro e w2 ⟨q, m', c', hm, rfl, ho, hb2⟩; have E0 := Lib.hid ((hb2.block _ (by simp; omega)).trans (HX0.out _)); have E1 := Lib.hid ((hb2.block _ (by simp)).trans (HX1.out _)); have c0 := cell_of_row _ _ 0 _ _ _ E0.out; obtain ⟨f0, f1, f2⟩ := cells3 E1.out; have g0 := frozen_of_row _ _ 0 _ _ E1.out; have g1 := frozen_of_row _ _ 1 _ _ E1.out; have g2 := frozen_of_row _ _ 2 _ _ E1.out; have HO := Lib.hid ho; have HB2 := Lib.hid hb2; clear ho hb2)
  all_goals
    go_wp2
    refine bodyPost_ret (results_cell_tmp rfl _ _ _ 79 #[.int .i64 m, .int .i64 wd, .slice q m' c'] (0, 0) _ (.int .i64 0) rfl (hss (hss (hss E1.out))) rfl Tryz.underlying79 rfl hinfo) rfl ⟨q, m', c', by rw [← hm.out, HFL.out, HK.out], rfl, ?_, (((bl (HB.out _ _).drew HB2.out (by simp; omega)).setCell (by simp) _).setCell (by simp) _).setCell (by simp) _⟩
    exact owns_mono (owns_set (owns_set (owns_set HO.out (by simp)) (by simp)) (by simp)) (by simp; omega)
set_option maxRecDepth 100000 in
set_option maxHeartbeats 2000000 in
theorem GOf_uneven (wd : Nat) (p : Option Addr) (m c : Nat) (xss : List (List UInt8)) (w : World) (h : Sl2 w p m c xss) (h1 : wd ≤ 65536) (h2 : m ≤ 65536) (h3 : m * wd ≤ 65536) (hall : xss.all (fun y => decide (y.length = wd)) = false) :
    Calls Tryz.prog 25 #[.int .i64 wd, .slice p m c] w (RetG2 5 w 0 0 [] 4) := by
  have hinfo := info_grid
  obtain ⟨k, hk⟩ : ∃ k, k = m * wd := ⟨_, rfl⟩
  have wm : IntKind.i64.wrap ((m : Int) * (wd : Int)) = ((k : Nat) : Int) := by rw [hk, ← Int.natCast_mul]; exact Go.IntWalk.i64_in _ (by omega)
  have hmb := h.bound
  obtain ⟨vs, hvs, hvv⟩ := h.vals
  have hax := any_vals (n := wd) (hvs.len.trans h.len.symm) hvv
  rw [hall] at hax
  rw [← hk] at h3
  have HV := Lib.hid hvs; have HVV := Lib.hid hvv; have HA := Lib.hid hax
  have HB : Hid (∀ o1 o2, Below w.heap.size w ((w.alloc o1).alloc o2)) := fun o1 o2 => al (al (Below.refl _ _) (Nat.le_refl _)) (by simp)
  have hX0 : ∀ o2, ((w.alloc (.cells #[.int .i64 wd] 3)).alloc o2).heap[w.heap.size]? = some (.cells #[.int .i64 wd] 3 (0, 0)) := fun o2 => hal (hnew rfl)
  have HX0 := Lib.hid hX0
  have HX1 : Hid (∀ o1, ((w.alloc o1).alloc (.cells #[.int .i64 0, .int .i64 0, .slice none 0 0] 79)).heap[w.heap.size + 1]? = some (.cells #[.int .i64 0, .int .i64 0, .slice none 0 0] 79 (0, 0))) := fun o1 => hnew (by simp)
  clear h hvs hvv hax hk hX0 hall
  go_enter Tryz.func25, Tryz.ntmps25
  go_wp2_with fail
  refine (ContainsFuncBB_any id (lenNe wd) 63 _ enters_of1 p m c vs _ (HV.out.keep (HB.out _ _)) ?_).mono ?_
  · intro v hv
    obtain ⟨i, hi, e⟩ := List.getElem_of_mem hv
    obtain ⟨xs, q, c', hx, rfl, hs⟩ := HVV.out i v (by rw [List.getElem?_eq_getElem hi, e])
    exact Of1_any q _ c' _ wd _ (cell_of_row _ _ 0 _ _ _ (HX0.out _))
  rintro e w' ⟨rfl, rfl⟩
  rw [HA.out]
  go_wp2
  refine bodyPost_ret (results_cell_tmp rfl _ _ _ 79 #[.int .i64 0, .int .i64 0, .slice none 0 0] (0, 0) _ (.int .i64 4) rfl (HX1.out _) rfl Tryz.underlying79 rfl hinfo) rfl (RetG2.zero (HB.out _ _))
end Go.Proofs.YtcfdopiponlboaaGreatDoor
namespace Go.By
open Go.RowKit
theorem results_cell_tmp2 {P : Program} {fn : Func} {p u u2 : Tmp} {ty : TypeId} (h : fn.results = #[.cell p ty, .tmp u, .tmp u2]) (tmps : Array Value) (w : World) (g : Nat) (t : TypeId) (cs : Array Value) (fr : Nat × Nat) (d : TypeDesc) (v v2 : Value)
    (hp : tmps.getD p undef = .pointer (some ⟨g, 0, none⟩)) (hg : w.heap[g]? = some (.cells cs t fr)) (hv : tmps.getD u undef = v) (hv2 : tmps.getD u2 undef = v2)
    (hu : P.underlying ty = some d) (hd : (match d with | .struct _ | .array _ _ => true | _ => false) = true) (hi : (P.info? ty).map (·.size) = some cs.size) :
    (results fn tmps).run P w = .ok (.tuple #[.agg cs, v, v2]) w := by
  have hp' : tmps[p]?.getD undef = .pointer (some ⟨g, 0, none⟩) := by simpa using hp
  have hv' : tmps[u]?.getD undef = v := by simpa using hv
  have hv2' : tmps[u2]?.getD undef = v2 := by simpa using hv2
  simp [results, h, hp', hv', hv2', asAddr, run_loadVar_row w g t ty cs fr d hg hu hd hi]
theorem heap_of_owns {w : World} {base E g n : Nat} {L : List Value} (h : w.ownsRow base E 1 (.slice (some ⟨g, 0, none⟩) n n) n L) : w.heap[g]? = some (.cells L.toArray E (0, 0)) := by
  rcases h.2 with ⟨h1, _⟩ | ⟨g', cap, cur, hv, _, hh, _, _, hs, ht⟩
  · cases h1
  · cases hv
    rw [hh]
    have : cur = L.toArray := by
      rw [← ht, List.take_of_length_le (by simp [hs])]
    rw [this]
/-- a block known whole is owned -/
theorem owns_of_heap {w : World} {base E g n : Nat} {L : List Value} (hg : base ≤ g) (hh : w.heap[g]? = some (.cells L.toArray E (0, 0))) (hl : L.length = n) (hm : n ≤ maxLen) : w.ownsRow base E 1 (.slice (some ⟨g, 0, none⟩) n n) n L :=
  ⟨by rw [Nat.mul_one]; exact hl, .inr ⟨g, n, L.toArray, rfl, hg, hh, Nat.le_refl _, hm, by simp [hl], by rw [Nat.mul_one, List.take_of_length_le (by simp [hl])]⟩⟩
end Go.By
namespace Go.Proofs.YtcfdopiponlboaaGreatDoor
open Go.RowKit Go.By
/-- the first bytes of a row, with noughts behind -/
def fitR (wd : Nat) (r : List UInt8) : List UInt8 := r.take wd ++ List.replicate (wd - r.length) 0
theorem fitR_len (wd : Nat) (r : List UInt8) : (fitR wd r).length = wd := by unfold fitR; rw [List.length_append, List.length_take, List.length_replicate]; omega
theorem splice_fit (wd : Nat) (r : List UInt8) : splice (List.replicate wd (B8 0)) 0 ((r.take wd).map B8) = (fitR wd r).map B8 := by
  unfold splice fitR
  rw [List.take_zero, List.nil_append, Nat.zero_add, List.drop_replicate, List.length_map, List.length_take, List.map_append, List.map_replicate]
  congr 2
  omega
/-- what Made gives -/
def RetM (w : World) (m wd : Nat) (R : List (List UInt8)) (e : Ending) (w' : World) : Prop :=
  ∃ q n c q2 c2, n = m * wd ∧ e = .returned (.tuple #[.agg #[.int .i64 m, .int .i64 wd, .slice q n c], .slice q2 m c2, .int .i64 wd]) ∧ w'.ownsRow w.heap.size 5 1 (.slice q n c) n (R.flatten.map B8) ∧
    Own2 36 5 w' w.heap.size (.slice q2 m c2) m R ∧ Below w.heap.size w w'
end Go.Proofs.YtcfdopiponlboaaGreatDoor
namespace Go.By
open Go.RowKit
theorem grownBy_setRow (w : World) (g : Nat) (cs : Array Value) : w.grownBy (w.setRow g cs) (some g) :=
  ⟨rfl, rfl, rfl, by simp [World.setRow], fun b _ hne => by
    simp only [World.setRow, Array.getElem?_modify]
    rw [if_neg (fun e => hne (by rw [e]))]⟩
theorem take_splice {α : Type} (cur cs : List α) (off n : Nat) (h1 : off + cs.length ≤ n) (h2 : n ≤ cur.length) : (cur.take off ++ (cs ++ cur.drop (off + cs.length))).take n = (cur.take n).take off ++ (cs ++ (cur.take n).drop (off + cs.length)) := by
  have l1 : (cur.take off).length = off := by rw [List.length_take]; omega
  rw [List.take_append, l1, List.take_of_length_le (by omega), List.take_take, Nat.min_eq_left (by omega)]
  congr 1
  rw [List.take_append, List.take_of_length_le (by omega)]
  congr 1
  rw [List.drop_take]
  congr 1
  omega
theorem owns_splice {w : World} {base E g n cap off : Nat} {L cs : List Value} (h : w.ownsRow base E 1 (.slice (some ⟨g, 0, none⟩) n cap) n L) (hfit : off + cs.length ≤ n) :
    ∃ cur : Array Value, w.heap[g]? = some (.cells cur E (0, 0)) ∧ off + cs.length ≤ cur.size ∧ (w.setRow g (cur.toList.take off ++ (cs ++ cur.toList.drop (off + cs.length))).toArray).ownsRow base E 1 (.slice (some ⟨g, 0, none⟩) n cap) n (L.take off ++ (cs ++ L.drop (off + cs.length))) := by
  rcases h.2 with ⟨h1, _⟩ | ⟨g', cap', cur, hv, hb, hh, hle, hm, hs, ht⟩
  · cases h1
  · cases hv
    have hsz : cur.toList.length = cap := by simpa using hs
    have hL := h.1
    refine ⟨cur, hh, by simp at hsz; omega, ?_, .inr ⟨g, cap, _, rfl, hb, hrs hh, hle, hm, ?_, ?_⟩⟩
    · simp only [List.length_append, List.length_take, List.length_drop]; omega
    · simp only [List.size_toArray, List.length_append, List.length_take, List.length_drop]; omega
    · rw [Nat.mul_one] at ht ⊢
      rw [List.toList_toArray, take_splice _ _ _ _ hfit (by omega), ht]
end Go.By
namespace Go.Proofs.YtcfdopiponlboaaGreatDoor
open Go.RowKit Go.By
theorem rowF_len2 {h wd i : Nat} {cells : List UInt8} (hl : cells.length = h * wd) (hi : i < h) : (rowF wd cells i).length = wd := by
  have : (i + 1) * wd ≤ h * wd := Nat.mul_le_mul_right _ hi
  rw [Nat.add_mul, Nat.one_mul] at this
  unfold rowF; rw [List.length_take, List.length_drop]; omega
def mulR (w2 : Nat) (R2 : List (List UInt8)) (r : List UInt8) : List UInt8 := combF (List.replicate w2 0) r R2
theorem mulR_len {w2 : Nat} {R2 : List (List UInt8)} (h : ∀ x, x ∈ R2 → x.length = w2) (r : List UInt8) : (mulR w2 R2 r).length = w2 := combF_len r R2 w2 h _ (by simp)
theorem comb_ok {w2 : Nat} {R2 : List (List UInt8)} {r : List UInt8} (h : ∀ x, x ∈ R2 → x.length = w2) (hl : r.length = R2.length) : combS r R2 = (if R2 = [] then [] else mulR w2 R2 r, 0) := by
  unfold combS
  rw [if_pos hl]
  cases R2 with
  | nil =>
    have : r = [] := List.length_eq_zero_iff.1 (by simpa using hl)
    subst this
    simp [noughtS, combF]
  | cons x l =>
    have hx := h x (by simp)
    have e : noughtS (x :: l) = (List.replicate w2 0, 0) := noughtS_of (x0 := x) rfl hx h
    rw [e, if_pos rfl, if_neg (by simp)]
    rfl
/-- the product's cells behind so many rows -/
def mulC (w2 h1 : Nat) (R2 R1 : List (List UInt8)) (k : Nat) : List UInt8 := ((R1.take k).map (mulR w2 R2)).flatten ++ List.replicate ((h1 - k) * w2) 0
theorem mul_flat_len {w2 : Nat} {R2 : List (List UInt8)} (h : ∀ x, x ∈ R2 → x.length = w2) : ∀ l : List (List UInt8), ((l.map (mulR w2 R2)).flatten).length = l.length * w2
  | [] => by simp
  | x :: l => by
    rw [List.map_cons, List.flatten_cons, List.length_append, mulR_len h, mul_flat_len h l, List.length_cons, Nat.add_mul]; omega
theorem mulC_len {w2 h1 k : Nat} {R2 R1 : List (List UInt8)} (h : ∀ x, x ∈ R2 → x.length = w2) (h1l : R1.length = h1) (hk : k ≤ h1) : (mulC w2 h1 R2 R1 k).length = h1 * w2 := by
  unfold mulC
  rw [List.length_append, mul_flat_len h, List.length_replicate, List.length_take, h1l, Nat.min_eq_left hk, ← Nat.add_mul]
  congr 1; omega
theorem mulC_step {w2 h1 k : Nat} {R2 R1 : List (List UInt8)} {r : List UInt8} (h : ∀ x, x ∈ R2 → x.length = w2) (h1l : R1.length = h1) (hk : k < h1) (hr : R1[k]? = some r) :
    (mulC w2 h1 R2 R1 k).take (k * w2) ++ (mulR w2 R2 r ++ (mulC w2 h1 R2 R1 k).drop (k * w2 + w2)) = mulC w2 h1 R2 R1 (k + 1) := by
  have hl : (((R1.take k).map (mulR w2 R2)).flatten).length = k * w2 := by rw [mul_flat_len h, List.length_take, h1l, Nat.min_eq_left (by omega)]
  unfold mulC
  rw [← hl, List.take_left, ← List.drop_drop, List.drop_left, List.drop_replicate]
  rw [List.take_add_one, hr, List.map_append, List.flatten_append]
  simp only [Option.toList_some, List.map_cons, List.map_nil, List.flatten_cons, List.flatten_nil, List.append_nil, List.append_assoc]
  congr 3
  have : (h1 - k) * w2 = (h1 - (k + 1)) * w2 + w2 := by rw [← Nat.succ_mul]; congr 1; omega
  omega
theorem mulC_skip {w2 h1 k : Nat} {R2 R1 : List (List UInt8)} {r : List UInt8} (h2 : R2 = []) (hk : k < h1) (h1l : R1.length = h1) (hr : R1[k]? = some r) : mulC w2 h1 R2 R1 k = mulC w2 h1 R2 R1 (k + 1) := by
  subst h2
  have e : mulR w2 [] r = List.replicate w2 0 := by unfold mulR combF; simp
  unfold mulC
  rw [List.take_add_one, hr, List.map_append, List.flatten_append]
  simp only [Option.toList_some, List.map_cons, List.map_nil, List.flatten_cons, List.flatten_nil, List.append_nil, List.append_assoc]
  rw [e, List.replicate_append_replicate]
  congr 2
  have : (h1 - k) * w2 = (h1 - (k + 1)) * w2 + w2 := by rw [← Nat.succ_mul]; congr 1; omega
  omega
theorem mulC_zero (h1 k : Nat) (R2 R1 : List (List UInt8)) (h : ∀ x, x ∈ R2 → x.length = 0) (h1l : R1.length = h1) (hk : k ≤ h1) : mulC 0 h1 R2 R1 k = [] := List.length_eq_zero_iff.1 (by rw [mulC_len h h1l hk, Nat.mul_zero])
theorem own2_setRow {T2 T1 base n g : Nat} {W : World} {v : Value} {xss : List (List UInt8)} {cs : Array Value} (h : Own2 T2 T1 W base v n xss) (hg : g < base) : Own2 T2 T1 (W.setRow g cs) base v n xss := by
  obtain ⟨vs, oA, lA, rA⟩ := h
  have key : ∀ {e : TypeId} {u : Value} {m : Nat} {L : List Value}, W.ownsRow base e 1 u m L → (W.setRow g cs).ownsRow base e 1 u m L := fun o => owns_kept o (grownBy_setRow W g cs) (fun k hk e => by
    have := (o.lt k hk).1; injection e with e; omega)
  exact ⟨vs, key oA, lA, fun j val hj => by obtain ⟨xs, q, c', a, b, d⟩ := rA j val hj; exact ⟨xs, q, c', a, b, key d⟩⟩
end Go.Proofs.YtcfdopiponlboaaGreatDoor
namespace Go.By
open Go.RowKit
def InvV (ops : Array Oper) (val : Nat → Value) (i : Nat) (σ : Nat → Value) : Prop := match dstOf ops i with
  | some d => σ d = val i
  | none => True
/-- of an operation: what it gives, ahead of the store and behind it -/
def StepV (P : Program) (ops : Array Oper) (a0 : Act) (W0 W1 : World) (os : Oper) (s : Nat) (val : Nat → Value) (i : Nat) (o : Oper) : Prop :=
  ∀ (a : Act), a.tmps.size = a0.tmps.size → (∀ k, k ∈ preds o → InvV ops val k (sl a)) → (∀ t, initAt ops i t = true → sl a t = sl a0 t) →
    ((preds o).contains s = false → (execOp a.eval o).run P W0 = .ok (.value (val i)) W0) ∧ ((preds os).contains i = false → (execOp a.eval o).run P W1 = .ok (.value (val i)) W1)
def EachV (P : Program) (ops : Array Oper) (a0 : Act) (W0 W1 : World) (os : Oper) (s : Nat) (val : Nat → Value) : List Oper → Nat → Prop
  | [], _ => True
  | o :: rest, i => (i = s ∨ StepV P ops a0 W0 W1 os s val i o) ∧ EachV P ops a0 W0 W1 os s val rest (i + 1)
theorem EachV.get {P : Program} {ops : Array Oper} {a0 : Act} {W0 W1 : World} {os : Oper} {s : Nat} {val : Nat → Value} : ∀ (l : List Oper) (k : Nat), EachV P ops a0 W0 W1 os s val l k → ∀ j o, l[j]? = some o → k + j = s ∨ StepV P ops a0 W0 W1 os s val (k + j) o := by
  intro l
  induction l with
  | nil => intro k _ j o h; simp at h
  | cons x l ih =>
    intro k h j o hj
    cases j with
    | zero => simp at hj; subst hj; exact h.1
    | succ j =>
      have := ih (k + 1) h.2 j o (by simpa using hj)
      rwa [show k + 1 + j = k + (j + 1) by omega] at this
/-- m: the last operation, which waits for all others; s: the other store -/
def twoB (ops : Array Oper) (n m s : Nat) : Bool := decide (ops.size = m + 1) && decide (s < m) && (match ops[m]? with
  | some o => o.guard.isNone && o.dst.isNone && (List.range m).all fun i => (preds o).contains i
  | none => false) && (List.range m).all fun i => match ops[i]? with
  | some o => o.guard.isNone && match o.dst with
    | some d => decide (d < n) && i != s
    | none => i == s
  | none => false
theorem getD_tf {listed : Array Bool} {i : Nat} (h : listed.getD i true = false) : listed.getD i false ≠ true ∧ i < listed.size := by
  rcases Nat.lt_or_ge i listed.size with h' | h'
  · refine ⟨fun hx => ?_, h'⟩
    simp [Array.getD_eq_getD_getElem?, h'] at h hx; rw [h] at hx; cases hx
  · simp [Array.getD_eq_getD_getElem?, Array.getElem?_eq_none h'] at h
theorem getD_ft {listed : Array Bool} {j : Nat} (h : listed.getD j false = true) : listed.getD j true = true := by
  rcases Nat.lt_or_ge j listed.size with h' | h'
  · simp [Array.getD_eq_getD_getElem?, h'] at h ⊢; exact h
  · simp [Array.getD_eq_getD_getElem?, Array.getElem?_eq_none h'] at h
theorem wp_region_two {P : Program} {ops : Array Oper} {Q : Exit → Act → World → Prop} {id : Nat} {a0 : Act} {w0 : World} (val : Nat → Value) (n m s : Nat) (W1 : World) (hn : a0.tmps.size = n) (hm : P.follows .mixedOrders = true) (hback : backB ops = true) (hdist : distB ops = true)
    (htwo : twoB ops n m s = true) (os : Oper) (hos : ops[s]? = some os)
    (each : EachV P ops a0 w0.drew W1 os s val (ops.toList.take m) 0)
    (st : ∀ a, a.tmps.size = a0.tmps.size → (∀ k, k ∈ preds os → InvV ops val k (sl a)) → (execOp a.eval os).run P w0.drew = .ok .skip W1)
    (fin : ∀ a o, ops[m]? = some o → a.tmps.size = a0.tmps.size → a.defers = a0.defers → (∀ j, j < m → InvV ops val j (sl a)) → (∀ t, (ops.toList.all fun o => o.dst != some t) = true → sl a t = sl a0 t) → o.wp P a W1 (fun a' w' => Q .normal a' w') Q) :
    (Code.region id ops true).wp P Q a0 w0 := by
  unfold twoB at htwo
  rw [Bool.and_eq_true, Bool.and_eq_true, Bool.and_eq_true] at htwo
  have hsz : ops.size = m + 1 := of_decide_eq_true htwo.1.1.1
  have hsm : s < m := of_decide_eq_true htwo.1.1.2
  have hm' : m < ops.size := by omega
  obtain ⟨ol, hol⟩ : ∃ ol, ops[m]? = some ol := ⟨_, Array.getElem?_eq_getElem hm'⟩
  have hl2 := htwo.1.2
  rw [hol] at hl2
  simp only [Bool.and_eq_true] at hl2
  have hguard : ol.guard = none := by cases hg : ol.guard <;> simp [hg] at hl2 ⊢
  have hpl : ∀ i, i < m → i ∈ preds ol := fun i hi => by
    have := List.all_eq_true.1 hl2.2 i (List.mem_range.2 hi)
    simpa using this
  have hall2 := htwo.2
  have hops : ∀ i o, i < m → ops[i]? = some o → o.guard = none ∧ ((i = s ∧ o.dst = none) ∨ (i ≠ s ∧ ∃ d, o.dst = some d ∧ d < n)) := fun i o hi ho => by
    have := List.all_eq_true.1 hall2 i (List.mem_range.2 hi)
    rw [ho] at this
    simp only [Bool.and_eq_true] at this
    refine ⟨by cases hg : o.guard <;> simp [hg] at this ⊢, ?_⟩
    cases hd : o.dst with
    | none => have h2 := this.2; rw [hd] at h2; exact .inl ⟨by simpa using h2, rfl⟩
    | some d => have h2 := this.2; rw [hd] at h2; simp at h2; exact .inr ⟨h2.2, d, rfl, h2.1⟩
  have hgs := (hops s os hsm hos).1
  have hds : os.dst = none := by
    rcases (hops s os hsm hos).2 with h | h
    · exact h.2
    · exact absurd rfl h.1
  have stepAt : ∀ i o, i < m → i ≠ s → ops[i]? = some o → StepV P ops a0 w0.drew W1 os s val i o := fun i o hi hne ho => by
    have := EachV.get _ 0 each i o (by rw [List.getElem?_take, if_pos hi]; simpa using ho)
    rw [Nat.zero_add] at this
    exact this.resolve_left hne
  have stable : ∀ i j oi oj (σ σ' : Nat → Value), i ≠ j → ops[i]? = some oi → ops[j]? = some oj → InvV ops val j σ → (∀ t, oi.dst ≠ some t → σ' t = σ t) → InvV ops val j σ' := by
    intro i j oi oj σ σ' hij hoi hoj hI hσ
    unfold InvV at hI ⊢
    cases hdj : dstOf ops j with
    | none => trivial
    | some d =>
      rw [hdj] at hI
      show σ' d = val j
      have hne : oi.dst ≠ some d := by
        intro e
        have hi' : i < ops.size := (Array.getElem?_eq_some_iff.1 hoi).1
        have hj' : j < ops.size := (Array.getElem?_eq_some_iff.1 hoj).1
        have := List.all_eq_true.1 (List.all_eq_true.1 hdist i (List.mem_range.2 hi')) j (List.mem_range.2 hj')
        rw [hoi, hoj] at this
        have hdj' : oj.dst = some d := by simpa [dstOf, hoj] using hdj
        simp [e, hdj', hij] at this
      rw [hσ d hne]; exact hI
  refine wp_region_any hm ?_
  show wpAny P .any ops Q ops.size (Array.replicate ops.size false) a0 w0.drew
  have main : ∀ (fuel : Nat) (listed : Array Bool) (a : Act) (w : World), unl ops.size listed ≤ fuel → listed.getD m true = false → (w = if listed.getD s false = true then W1 else w0.drew) → a.tmps.size = a0.tmps.size → a.defers = a0.defers →
      (∀ j o, listed.getD j false = true → ops[j]? = some o → ∀ k, k ∈ preds o → listed.getD k false = true) →
      (∀ j, j < ops.size → listed.getD j true = true → listed.getD j false = true) →
      (∀ j, j < m → listed.getD j false = true → InvV ops val j (sl a)) →
      (∀ t, (∀ j o, j < m → listed.getD j false = true → ops[j]? = some o → o.dst ≠ some t) → sl a t = sl a0 t) → wpAny P .any ops Q fuel listed a w := by
    intro fuel
    induction fuel with
    | zero =>
      intro listed a w hu hlm
      exfalso
      have h0 : unl ops.size listed = 0 := by omega
      unfold unl at h0
      have := List.countP_eq_zero.1 h0 m (List.mem_range.2 hm')
      simp [hlm] at this
    | succ fuel ih =>
      intro listed a w hu hlm hw hs hd hcl hlt hI ht
      refine ⟨fun hr => ?_, fun i hi => ?_⟩
      · exfalso
        have hall : ∀ k j, j < k → j < ops.size → listed.getD j false = true := by
          intro k
          induction k with
          | zero => intro j hj; omega
          | succ k ihk =>
            intro j hj hjs
            refine hlt j hjs ?_
            cases hb : listed.getD j true with
            | true => rfl
            | false =>
              exfalso
              have ho : ops[j]? = some ops[j] := Array.getElem?_eq_getElem hjs
              have : j ∈ Region.ready .any ops listed := mem_ready.2 ⟨hjs, hb, _, ho, fun q hq => by
                have hbk := List.all_eq_true.1 hback j (List.mem_range.2 hjs)
                rw [ho] at hbk
                have hkj := of_decide_eq_true (List.all_eq_true.1 hbk q hq)
                exact ihk q (by omega) (by omega)⟩
              rw [hr] at this; cases this
        exact (getD_tf hlm).1 (hall (m + 1) m (by omega) hm')
      · obtain ⟨h1, h2, o, ho, h3⟩ := mem_ready.1 hi
        obtain ⟨hnl, his⟩ := getD_tf h2
        have gset : ∀ j (d : Bool), (listed.setIfInBounds i true).getD j d = if i = j then true else listed.getD j d := by
          intro j d
          simp only [Array.getD_eq_getD_getElem?, Array.getElem?_setIfInBounds]
          by_cases e : i = j
          · subst e; simp [his]
          · simp [e]
        by_cases him : i = m
        · subst him
          rw [hol] at ho; cases ho
          have hsl : listed.getD s false = true := h3 s (hpl s hsm)
          rw [if_pos hsl] at hw; subst hw
          have hf := fin a ol hol hs hd (fun j hj => hI j hj (h3 j (hpl j hj))) (fun t htt => ht t (fun j oj hj _ hoj => by
            have := List.all_eq_true.1 htt oj (by rw [Array.mem_toList_iff]; exact Array.mem_of_getElem? hoj)
            simpa using this))
          unfold wpOp
          rw [hol]
          show if Region.wanted ol (yielded ops a.tmps) = true then _ else _
          rw [if_pos (by simp [Region.wanted, hguard])]
          refine .inl (Oper.wp_mono (fun a' w' hq => wpAny_done _ (fun j hj => ?_) hq) hf)
          rw [gset]
          by_cases e2 : i = j
          · rw [if_pos e2]
          · rw [if_neg e2]; exact getD_ft (h3 j (hpl j (by omega)))
        · have him' : i < m := by omega
          have hpk : ∀ k, k ∈ preds o → InvV ops val k (sl a) := fun k hk => hI k (by
              have hbk := List.all_eq_true.1 hback i (List.mem_range.2 h1)
              rw [ho] at hbk
              have := of_decide_eq_true (List.all_eq_true.1 hbk k hk); omega) (h3 k hk)
          have next : ∀ (v : Value) (w' : World), (w' = if (listed.setIfInBounds i true).getD s false = true then W1 else w0.drew) → InvV ops val i (sl (a.put o.dst v)) → wpAny P .any ops Q fuel (listed.setIfInBounds i true) (a.put o.dst v) w' := by
            intro v w' hw' hIi
            refine ih _ _ _ (by have := unl_set (n := ops.size) h1 h2; omega) (by rw [gset, if_neg him]; exact hlm) hw' ((put_size _ _ _).trans hs) ((put_defers _ _ _).trans hd) ?_ ?_ ?_ ?_
            · intro j oj hj hoj k hk
              rw [gset] at hj ⊢
              by_cases e : i = k
              · rw [if_pos e]
              · rw [if_neg e]
                by_cases e' : i = j
                · subst e'; rw [ho] at hoj; cases hoj; exact h3 k hk
                · rw [if_neg e'] at hj; exact hcl j oj hj hoj k hk
            · intro j hj hl
              rw [gset] at hl ⊢
              by_cases e : i = j
              · rw [if_pos e]
              · rw [if_neg e] at hl ⊢; exact hlt j hj hl
            · intro j hj hl
              rw [gset] at hl
              by_cases e : i = j
              · subst e; exact hIi
              · rw [if_neg e] at hl
                have hoj : ops[j]? = some ops[j] := Array.getElem?_eq_getElem (by omega)
                exact stable i j o _ (sl a) _ e ho hoj (hI j hj hl) (fun t h => put_sl _ _ _ _ h)
            · intro t htt
              have hdt : o.dst ≠ some t := htt i o him' (by rw [gset, if_pos rfl]) ho
              rw [put_sl _ _ _ _ hdt]
              exact ht t (fun j oj hj hl hoj => htt j oj hj (by rw [gset]; split <;> simp [hl]) hoj)
          unfold wpOp
          rw [ho]
          show if Region.wanted o (yielded ops a.tmps) = true then _ else _
          rw [if_pos (by simp [Region.wanted, (hops i o him' ho).1])]
          left
          by_cases his2 : i = s
          · subst his2
            rw [hos] at ho; cases ho
            rw [if_neg hnl] at hw; subst hw
            have nx := next undef W1 (by rw [gset, if_pos rfl, if_pos rfl]) (by unfold InvV dstOf; rw [hos]; simp [hds])
            exact wp_skipX (st a hs hpk) nx
          · obtain ⟨g1, g2⟩ := stepAt i o him' his2 ho a hs hpk (fun t hti => by
              refine ht t (fun j oj hj hlj hoj hdj => ?_)
              have := List.all_eq_true.1 hti j (List.mem_range.2 (by omega))
              rw [hoj] at this
              by_cases e : j = i
              · subst e; exact hnl hlj
              · simp [e, hdj] at this
                exact hnl (hcl j oj hlj hoj i this))
            obtain ⟨d, hdd, hdn⟩ : ∃ d, o.dst = some d ∧ d < n := by
              rcases (hops i o him' ho).2 with h | h
              · exact absurd h.1 his2
              · exact h.2
            have hIi : InvV ops val i (sl (a.put o.dst (val i))) := by
              unfold InvV dstOf
              rw [ho]
              simp only [Option.bind_some, hdd]
              exact put_same _ _ _ (by rw [hs, hn]; exact hdn)
            have hw2 : w = if (listed.setIfInBounds i true).getD s false = true then W1 else w0.drew := by
              rw [gset, if_neg his2]; exact hw
            cases hsl : listed.getD s false with
            | true =>
              rw [hsl, if_pos rfl] at hw
              have hns : (preds os).contains i = false := by
                cases hc : (preds os).contains i with
                | false => rfl
                | true => exact absurd (hcl s os hsl hos i (by simpa using hc)) hnl
              refine wp_val (val i) ?_ (next _ _ hw2 hIi)
              rw [hw]; exact g2 hns
            | false =>
              rw [hsl, if_neg (by simp)] at hw
              have hns : (preds o).contains s = false := by
                cases hc : (preds o).contains s with
                | false => rfl
                | true => have := h3 s (by simpa using hc); rw [hsl] at this; cases this
              refine wp_val (val i) ?_ (next _ _ hw2 hIi)
              rw [hw]; exact g1 hns
  refine main ops.size _ a0 w0.drew ?_ ?_ ?_ rfl rfl ?_ ?_ ?_ ?_
  · unfold unl; exact Nat.le_trans List.countP_le_length (by simp)
  · simp [Array.getD_eq_getD_getElem?, Array.getElem?_replicate, hm']
  · simp [Array.getD_eq_getD_getElem?, Array.getElem?_replicate, show s < ops.size by omega]
  · intro j o hj; simp [Array.getD_eq_getD_getElem?, Array.getElem?_replicate] at hj
    split at hj <;> simp at hj
  · intro j hj hl; simp [Array.getD_eq_getD_getElem?, Array.getElem?_replicate, hj] at hl
  · intro j hj hl; simp [Array.getD_eq_getD_getElem?, Array.getElem?_replicate, show j < ops.size by omega] at hl
  · intro t _; rfl
theorem run_mv {P : Program} {a : Act} {o : Oper} {t : Nat} {u : Value} {W : World} (hop : o.op = .move (.tmp t)) (h : sl a t = u) : (execOp a.eval o).run P W = .ok (.value u) W := by
  subst h; unfold execOp; rw [hop]; rfl
theorem drew_below (w : World) : Below w.heap.size w w.drew := ⟨rfl, rfl, rfl, Nat.le_refl _, fun _ _ => rfl⟩
end Go.By
namespace Go.Proofs.YtcfdopiponlboaaGreatDoor
open Go.RowKit Go.By
/-- a system: its block, what is in it, its rows, in memory from a base on -/
structure Elm (w : World) (base be k t : Nat) (v : Value) (n : Nat) (K : List Rw) : Prop where
  box : w.heap[be]? = some (.cells #[.int .i64 k, .int .i64 t, v] 140 (0, 0))
  rows : RwL 47 5 w base v n K
  old : base ≤ be
theorem Elm.keep {w w' : World} {base be k t n : Nat} {v : Value} {K : List Rw} (h : Elm w base be k t v n K) (hb : Below w.heap.size w w') : Elm w' base be k t v n K :=
  ⟨(hb.block _ (blk_lt h.box)).trans h.box, h.rows.keep hb, h.old⟩
theorem New_bad (k t : Int) (w : World) (h : k < 1 ∨ 4096 < k ∨ t < 0 ∨ 65535 < t) : Calls Tryz.prog 50 #[.int .i64 k, .int .i64 t] w fun e w' => e = .returned (.tuple #[.pointer none, .int .i64 2]) ∧ w = w' := by
  by_cases h1 : k < 1
  · go_enter Tryz.func50, Tryz.ntmps50
    go_wp2
    go_ret2
    exact ⟨rfl, rfl⟩
  by_cases h2 : 4096 < k
  · go_enter Tryz.func50, Tryz.ntmps50
    go_wp2
    go_ret2
    exact ⟨rfl, rfl⟩
  by_cases h3 : t < 0
  · go_enter Tryz.func50, Tryz.ntmps50
    go_wp2
    go_ret2
    exact ⟨rfl, rfl⟩
  have h4 : 65535 < t := by omega
  go_enter Tryz.func50, Tryz.ntmps50
  go_wp2
  go_ret2
  exact ⟨rfl, rfl⟩
theorem New_good (k t : Nat) (w : World) (h1 : 1 ≤ k) (h2 : k ≤ 4096) (h3 : t ≤ 65535) : Calls Tryz.prog 50 #[.int .i64 k, .int .i64 t] w fun e w' => ∃ be, e = .returned (.tuple #[.pointer (some ⟨be, 0, none⟩), .int .i64 0]) ∧ Elm w' w.heap.size be k t (.slice none 0 0) 0 [] ∧ Below w.heap.size w w' := by
  have a1 : ¬ ((k : Int) < 1) := by omega
  have a2 : ¬ (4096 < (k : Int)) := by omega
  have a3 : ¬ ((t : Int) < 0) := by omega
  have a4 : ¬ (65535 < (t : Int)) := by omega
  clear h1 h2 h3
  go_enter Tryz.func50, Tryz.ntmps50
  go_wp2
  go_ret2
  exact ⟨w.heap.size, rfl, ⟨hnew rfl, RwL.nil _ _ _ _, Nat.le_refl _⟩, al (Below.refl _ _) (Nat.le_refl _)⟩
theorem Rank_any' (base be k t n : Nat) (v : Value) (K : List Rw) (w : World) (h : Elm w base be k t v n K) : Calls Tryz.prog 34 #[.pointer (some ⟨be, 0, none⟩)] w fun e w' => e = .returned (.int .i64 n) ∧ w = w' := by
  obtain ⟨f0, f1, f2⟩ := cells3 h.box
  obtain ⟨q, c, rfl⟩ := h.rows.shape
  clear h
  go_enter Tryz.func34, Tryz.ntmps34
  go_wp2
  go_ret
  exact ⟨rfl, rfl⟩
end Go.Proofs.YtcfdopiponlboaaGreatDoor
namespace Go.Proofs.YtcfdopiponlboaaGreatDoor
open Go.RowKit Go.By
/-- are these equations gone through? -/
def few8 (m : Nat) (L : List Rw) : Bool := L.all (fun x => decide (x.1.length ≤ 20) && decide (x.2.length ≤ 20)) && decide (m ≤ 30)
/-- the rows that the document keeps of equations -/
def kD (D : List Rw) : List Rw := D.foldl insF []
theorem kD_snoc (D : List Rw) (r : Rw) : kD (D ++ [r]) = insF (kD D) r := by unfold kD; rw [List.foldl_append]; rfl
theorem kD_take {D : List Rw} {k : Nat} {r : Rw} (h : D[k]? = some r) : kD (D.take (k + 1)) = insF (kD (D.take k)) r := by
  have e : D.take (k + 1) = D.take k ++ [r] := by rw [List.take_add_one, h]; rfl
  rw [e, kD_snoc]
theorem kD_len (D : List Rw) : ∀ k, (kD (D.take k)).length ≤ k
  | 0 => by simp [kD]
  | k + 1 => by
    by_cases h : k < D.length
    · rw [kD_take (List.getElem?_eq_getElem h)]; exact Nat.le_trans (insF_len _ _) (Nat.succ_le_succ (kD_len D k))
    · have e : D.take (k + 1) = D.take k := by rw [List.take_of_length_le (by omega), List.take_of_length_le (by omega)]
      rw [e]; exact Nat.le_succ_of_le (kD_len D k)
theorem kD_kept {wd t : Nat} {D : List Rw} (hl : ∀ r, r ∈ D → Fit wd t r) : ∀ k, KeptS wd t (kD (D.take k))
  | 0 => by simpa [kD] using KeptS.nil wd t
  | k + 1 => by
    by_cases h : k < D.length
    · rw [kD_take (List.getElem?_eq_getElem h)]; exact (kD_kept hl k).step (hl _ (List.getElem_mem h))
    · have e : D.take (k + 1) = D.take k := by rw [List.take_of_length_le (by omega), List.take_of_length_le (by omega)]
      rw [e]; exact kD_kept hl k
theorem insF_same {K : List Rw} {x : Rw} (h : (insF K x).length = K.length) : insF K x = K := by
  by_cases e : leadS (restF K x).1 < 0
  · unfold insF; rw [norm_leadS, if_pos e]
  · have hp := (ins_perm K x).length_eq
    unfold keepF at hp; rw [if_neg e] at hp; simp at hp; omega
theorem listF_BI {n t : Nat} {K : List Rw} (h : KeptS n t K) : ∃ L : Nat → Nat, (∀ a b, a < b → b < K.length → L a < L b) ∧ BI n t K.length L (K.map vR) (listF K) 0 0 := by
  have hat : ∀ a, a < K.length → listF K a ∈ K := fun a ha => by
    have : listF K a = K[a] := by simp [listF, ha]
    rw [this]; exact List.getElem_mem ha
  refine ⟨fun a => leadN (listF K a), fun a b hab hb => ?_, fun a ha => ⟨(h.rows _ (hat a ha)).1, (h.rows _ (hat a ha)).2.at⟩, fun a ha => by omega, fun b hb => by omega, fun a ha => Gf.Sp.mem (List.mem_map.2 ⟨_, hat a ha, rfl⟩), fun v hv => ?_⟩
  · have e1 : listF K a = K[a] := by simp [listF, show a < K.length by omega]
    have e2 : listF K b = K[b] := by simp [listF, hb]
    show leadN (listF K a) < leadN (listF K b)
    rw [e1, e2]; exact List.pairwise_iff_getElem.1 h.sorted a b (by omega) hb hab
  · have e : ((List.range K.length).map fun a => vR (listF K a)) = K.map vR := by
      conv => rhs; rw [← listF_map K]
      rw [List.map_map]; rfl
    rw [e]; exact Gf.Sp.mem hv
/-- rows in one block, of which the first n are told -/
def RowOff2 (w : World) (g : Nat) (u v : Value) (r : Rw) : Prop := ∃ q1 m1 c1 q2 m2 c2, u = .slice q1 m1 c1 ∧ v = .slice q2 m2 c2 ∧ Sl B8 w q1 m1 c1 r.1 ∧ Sl B8 w q2 m2 c2 r.2 ∧ (0 < m1 → ∀ a, q1 = some a → a.block ≠ g) ∧ (0 < m2 → ∀ a, q2 = some a → a.block ≠ g)
theorem RowOff2.keep {w w' : World} {g : Nat} {u v : Value} {r : Rw} (h : RowOff2 w g u v r) (hb : Below w.heap.size w w') : RowOff2 w' g u v r := by
  obtain ⟨q1, m1, c1, q2, m2, c2, h1, h2, h3, h4, h5, h6⟩ := h
  exact ⟨q1, m1, c1, q2, m2, c2, h1, h2, h3.keep hb, h4.keep hb, h5, h6⟩
theorem RowOff2.set {w : World} {g o : Nat} {u v x : Value} {r : Rw} (h : RowOff2 w g u v r) : RowOff2 (w.setCell ⟨g, o, none⟩ x) g u v r := by
  obtain ⟨q1, m1, c1, q2, m2, c2, h1, h2, h3, h4, h5, h6⟩ := h
  exact ⟨q1, m1, c1, q2, m2, c2, h1, h2, h3.set2 h5, h4.set2 h6, h5, h6⟩
def RMemC (w : World) (g T n c : Nat) (F : Nat → Rw) : Prop := ∃ cs : Array Value, w.heap[g]? = some (.cells cs T (0, 0)) ∧ cs.size = c * 2 ∧ n ≤ c ∧ ∀ i, i < n → ∃ u v, cs[i * 2]? = some u ∧ cs[i * 2 + 1]? = some v ∧ RowOff2 w g u v (F i)
theorem RMemC.keep {w w' : World} {g T n c : Nat} {F : Nat → Rw} (h : RMemC w g T n c F) (hb : Below w.heap.size w w') : RMemC w' g T n c F := by
  obtain ⟨cs, h1, h2, hn, h3⟩ := h
  refine ⟨cs, (hb.block _ (blk_lt h1)).trans h1, h2, hn, fun i hi => ?_⟩
  obtain ⟨u, v, a, b, c⟩ := h3 i hi
  exact ⟨u, v, a, b, c.keep hb⟩
theorem RMemC.set {w : World} {g T n c i : Nat} {F : Nat → Rw} {u v : Value} {r : Rw} (h : RMemC w g T n c F) (hi : i < n) (hr : RowOff2 w g u v r) : RMemC ((w.setCell ⟨g, i * 2, none⟩ u).setCell ⟨g, i * 2 + 1, none⟩ v) g T n c (updF F i r) := by
  obtain ⟨cs, h1, h2, hn, h3⟩ := h
  refine ⟨_, hss (hss h1), by simp [h2], hn, fun k hk => ?_⟩
  by_cases hki : k = i
  · subst hki
    refine ⟨u, v, ?_, ?_, by rw [updF_same]; exact hr.set.set⟩
    · simp [Array.getElem?_setIfInBounds]; omega
    · simp [Array.getElem?_setIfInBounds]; omega
  · obtain ⟨a, b, e1, e2, e3⟩ := h3 k hk
    refine ⟨a, b, ?_, ?_, by rw [updF_ne _ _ hki]; exact e3.set.set⟩
    · rw [Array.getElem?_setIfInBounds, if_neg (by omega), Array.getElem?_setIfInBounds, if_neg (by omega)]; exact e1
    · rw [Array.getElem?_setIfInBounds, if_neg (by omega), Array.getElem?_setIfInBounds, if_neg (by omega)]; exact e2
theorem RMemC.at {w : World} {g T n c i : Nat} {F : Nat → Rw} (h : RMemC w g T n c F) (hi : i < n) : ∃ q1 m1 c1 q2 m2 c2, w.cell? ⟨g, i * 2, none⟩ = some (.slice q1 m1 c1) ∧ w.cell? ⟨g, i * 2 + 1, none⟩ = some (.slice q2 m2 c2) ∧ w.frozen? ⟨g, i * 2, none⟩ = false ∧ w.frozen? ⟨g, i * 2 + 1, none⟩ = false ∧
    Sl B8 w q1 m1 c1 (F i).1 ∧ Sl B8 w q2 m2 c2 (F i).2 ∧ (0 < m1 → ∀ a, q1 = some a → a.block ≠ g) ∧ (0 < m2 → ∀ a, q2 = some a → a.block ≠ g) := by
  obtain ⟨cs, h1, h2, hn, h3⟩ := h
  obtain ⟨u, v, a, b, q1, m1, c1, q2, m2, c2, rfl, rfl, g1, g2, g3, g4⟩ := h3 i hi
  exact ⟨q1, m1, c1, q2, m2, c2, (cell_of_row _ _ _ _ _ _ h1).trans a, (cell_of_row _ _ _ _ _ _ h1).trans b, frozen_of_row _ _ _ _ _ h1, frozen_of_row _ _ _ _ _ h1, g1, g2, g3, g4⟩
/-- .. or there are none -/
def RMemV (w : World) (base T : Nat) (q : Option Addr) (n c : Nat) (F : Nat → Rw) : Prop := n = 0 ∨ ∃ g, q = some ⟨g, 0, none⟩ ∧ base ≤ g ∧ RMemC w g T n c F
theorem RwN.keep {W w w' : World} {T n c : Nat} {q : Option Addr} {K : List Rw} (h : RwN W w T q n c K) (hb : Below w.heap.size w w') : RwN W w' T q n c K := by
  obtain ⟨h1, h2, vs, h3, h4⟩ := h
  exact ⟨bl h1 hb h1.size, h2, vs, owns_keep h3 hb, h4⟩
theorem RMemV.of {w : World} {base T n c : Nat} {q : Option Addr} {K : List Rw} (h : n = 0 ∨ ∃ W : World, base ≤ W.heap.size ∧ RwN W w T q n c K) : RMemV w base T q n c (listF K) := by
  rcases h with h | ⟨W, hW, hb, hl, vs, ho, hv⟩
  · exact .inl h
  · rcases ho.2 with ⟨e1, e2⟩ | ⟨g, cap, cur, e1, hg, hh, hle, hm, hs, ht⟩
    · exact .inl e2
    · cases e1
      refine .inr ⟨g, rfl, Nat.le_trans hW hg, cur, hh, hs, hle, fun i hi => ?_⟩
      have hk : K[i]? = some (listF K i) := by
        rw [List.getElem?_eq_getElem (by omega)]
        simp [listF, show i < K.length by omega]
      obtain ⟨u, hu, q1, m1, c1, q2, m2, c2, rfl, s1, s2⟩ := hv i _ hk
      obtain ⟨g1, g2⟩ := fl2_at hu
      have far : ∀ {q' : Option Addr} {m' c' : Nat} {xs : List UInt8}, Sl B8 W q' m' c' xs → 0 < m' → ∀ a, q' = some a → a.block ≠ g := fun {q' m' c' xs} hs h0 a ha => by
        obtain ⟨b, o, hp, hlt⟩ := hs.rs.lt (by rw [hs.len]; exact h0)
        rw [ha] at hp; cases hp
        show b ≠ g; omega
      have hvl : vs.length = n := by have := ho.1; rw [fl2_length] at this; omega
      refine ⟨.slice q1 m1 c1, .slice q2 m2 c2, ?_, ?_, q1, m1, c1, q2, m2, c2, rfl, rfl, s1.keep hb, s2.keep hb, far s1, far s2⟩
      · rw [← ht, List.getElem?_take] at g1
        split at g1
        · simpa using g1
        · cases g1
      · rw [← ht, List.getElem?_take] at g2
        split at g2
        · simpa using g2
        · cases g2
theorem RMemV.rwS {w : World} {base T n c : Nat} {q : Option Addr} {F : Nat → Rw} (h : RMemV w base T q n c F) (h1 : n ≤ c) (h2 : c ≤ maxLen) (h3 : q = none → n = 0 ∧ c = 0) : RwS w q n c ((List.range n).map F) := by
  refine ⟨by simp, h1, h2, h3, fun j k hj => ?_⟩
  obtain ⟨hjn, e⟩ := List.getElem?_eq_some_iff.1 hj
  rw [List.length_map, List.length_range] at hjn
  simp at e
  subst e
  rcases h with h | ⟨g, rfl, -, hM⟩
  · omega
  · obtain ⟨q1, m1, c1, q2, m2, c2, a, b, -, -, s1, s2, -, -⟩ := hM.at hjn
    exact ⟨g, 0, q1, m1, c1, q2, m2, c2, rfl, by rw [Nat.zero_add]; exact a, by rw [Nat.zero_add]; exact b, s1, s2⟩
end Go.Proofs.YtcfdopiponlboaaGreatDoor
namespace Go.By
open Go.RowKit
def XNew (B : Nat) (p : Option Addr) (n : Nat) : Prop := 0 < n → ∀ a, p = some a → B ≤ a.block
def XRowB (B X : Nat) (r : List UInt8 × List UInt8) (v : Value) (w : World) : Prop := ∃ p1 n1 c1 p2 n2 c2, v = .agg #[.slice p1 n1 c1, .slice p2 n2 c2] ∧ ((Sl B8 w p1 n1 c1 r.1 ∧ Away B X w p1 n1) ∧ (Sl B8 w p2 n2 c2 r.2 ∧ Away B X w p2 n2)) ∧ XNew B p1 n1 ∧ XNew B p2 n2
theorem XRowB.keep {B X : Nat} {r : List UInt8 × List UInt8} {v : Value} {w w' : World} (h : XRowB B X r v w) (hb : Below w.heap.size w w') : XRowB B X r v w' := by
  obtain ⟨p1, n1, c1, p2, n2, c2, e, ⟨⟨h1, k1⟩, ⟨h2, k2⟩⟩, h3⟩ := h
  exact ⟨p1, n1, c1, p2, n2, c2, e, ⟨⟨h1.keep hb, k1.keep h1 hb⟩, ⟨h2.keep hb, k2.keep h2 hb⟩⟩, h3⟩
theorem XRowB.step {B X : Nat} {r : List UInt8 × List UInt8} {v : Value} {w w' : World} (h : XRowB B X r v w) (hb : StepX B X w w') : XRowB B X r v w' := by
  obtain ⟨p1, n1, c1, p2, n2, c2, e, ⟨⟨h1, k1⟩, ⟨h2, k2⟩⟩, h3⟩ := h
  exact ⟨p1, n1, c1, p2, n2, c2, e, ⟨⟨(k1.step h1 hb).2, (k1.step h1 hb).1⟩, ⟨(k2.step h2 hb).2, (k2.step h2 hb).1⟩⟩, h3⟩
def XRowTB (B X : Nat) (r : List UInt8 × List UInt8) (code : Int) (v : Value) (w : World) : Prop := ∃ u, v = .tuple #[u, .int .i64 code] ∧ XRowB B X r u w
def ShX.rowB (B X : Nat) (r : List UInt8 × List UInt8) : ShX B X := ⟨XRowB B X r, fun _ _ _ h hb => h.keep hb, fun _ _ _ h hb => h.step hb⟩
def ShX.rowTB (B X : Nat) (r : List UInt8 × List UInt8) (code : Int) : ShX B X := ⟨XRowTB B X r code, fun _ _ _ ⟨u, e, h⟩ hb => ⟨u, e, h.keep hb⟩, fun _ _ _ ⟨u, e, h⟩ hb => ⟨u, e, h.step hb⟩⟩
theorem XRowB.of_owns {B X base e : Nat} {w : World} {r : List UInt8 × List UInt8} {q1 q2 : Option Addr} {m1 k1 m2 k2 : Nat} (he : e ≠ X) (h1 : w.ownsRow base e 1 (.slice q1 m1 k1) m1 (r.1.map B8)) (h2 : w.ownsRow base e 1 (.slice q2 m2 k2) m2 (r.2.map B8)) (hb : B ≤ base) :
    XRowB B X r (.agg #[.slice q1 m1 k1, .slice q2 m2 k2]) w := by
  refine ⟨q1, m1, k1, q2, m2, k2, rfl, ⟨⟨Sl.of_owns h1, Away.own h1 he⟩, ⟨Sl.of_owns h2, Away.own h2 he⟩⟩, fun h0 a ha => ?_, fun h0 a ha => ?_⟩
  · obtain ⟨g, e, h, -⟩ := owns_at h1 h0
    rw [e] at ha; cases ha; exact Nat.le_trans hb h
  · obtain ⟨g, e, h, -⟩ := owns_at h2 h0
    rw [e] at ha; cases ha; exact Nat.le_trans hb h
end Go.By
namespace Go.Proofs.YtcfdopiponlboaaGreatDoor
open Go.RowKit Go.By
/-- rows in memory, as many as they are, their array new -/
def RetKN (w : World) (K : List Rw) (e : Ending) (w' : World) : Prop := ∃ q n c, n = K.length ∧ e = .returned (.slice q n c) ∧ RwS w' q n c K ∧ Below w.heap.size w w' ∧ (n = 0 ∨ ∃ g, q = some ⟨g, 0, none⟩ ∧ w.heap.size ≤ g)
end Go.Proofs.YtcfdopiponlboaaGreatDoor
namespace Go.By
open Go.RowKit
/-- a store into a block of two slices leaves rows elsewhere -/
theorem RwS.set {w : World} {p p1 p2 : Option Addr} {n c g o T n1 c1 n2 c2 : Nat} {fr : Nat × Nat} {v : Value} {K : List (List UInt8 × List UInt8)} (h : RwS w p n c K) (hp : 0 < n → ∀ a, p = some a → a.block ≠ g) (hg : w.heap[g]? = some (.cells #[.slice p1 n1 c1, .slice p2 n2 c2] T fr)) :
    RwS (w.setCell ⟨g, o, none⟩ v) p n c K := by
  refine ⟨h.len, h.le, h.max, h.nil, fun j k hj => ?_⟩
  have hjn : 0 < n := by have := (List.getElem?_eq_some_iff.1 hj).1; have := h.len; omega
  obtain ⟨b, o', q1, m1, d1, q2, m2, d2, e, h1, h2, h3, h4⟩ := h.row j k hj
  have hb : b ≠ g := hp hjn ⟨b, o', none⟩ e
  exact ⟨b, o', q1, m1, d1, q2, m2, d2, e, (World.cell?_of_block (a := ⟨b, o' + j * 2, none⟩) (Below.heap_setCell _ _ _ _ hb)).trans h1, (World.cell?_of_block (a := ⟨b, o' + j * 2 + 1, none⟩) (Below.heap_setCell _ _ _ _ hb)).trans h2,
    h3.set2 (fun h0 => h3.away hg h0), h4.set2 (fun h0 => h4.away hg h0)⟩
end Go.By
namespace Go.Proofs.YtcfdopiponlboaaGreatDoor
open Go.RowKit Go.By
end Go.Proofs.YtcfdopiponlboaaGreatDoor
namespace Go.Proofs.YtcfdopiponlboaaGreatDoor
open Go.RowKit Go.By
theorem less_zero {n t : Nat} {x k : Rw} (hx : Fit n t x) (hk : Fit n t k) : lessF x 0 k = x := by
  unfold lessF
  rw [axpy_zero_of rfl (by rw [hk.1, hx.1]), axpy_zero_of rfl (by rw [hk.2, hx.2])]
set_option maxRecDepth 100000 in
set_option maxHeartbeats 4000000 in
theorem ERest_any (base be k t n : Nat) (v : Value) (K : List Rw) (p1 p2 : Option Addr) (c1 c2 : Nat) (x : Rw) (w : World) (hE : Elm w base be k t v n K) (s1 : Sl B8 w p1 k c1 x.1) (s2 : Sl B8 w p2 t c2 x.2) (hK : ∀ r, r ∈ K → Fit k t r ∧ Led r) (hk : k ≤ 4096) (ht : t ≤ 65535) :
    Calls Tryz.prog 72 #[.pointer (some ⟨be, 0, none⟩), .agg #[.slice p1 k c1, .slice p2 t c2]] w (RetR2 5 w (restF K x) 0) := by
  have hinfo := info_row
  obtain ⟨q, c, rfl⟩ := hE.rows.shape
  have HE := Lib.hid hE; have S1 := Lib.hid s1; have S2 := Lib.hid s2; have HK := Lib.hid hK; have HLEN := Lib.hid hE.rows.len
  have HX : Hid (Fit k t x) := ⟨s1.len, s2.len⟩
  have hnb : n ≤ 9223372036854775807 := by
    obtain ⟨vs, a, b, o, r⟩ := hE.rows
    rcases o.2 with ⟨hv, hn⟩ | ⟨g, cap, cur, hv, _, _, h1, h2, _⟩
    · simp at hv; omega
    · unfold maxLen at h2; omega
  clear hE s1 s2 hK
  go_enter Tryz.func72, Tryz.ntmps72
  go_wp2
  have b0 : Below w.heap.size w ((w.alloc (.cells #[.slice p1 k c1, .slice p2 t c2] 47)).alloc (.cells #[.slice none 0 0, .slice none 0 0] 47)) := al (al (Below.refl _ _) (Nat.le_refl _)) (by simp)
  have x0 : ((w.alloc (.cells #[.slice p1 k c1, .slice p2 t c2] 47)).alloc (.cells #[.slice none 0 0, .slice none 0 0] 47)).heap[w.heap.size]? = some (.cells #[.slice p1 k c1, .slice p2 t c2] 47 (0, 0)) := hal (hnew rfl)
  have z0 : ((w.alloc (.cells #[.slice p1 k c1, .slice p2 t c2] 47)).alloc (.cells #[.slice none 0 0, .slice none 0 0] 47)).heap[w.heap.size + 1]? = some (.cells #[.slice none 0 0, .slice none 0 0] 47 (0, 0)) := hnew (by simp)
  generalize (w.alloc (.cells #[.slice p1 k c1, .slice p2 t c2] 47)).alloc (.cells #[.slice none 0 0, .slice none 0 0] 47) = w2 at b0 x0 z0 ⊢
  have B2 := Lib.hid b0; have X2 := Lib.hid x0; have Z2 := Lib.hid z0
  clear b0 x0 z0
  have E2 := Lib.hid (HE.out.keep B2.out)
  obtain ⟨f0, f1, f2⟩ := cells3 E2.out.box
  obtain ⟨y0, y1⟩ := cells2 X2.out
  refine wp_region_shapes (fun ix => ([.val (.pointer (some ⟨w.heap.size, 0, none⟩)), .val (.slice p1 k c1), .val (.int .i64 (k : Nat)), .val (.pointer (some ⟨be, 0, none⟩)), .val (.pointer (some ⟨be, 0, none⟩)), .val (.pointer (some ⟨be, 0, none⟩)), .val (.int .i64 k), .val (.bool false), .val (.bool false), .val (.pointer (some ⟨w.heap.size, 1, none⟩)), .val (.slice p2 t c2), .val (.int .i64 (t : Nat)), .val (.pointer (some ⟨be, 0, none⟩)), .val (.pointer (some ⟨be, 0, none⟩)), .val (.pointer (some ⟨be, 1, none⟩)), .val (.int .i64 t), .val (.bool false), .val (.bool false)][ix]?).getD (.any)) 60 rfl (by kernel_rfl) (by decide) (by decide) (by decide) ?_ ?_
  · refine ⟨?_, ?_, ?_, ?_, ?_, ?_, ?_, ?_, ?_, ?_, ?_, ?_, ?_, ?_, ?_, ?_, ?_, ?_, trivial⟩
    · intro a W hb0 hs hp hi; have hb := undrew hb0; clear hb0
      have t3 : sl a 3 = .pointer (some ⟨w.heap.size, 0, none⟩) := hi 3 (by decide)
      refine ite_y rfl (wp_val (.pointer (some ⟨w.heap.size, 0, none⟩)) ?_ ?_)
      · simp only [execOp, eval_tmp, eval_const, t3]; simp [go_sem]
      · exact ⟨_, rfl, Below.refl _ _, rfl⟩
    · intro a W hb0 hs hp hi; have hb := undrew hb0; clear hb0
      have tt : sl a 13 = .pointer (some ⟨w.heap.size, 0, none⟩) := hp 0 (by decide)
      have dd := (hb.cell (p := ⟨w.heap.size, 0, none⟩) (lt_of_cell y0)).trans y0
      refine ite_y rfl (wp_val (.slice p1 k c1) ?_ ?_)
      · simp only [execOp, eval_tmp, tt]; simp [go_sem, dd]
      · exact ⟨_, rfl, Below.refl _ _, rfl⟩
    · intro a W hb0 hs hp hi; have hb := undrew hb0; clear hb0
      have t14 : sl a 14 = .slice p1 k c1 := hp 1 (by decide)
      refine ite_y rfl (wp_val (.int .i64 (k : Nat)) ?_ ?_)
      · simp only [execOp, resolve, List.map_toArray, List.map, eval_tmp, eval_func, eval_const, t14]; simp [go_sem]
      · exact ⟨_, rfl, Below.refl _ _, rfl⟩
    · intro a W hb0 hs hp hi; have hb := undrew hb0; clear hb0
      have t0 : sl a 0 = .pointer (some ⟨be, 0, none⟩) := hi 0 (by decide)
      exact ite_y rfl (wp_val (sl a 0) rfl ⟨_, rfl, Below.refl _ _, t0⟩)
    · intro a W hb0 hs hp hi; have hb := undrew hb0; clear hb0
      have tt : sl a 16 = .pointer (some ⟨be, 0, none⟩) := hp 3 (by decide)
      refine ite_y rfl (wp_val (.pointer (some ⟨be, 0, none⟩)) ?_ ?_)
      · simp only [execOp, eval_tmp, tt]; simp [go_sem]
      · exact ⟨_, rfl, Below.refl _ _, rfl⟩
    · intro a W hb0 hs hp hi; have hb := undrew hb0; clear hb0
      have t17 : sl a 17 = .pointer (some ⟨be, 0, none⟩) := hp 4 (by decide)
      refine ite_y rfl (wp_val (.pointer (some ⟨be, 0, none⟩)) ?_ ?_)
      · simp only [execOp, eval_tmp, eval_const, t17]; simp [go_sem]
      · exact ⟨_, rfl, Below.refl _ _, rfl⟩
    · intro a W hb0 hs hp hi; have hb := undrew hb0; clear hb0
      have tt : sl a 18 = .pointer (some ⟨be, 0, none⟩) := hp 5 (by decide)
      have dd := (hb.cell (p := ⟨be, 0, none⟩) (lt_of_cell f0)).trans f0
      refine ite_y rfl (wp_val (.int .i64 k) ?_ ?_)
      · simp only [execOp, eval_tmp, tt]; simp [go_sem, dd]
      · exact ⟨_, rfl, Below.refl _ _, rfl⟩
    · intro a W hb0 hs hp hi; have hb := undrew hb0; clear hb0
      have t15 : sl a 15 = .int .i64 (k : Nat) := hp 2 (by decide)
      have t19 : sl a 19 = .int .i64 k := hp 6 (by decide)
      refine ite_y rfl (wp_val (.bool false) ?_ ?_)
      · simp only [execOp, eval_tmp, eval_const, t15, t19]; simp [go_sem]
      · exact ⟨_, rfl, Below.refl _ _, rfl⟩
    · intro a W hb0 hs hp hi; have hb := undrew hb0; clear hb0
      have t20 : sl a 20 = .bool false := hp 7 (by decide)
      exact ite_y rfl (wp_val (sl a 20) rfl ⟨_, rfl, Below.refl _ _, t20⟩)
    · intro a W hb0 hs hp hi; have hb := undrew hb0; clear hb0
      have tg : sl a 21 = .bool false := hp 8 (by decide)
      have t3 : sl a 3 = .pointer (some ⟨w.heap.size, 0, none⟩) := hi 3 (by decide)
      refine ite_y (wanted_yes rfl rfl (by have hz : a.tmps.size = 60 := hs; rw [hz]; decide) tg) (wp_val (.pointer (some ⟨w.heap.size, 1, none⟩)) ?_ ?_)
      · simp only [execOp, eval_tmp, eval_const, t3]; simp [go_sem]
      · exact ⟨_, rfl, Below.refl _ _, rfl⟩
    · intro a W hb0 hs hp hi; have hb := undrew hb0; clear hb0
      have tg : sl a 21 = .bool false := hp 8 (by decide)
      have tt : sl a 22 = .pointer (some ⟨w.heap.size, 1, none⟩) := hp 9 (by decide)
      have dd := (hb.cell (p := ⟨w.heap.size, 1, none⟩) (lt_of_cell y1)).trans y1
      refine ite_y (wanted_yes rfl rfl (by have hz : a.tmps.size = 60 := hs; rw [hz]; decide) tg) (wp_val (.slice p2 t c2) ?_ ?_)
      · simp only [execOp, eval_tmp, tt]; simp [go_sem, dd]
      · exact ⟨_, rfl, Below.refl _ _, rfl⟩
    · intro a W hb0 hs hp hi; have hb := undrew hb0; clear hb0
      have tg : sl a 21 = .bool false := hp 8 (by decide)
      have t23 : sl a 23 = .slice p2 t c2 := hp 10 (by decide)
      refine ite_y (wanted_yes rfl rfl (by have hz : a.tmps.size = 60 := hs; rw [hz]; decide) tg) (wp_val (.int .i64 (t : Nat)) ?_ ?_)
      · simp only [execOp, resolve, List.map_toArray, List.map, eval_tmp, eval_func, eval_const, t23]; simp [go_sem]
      · exact ⟨_, rfl, Below.refl _ _, rfl⟩
    · intro a W hb0 hs hp hi; have hb := undrew hb0; clear hb0
      have tg : sl a 21 = .bool false := hp 8 (by decide)
      have t0 : sl a 0 = .pointer (some ⟨be, 0, none⟩) := hi 0 (by decide)
      exact ite_y (wanted_yes rfl rfl (by have hz : a.tmps.size = 60 := hs; rw [hz]; decide) tg) (wp_val (sl a 0) rfl ⟨_, rfl, Below.refl _ _, t0⟩)
    · intro a W hb0 hs hp hi; have hb := undrew hb0; clear hb0
      have tg : sl a 21 = .bool false := hp 8 (by decide)
      have tt : sl a 25 = .pointer (some ⟨be, 0, none⟩) := hp 12 (by decide)
      refine ite_y (wanted_yes rfl rfl (by have hz : a.tmps.size = 60 := hs; rw [hz]; decide) tg) (wp_val (.pointer (some ⟨be, 0, none⟩)) ?_ ?_)
      · simp only [execOp, eval_tmp, tt]; simp [go_sem]
      · exact ⟨_, rfl, Below.refl _ _, rfl⟩
    · intro a W hb0 hs hp hi; have hb := undrew hb0; clear hb0
      have tg : sl a 21 = .bool false := hp 8 (by decide)
      have t26 : sl a 26 = .pointer (some ⟨be, 0, none⟩) := hp 13 (by decide)
      refine ite_y (wanted_yes rfl rfl (by have hz : a.tmps.size = 60 := hs; rw [hz]; decide) tg) (wp_val (.pointer (some ⟨be, 1, none⟩)) ?_ ?_)
      · simp only [execOp, eval_tmp, eval_const, t26]; simp [go_sem]
      · exact ⟨_, rfl, Below.refl _ _, rfl⟩
    · intro a W hb0 hs hp hi; have hb := undrew hb0; clear hb0
      have tg : sl a 21 = .bool false := hp 8 (by decide)
      have tt : sl a 27 = .pointer (some ⟨be, 1, none⟩) := hp 14 (by decide)
      have dd := (hb.cell (p := ⟨be, 1, none⟩) (lt_of_cell f1)).trans f1
      refine ite_y (wanted_yes rfl rfl (by have hz : a.tmps.size = 60 := hs; rw [hz]; decide) tg) (wp_val (.int .i64 t) ?_ ?_)
      · simp only [execOp, eval_tmp, tt]; simp [go_sem, dd]
      · exact ⟨_, rfl, Below.refl _ _, rfl⟩
    · intro a W hb0 hs hp hi; have hb := undrew hb0; clear hb0
      have tg : sl a 21 = .bool false := hp 8 (by decide)
      have t24 : sl a 24 = .int .i64 (t : Nat) := hp 11 (by decide)
      have t28 : sl a 28 = .int .i64 t := hp 15 (by decide)
      refine ite_y (wanted_yes rfl rfl (by have hz : a.tmps.size = 60 := hs; rw [hz]; decide) tg) (wp_val (.bool false) ?_ ?_)
      · simp only [execOp, eval_tmp, eval_const, t24, t28]; simp [go_sem]
      · exact ⟨_, rfl, Below.refl _ _, rfl⟩
    · intro a W hb0 hs hp hi; have hb := undrew hb0; clear hb0
      have t21 : sl a 21 = .bool false := hp 8 (by decide)
      have t29 : sl a 29 = .bool false := hp 16 (by decide)
      refine ite_y rfl (wp_val (.bool false) ?_ ?_)
      · simp only [execOp, eval_tmp, eval_const, t21, t29]; simp [go_sem]
      · exact ⟨_, rfl, Below.refl _ _, rfl⟩
  intro a w3 hb hs hd hI ht
  have ha := act_is [13, 14, 15, 16, 17, 18, 19, 20, 21, 22, 23, 24, 25, 26, 27, 28, 29, 30] hs hd ht (by decide)
  have t30 : sl a 30 = .bool false := hI 17 (by decide)
  simp only [List.foldl, t30] at ha
  generalize sl a 13 = u13 at ha
  generalize sl a 14 = u14 at ha
  generalize sl a 15 = u15 at ha
  generalize sl a 16 = u16 at ha
  generalize sl a 17 = u17 at ha
  generalize sl a 18 = u18 at ha
  generalize sl a 19 = u19 at ha
  generalize sl a 20 = u20 at ha
  generalize sl a 21 = u21 at ha
  generalize sl a 22 = u22 at ha
  generalize sl a 23 = u23 at ha
  generalize sl a 24 = u24 at ha
  generalize sl a 25 = u25 at ha
  generalize sl a 26 = u26 at ha
  generalize sl a 27 = u27 at ha
  generalize sl a 28 = u28 at ha
  generalize sl a 29 = u29 at ha
  simp only [Act.put, List.setIfInBounds_toArray, List.set_cons_zero, List.set_cons_succ] at ha
  rw [ha]
  clear ha hI ht
  have B3 := Lib.hid (bl B2.out hb B2.out.size)
  have X3 := Lib.hid ((hb.block _ (blk_lt X2.out)).trans X2.out); have Z3 := Lib.hid ((hb.block _ (blk_lt Z2.out)).trans Z2.out)
  have hsz3 : w.heap.size + 2 ≤ w3.heap.size := by have := blk_lt Z3.out; omega
  clear hb B2 X2 Z2 E2 f0 f1 f2 y0 y1
  obtain ⟨y0, y1⟩ := cells2 X3.out
  go_wp2_with fail
  refine Calls.mono (RClone_any p1 p2 k c1 t c2 x.1 x.2 w3 (S1.out.keep B3.out) (S2.out.keep B3.out) (by unfold Room; omega) (by unfold Room; omega)) ?_
  rintro e w4 ⟨q1, m1, g1, q2, m2, g2, l1, l2, rfl, o1, o2, hb⟩
  have B4 := Lib.hid (bl B3.out hb B3.out.size)
  have Z4 := Lib.hid ((hb.block _ (blk_lt Z3.out)).trans Z3.out)
  have O1 := Lib.hid (owns_mono o1 hsz3); have O2 := Lib.hid (owns_mono o2 hsz3)
  have E4 := Lib.hid (HE.out.keep B4.out)
  have BA : Hid (∀ o, Below w4.heap.size w4 (w4.alloc o)) := fun o => al (Below.refl _ _) (Nat.le_refl _)
  have hb4 : w.heap.size + 2 ≤ w4.heap.size := Nat.le_trans hsz3 hb.size
  clear hb o1 o2 B3 X3 Z3 y0 y1 l1 l2
  obtain ⟨f0, f1, f2⟩ := cells3 (hal (o := .cells #[.slice q1 m1 g1, .slice q2 m2 g2] 47) E4.out.box)
  obtain ⟨b6, h6⟩ : ∃ b6, b6 = w4.heap.size := ⟨_, rfl⟩
  go_wp2
  clear f0 f1 f2
  rw [← h6]
  have hb6w : w.heap.size + 2 ≤ b6 := by omega
  have H6 := Lib.hid h6
  clear h6
  go_loopw [39] (fun i wr => ∃ (j : Nat) (q1 : Option Addr) (m1 g1 : Nat) (q2 : Option Addr) (m2 g2 : Nat), j ≤ n ∧ i = .int .i64 j ∧ Hid (wr.heap[b6]? = some (.cells #[.slice q1 m1 g1, .slice q2 m2 g2] 47 (0, 0))) ∧
    Hid (wr.ownsRow (w.heap.size + 2) 5 1 (.slice q1 m1 g1) m1 ((restF (K.take j) x).1.map B8)) ∧ Hid (wr.ownsRow (w.heap.size + 2) 5 1 (.slice q2 m2 g2) m2 ((restF (K.take j) x).2.map B8)) ∧ Hid (Below w.heap.size w wr) ∧
    Hid (wr.heap[w.heap.size + 1]? = some (.cells #[.slice none 0 0, .slice none 0 0] 47 (0, 0)))) (fun i _ => n - (intOf i).toNat)
  case atStart => exact ⟨0, q1, m1, g1, q2, m2, g2, Nat.zero_le _, rfl, hnew H6.out, owns_keep O1.out (BA.out _), owns_keep O2.out (BA.out _), bl B4.out (BA.out _) B4.out.size, hal Z4.out⟩
  case round =>
    clear O1 O2 B4 Z4 E4 BA
    obtain ⟨j, q1, m1, g1, q2, m2, g2, hj, rfl, hL, hO1, hO2, hB, hZ⟩ := hrel
    by_cases hjl : j < n
    · obtain ⟨gk, kk, a1, b1, d1, a2, b2, d2, rfl, e1, e2, hkk, t1, t2⟩ := (HE.out.keep hB.out).rows.at hjl
      have T1 := Lib.hid t1; have T2 := Lib.hid t2
      have jn : (j : Int) < (n : Int) := by omega
      have fk := HK.out kk (List.mem_of_getElem? hkk.out)
      obtain ⟨XJ, hXJ⟩ : ∃ XJ, XJ = restF (K.take j) x := ⟨_, rfl⟩
      have fitX : Fit k t XJ := by rw [hXJ]; exact HX.out.rest (fun a ha => (HK.out a (List.mem_of_mem_take ha)).1)
      rw [← hXJ] at hO1 hO2
      obtain ⟨LJ, hLJ⟩ : ∃ LJ, LJ = leadS kk.1 := ⟨_, rfl⟩
      obtain ⟨CJ, hCJ⟩ : ∃ CJ, CJ = atS XJ.1 LJ := ⟨_, rfl⟩
      obtain ⟨YJ, hYJ⟩ : ∃ YJ, YJ = lessF XJ CJ kk := ⟨_, rfl⟩
      have hnext : Hid (restF (K.take (j + 1)) x = YJ) := by show _ = _; rw [restF_take hkk.out, ← hXJ, hYJ, hCJ, hLJ]
      have lm1 : m1 = k := by have := (Sl.of_owns hO1.out).len; rw [fitX.1] at this; exact this.symm
      have lm2 : m2 = t := by have := (Sl.of_owns hO2.out).len; rw [fitX.2] at this; exact this.symm
      have HLD : Hid (∀ W, Sl B8 W a1 b1 d1 kk.1 → Calls Tryz.prog 69 #[.slice a1 b1 d1] W fun e w' => e = .returned (.int .i64 LJ) ∧ W = w') := fun W h => by rw [hLJ]; exact Lead_any _ _ _ _ W h
      have HAT : Hid (∀ W, Sl B8 W q1 m1 g1 XJ.1 → Calls Tryz.prog 68 #[.slice q1 m1 g1, .int .i64 LJ] W fun e w' => e = .returned (B8 CJ) ∧ W = w') := fun W h => by rw [hCJ]; exact At_any _ _ _ _ LJ W h
      have HLS : Hid (∀ W, Sl B8 W q1 m1 g1 XJ.1 → Sl B8 W q2 m2 g2 XJ.2 → Sl B8 W a1 b1 d1 kk.1 → Sl B8 W a2 b2 d2 kk.2 → Calls Tryz.prog 67 #[.agg #[.slice q1 m1 g1, .slice q2 m2 g2], B8 CJ, .agg #[.slice a1 b1 d1, .slice a2 b2 d2]] W (RetR2 5 W YJ 0)) := fun W h1 h2 h3 h4 => by
        have := Less_any q1 q2 a1 a2 m1 g1 m2 g2 b1 d1 b2 d2 XJ.1 XJ.2 kk.1 kk.2 CJ W h1 h2 h3 h4 (by rw [lm1]; unfold Room; omega) (by rw [lm2]; unfold Room; omega)
        rw [lessS_fit (n := k) (t := t) (x := XJ) (k := kk) fitX fk.1, ← hYJ] at this
        exact this
      have hYz : Hid (CJ = 0 → YJ = XJ) := fun h => by rw [hYJ, h]; exact less_zero fitX fk.1
      have E1' := Lib.hid e1; have E2' := Lib.hid e2
      clear hXJ hLJ hCJ hYJ fk fitX lm1 lm2 t1 t2
      go_wp2
      clear e1 e2
      have ba : Below wr.heap.size wr (wr.alloc (.cells #[.slice a1 b1 d1, .slice a2 b2 d2] 47)) := al (Below.refl _ _) (Nat.le_refl _)
      have bx : (wr.alloc (.cells #[.slice a1 b1 d1, .slice a2 b2 d2] 47)).heap[wr.heap.size]? = some (.cells #[.slice a1 b1 d1, .slice a2 b2 d2] 47 (0, 0)) := hnew rfl
      generalize wr.alloc (.cells #[.slice a1 b1 d1, .slice a2 b2 d2] 47) = w5 at ba bx ⊢
      have BA := Lib.hid ba; have BX := Lib.hid bx
      clear ba bx
      have L5 := Lib.hid ((BA.out.block _ (blk_lt hL.out)).trans hL.out)
      obtain ⟨y0, y1⟩ := cells2 L5.out
      obtain ⟨u0, u1⟩ := cells2 BX.out
      refine wp_region_shapes (fun ix => ([.val (.pointer (some ⟨b6, 0, none⟩)), .val (.slice q1 m1 g1), .val (.pointer (some ⟨wr.heap.size, 0, none⟩)), .val (.slice a1 b1 d1), .val (.int .i64 LJ), .val (B8 CJ), .val (B8 CJ)][ix]?).getD (.any)) 60 rfl (by kernel_rfl) (by decide) (by decide) (by decide) ?_ ?_
      · refine ⟨?_, ?_, ?_, ?_, ?_, ?_, ?_, trivial⟩
        · intro a W hb0 hs hp hi; have hb := undrew hb0; clear hb0
          have t6 : sl a 6 = .pointer (some ⟨b6, 0, none⟩) := hi 6 (by decide)
          refine ite_y rfl (wp_val (.pointer (some ⟨b6, 0, none⟩)) ?_ ?_)
          · simp only [execOp, eval_tmp, eval_const, t6]; simp [go_sem]
          · exact ⟨_, rfl, Below.refl _ _, rfl⟩
        · intro a W hb0 hs hp hi; have hb := undrew hb0; clear hb0
          have tt : sl a 43 = .pointer (some ⟨b6, 0, none⟩) := hp 0 (by decide)
          have dd := (hb.cell (p := ⟨b6, 0, none⟩) (lt_of_cell y0)).trans y0
          refine ite_y rfl (wp_val (.slice q1 m1 g1) ?_ ?_)
          · simp only [execOp, eval_tmp, tt]; simp [go_sem, dd]
          · exact ⟨_, rfl, Below.refl _ _, rfl⟩
        · intro a W hb0 hs hp hi; have hb := undrew hb0; clear hb0
          have t8 : sl a 8 = .pointer (some ⟨wr.heap.size, 0, none⟩) := hi 8 (by decide)
          refine ite_y rfl (wp_val (.pointer (some ⟨wr.heap.size, 0, none⟩)) ?_ ?_)
          · simp only [execOp, eval_tmp, eval_const, t8]; simp [go_sem]
          · exact ⟨_, rfl, Below.refl _ _, rfl⟩
        · intro a W hb0 hs hp hi; have hb := undrew hb0; clear hb0
          have tt : sl a 45 = .pointer (some ⟨wr.heap.size, 0, none⟩) := hp 2 (by decide)
          have dd := (hb.cell (p := ⟨wr.heap.size, 0, none⟩) (lt_of_cell u0)).trans u0
          refine ite_y rfl (wp_val (.slice a1 b1 d1) ?_ ?_)
          · simp only [execOp, eval_tmp, tt]; simp [go_sem, dd]
          · exact ⟨_, rfl, Below.refl _ _, rfl⟩
        · intro a W hb0 hs hp hi; have hb := undrew hb0; clear hb0
          have t46 : sl a 46 = .slice a1 b1 d1 := hp 3 (by decide)
          refine ite_y rfl (wp_enter 69 #[.slice a1 b1 d1] ?_ (HLD.out W (T1.out.keep (BA.out.trans (hb.mono BA.out.size)))) ?_)
          · simp only [execOp, resolve, List.map_toArray, List.map, eval_tmp, eval_func, eval_const, t46]; simp [go_sem]
          · rintro e W' ⟨rfl, rfl⟩; exact ⟨_, rfl, _, rfl, Below.refl _ _, rfl⟩
        · intro a W hb0 hs hp hi; have hb := undrew hb0; clear hb0
          have t44 : sl a 44 = .slice q1 m1 g1 := hp 1 (by decide)
          have t47 : sl a 47 = .int .i64 LJ := hp 4 (by decide)
          refine ite_y rfl (wp_enter 68 #[.slice q1 m1 g1, .int .i64 LJ] ?_ (HAT.out W (Sl.of_owns (owns_keep hO1.out (BA.out.trans (hb.mono BA.out.size))))) ?_)
          · simp only [execOp, resolve, List.map_toArray, List.map, eval_tmp, eval_func, eval_const, t44, t47]; simp [go_sem]
          · rintro e W' ⟨rfl, rfl⟩; exact ⟨_, rfl, _, rfl, Below.refl _ _, rfl⟩
        · intro a W hb0 hs hp hi; have hb := undrew hb0; clear hb0
          have t48 : sl a 48 = B8 CJ := hp 5 (by decide)
          exact ite_y rfl (wp_val (sl a 48) rfl ⟨_, rfl, Below.refl _ _, t48⟩)
      intro a w6 hb hs hd hI ht
      have ha := act_is [43, 44, 45, 46, 47, 48, 9] hs hd ht (by decide)
      have t9 : sl a 9 = B8 CJ := hI 6 (by decide)
      simp only [List.foldl, t9] at ha
      generalize sl a 43 = u43 at ha
      generalize sl a 44 = u44 at ha
      generalize sl a 45 = u45 at ha
      generalize sl a 46 = u46 at ha
      generalize sl a 47 = u47 at ha
      generalize sl a 48 = u48 at ha
      simp only [Act.put, List.setIfInBounds_toArray, List.set_cons_zero, List.set_cons_succ] at ha
      rw [ha]
      clear ha hI ht
      have B6 := Lib.hid (BA.out.trans (hb.mono BA.out.size))
      have L6 := Lib.hid ((hb.block _ (blk_lt L5.out)).trans L5.out); have X6 := Lib.hid ((hb.block _ (blk_lt BX.out)).trans BX.out)
      have Z6 := Lib.hid ((B6.out.block _ (blk_lt hZ.out)).trans hZ.out)
      have O16 := Lib.hid (owns_keep hO1.out B6.out); have O26 := Lib.hid (owns_keep hO2.out B6.out)
      have BB6 := Lib.hid (bl hB.out B6.out hB.out.size)
      have T16 := Lib.hid (T1.out.keep B6.out); have T26 := Lib.hid (T2.out.keep B6.out)
      clear hb BA BX L5 y0 y1 u0 u1 hL hO1 hO2 hZ T1 T2 hB HLD HAT
      by_cases hc : CJ = 0
      · have hz : ((CJ.toNat : Int) != 0) = false := by rw [hc]; rfl
        have P1 : Hid (w6.ownsRow (w.heap.size + 2) 5 1 (.slice q1 m1 g1) m1 ((restF (K.take (j + 1)) x).1.map B8)) := by show World.ownsRow _ _ _ _ _ _ _; rw [hnext.out, hYz.out hc]; exact O16.out
        have P2 : Hid (w6.ownsRow (w.heap.size + 2) 5 1 (.slice q2 m2 g2) m2 ((restF (K.take (j + 1)) x).2.map B8)) := by show World.ownsRow _ _ _ _ _ _ _; rw [hnext.out, hYz.out hc]; exact O26.out
        clear hc hnext hYz O16 O26 HLS B6 T16 T26
        go_wp2
        go_roundw
        case rel => exact ⟨j + 1, q1, m1, g1, q2, m2, g2, by omega, by go_num, L6.out, P1.out, P2.out, BB6.out, Z6.out⟩
        case measure => simp [intOf]; omega
      · have hz : ((CJ.toNat : Int) != 0) = true := by simp; exact fun h => hc (UInt8.toNat_inj.1 (by simpa using h))
        obtain ⟨y0, y1⟩ := cells2 L6.out
        obtain ⟨u0, u1⟩ := cells2 X6.out
        clear hc hYz
        go_wp2_with fail
        refine Calls.mono (HLS.out _ (Sl.of_owns O16.out) (Sl.of_owns O26.out) T16.out T26.out) ?_
        rintro e w7 ⟨q5, m5, g5, q6, m6, g6, e5, e6, rfl, o5, o6, hb⟩
        have L7 := Lib.hid ((hb.block _ (blk_lt L6.out)).trans L6.out)
        have Z7 := Lib.hid ((hb.block _ (blk_lt Z6.out)).trans Z6.out)
        have BB7 := Lib.hid (bl BB6.out hb BB6.out.size)
        have hb6 : b6 < w6.heap.size := blk_lt L6.out
        have hsz6 : w.heap.size + 2 ≤ w6.heap.size := by have := B6.out.size; have := blk_lt Z6.out; omega
        have NX : Hid (((w7.setCell ⟨b6, 0, none⟩ (.slice q5 m5 g5)).setCell ⟨b6, 1, none⟩ (.slice q6 m6 g6)).heap[b6]? = some (.cells #[.slice q5 m5 g5, .slice q6 m6 g6] 47 (0, 0)) ∧
            ((w7.setCell ⟨b6, 0, none⟩ (.slice q5 m5 g5)).setCell ⟨b6, 1, none⟩ (.slice q6 m6 g6)).ownsRow (w.heap.size + 2) 5 1 (.slice q5 m5 g5) m5 ((restF (K.take (j + 1)) x).1.map B8) ∧
            ((w7.setCell ⟨b6, 0, none⟩ (.slice q5 m5 g5)).setCell ⟨b6, 1, none⟩ (.slice q6 m6 g6)).ownsRow (w.heap.size + 2) 5 1 (.slice q6 m6 g6) m6 ((restF (K.take (j + 1)) x).2.map B8) ∧
            Below w.heap.size w ((w7.setCell ⟨b6, 0, none⟩ (.slice q5 m5 g5)).setCell ⟨b6, 1, none⟩ (.slice q6 m6 g6)) ∧
            ((w7.setCell ⟨b6, 0, none⟩ (.slice q5 m5 g5)).setCell ⟨b6, 1, none⟩ (.slice q6 m6 g6)).heap[w.heap.size + 1]? = some (.cells #[.slice none 0 0, .slice none 0 0] 47 (0, 0))) := by
          rw [hnext.out]
          have hge : w.heap.size ≤ b6 := by omega
          have hne : w.heap.size + 1 ≠ b6 := by omega
          exact ⟨hss (hss L7.out), owns_mono (owns_set (owns_set o5 hb6) hb6) hsz6, owns_mono (owns_set (owns_set o6 hb6) hb6) hsz6, (BB7.out.setCell hge _).setCell hge _, hsc (hsc Z7.out hne) hne⟩
        clear o5 o6 hb L6 Z6 BB6 X6 u0 u1 y0 y1 O16 O26 T16 T26 B6 hnext e5 e6 Z7 BB7
        obtain ⟨y0, y1⟩ := cells2 L7.out
        have v0 := frozen_of_row _ _ 0 _ _ L7.out
        have v1 := frozen_of_row _ _ 1 _ _ L7.out
        go_wp2
        generalize (w7.setCell ⟨b6, 0, none⟩ (.slice q5 m5 g5)).setCell ⟨b6, 1, none⟩ (.slice q6 m6 g6) = wn at NX ⊢
        go_roundw
        case rel => exact ⟨j + 1, q5, m5, g5, q6, m6, g6, by omega, by go_num, NX.out.1, NX.out.2.1, NX.out.2.2.1, NX.out.2.2.2.1, NX.out.2.2.2.2⟩
        case measure => simp [intOf]; omega
    · have hjn : j = n := by omega
      have hge : (n : Int) ≤ (j : Int) := by omega
      have P1 : Hid (wr.ownsRow (w.heap.size + 2) 5 1 (.slice q1 m1 g1) m1 ((restF K x).1.map B8)) := by have h := hO1.out; rw [List.take_of_length_le (by rw [HLEN.out]; omega)] at h; exact h
      have P2 : Hid (wr.ownsRow (w.heap.size + 2) 5 1 (.slice q2 m2 g2) m2 ((restF K x).2.map B8)) := by have h := hO2.out; rw [List.take_of_length_le (by rw [HLEN.out]; omega)] at h; exact h
      have hl1 : Hid ((restF K x).1.length = m1) := (Sl.of_owns P1.out).len
      have hl2 : Hid ((restF K x).2.length = m2) := (Sl.of_owns P2.out).len
      obtain ⟨y0, y1⟩ := cells2 hL.out
      obtain ⟨f0, f1⟩ := cells2 hZ.out
      have z0 := frozen_of_row _ _ 0 _ _ hZ.out
      have z1 := frozen_of_row _ _ 1 _ _ hZ.out
      clear hjn hO1 hO2 hL
      go_wp2
      refine bodyPost_ret (results_cell_tmp rfl _ _ _ 47 #[.slice q1 m1 g1, .slice q2 m2 g2] (0, 0) _ (.int .i64 0) rfl (hss (hss hZ.out)) rfl Tryz.underlying47 rfl hinfo) rfl ⟨q1, m1, g1, q2, m2, g2, hl1, hl2, rfl, ?_, ?_, (hB.out.setCell (by simp) _).setCell (by simp) _⟩
      · exact owns_mono (owns_set (owns_set P1.out (by simp)) (by simp)) (by simp)
      · exact owns_mono (owns_set (owns_set P2.out (by simp)) (by simp)) (by simp)
end Go.Proofs.YtcfdopiponlboaaGreatDoor
namespace Go.Proofs.YtcfdopiponlboaaGreatDoor
open Go.RowKit Go.By
set_option maxRecDepth 100000 in
set_option maxHeartbeats 4000000 in
theorem Search_any (f : Nat → Bool) (g : Nat) (lb : Array Value) (eg : Enters Tryz.prog g) (n : Nat) (w : World) (hn : n ≤ 65536)
    (hf : ∀ (W : World) (i : Nat), Below w.heap.size w W → i < n → Calls Tryz.prog g (#[.int .i64 i] ++ lb) W fun e w' => e = .returned (.bool (f i)) ∧ Below W.heap.size W w') (hm : ∀ i j, i ≤ j → j < n → f i = true → f j = true) :
    Calls Tryz.prog 74 #[.int .i64 n, .func (.func g) #[] lb] w fun e w' => ∃ r : Nat, r ≤ n ∧ e = .returned (.int .i64 r) ∧ (∀ i, i < r → f i = false) ∧ (∀ i, r ≤ i → i < n → f i = true) ∧ Below w.heap.size w w' := by
  have HF := Lib.hid hf; have HM := Lib.hid hm
  clear hf hm
  have eg' : ∀ args w, (callFunc g args).run Tryz.prog w = .ok (.enter g args) w := eg
  clear eg
  go_enter Tryz.func74, Tryz.ntmps74
  go_wp2
  go_loopw [5, 6] (fun i j wr => ∃ (a b : Nat), a ≤ b ∧ b ≤ n ∧ i = .int .i64 a ∧ j = .int .i64 b ∧ Hid (∀ x, x < a → f x = false) ∧ Hid (∀ x, b ≤ x → x < n → f x = true) ∧ Hid (Below w.heap.size w wr)) (fun i j _ => (intOf j).toNat - (intOf i).toNat)
  case atStart => exact ⟨0, n, Nat.zero_le _, Nat.le_refl _, rfl, rfl, fun x hx => by omega, fun x h1 h2 => by omega, Below.refl _ _⟩
  case round =>
    obtain ⟨a, b, hab, hbn, rfl, rfl, hlo, hhi, hB⟩ := hrel
    by_cases hlt : a < b
    · have an : (a : Int) < (b : Int) := by omega
      have w1 : IntKind.i64.wrap ((a : Int) + (b : Int)) = ((a + b : Nat) : Int) := by rw [← Int.natCast_add]; exact Go.IntWalk.i64_in _ (by omega)
      go_wp2_with fail
      obtain ⟨m, hmid⟩ : ∃ m, m = (a + b) / 2 := ⟨_, rfl⟩
      have hmz : ((a : Int) + (b : Int)) / 2 = ((m : Nat) : Int) := by omega
      have ham : a ≤ m := by omega
      have hmb : m < b := by omega
      rw [hmz]
      refine (HF.out wr m hB.out (by omega)).mono ?_
      rintro e w2 ⟨rfl, hb⟩
      have B2 := Lib.hid (bl hB.out hb hB.out.size)
      clear hb hmz hmid w1 hB
      cases hfm : f m with
      | false =>
        have HL := Lib.hid hfm
        clear hfm
        have HN : Hid (∀ x, x < m + 1 → f x = false) := fun x hx => by
          cases hfx : f x with
          | false => rfl
          | true => have h := HM.out x m (by omega) (by omega) hfx; rw [HL.out] at h; cases h
        go_wp2
        go_roundw
        case rel => exact ⟨m + 1, b, by omega, hbn, by go_num, rfl, HN.out, hhi.out, B2.out⟩
        case measure => simp [intOf]; omega
      | true =>
        have HL := Lib.hid hfm
        clear hfm
        go_wp2
        go_roundw
        case rel => exact ⟨a, m, ham, by omega, rfl, rfl, hlo.out, fun x h1 h2 => HM.out m x h1 h2 HL.out, B2.out⟩
        case measure => simp [intOf]; omega
    · have hge : (b : Int) ≤ (a : Int) := by omega
      have hba : b = a := by omega
      subst hba
      go_wp2
      go_ret
      exact ⟨b, hbn, rfl, hlo.out, hhi.out, hB.out⟩
end Go.Proofs.YtcfdopiponlboaaGreatDoor
namespace Go.By
open Go.RowKit
theorem fl2_cons (u : Value × Value) (us : List (Value × Value)) : fl2 (u :: us) = u.1 :: u.2 :: fl2 us := rfl
theorem fl2_one {us : List (Value × Value)} (h : ∀ u, u ∈ us → u.1.oneCell' = true ∧ u.2.oneCell' = true) : ∀ v, v ∈ fl2 us → v.oneCell' = true := by
  intro v hv
  obtain ⟨u, hu, hv⟩ := List.mem_flatMap.1 hv
  simp at hv
  rcases hv with rfl | rfl
  · exact (h u hu).1
  · exact (h u hu).2
end Go.By
namespace Go.Proofs.YtcfdopiponlboaaGreatDoor
open Go.RowKit Go.By
theorem owns2_some {w : World} {base T n c g : Nat} {L : List Value} (h : w.ownsRow base T 2 (.slice (some ⟨g, 0, none⟩) n c) n L) :
    ∃ cur, base ≤ g ∧ w.heap[g]? = some (.cells (List.toArray cur) T (0, 0)) ∧ n ≤ c ∧ c ≤ maxLen ∧ cur.length = c * 2 ∧ cur.take (n * 2) = L := by
  rcases h.2 with ⟨h1, _⟩ | ⟨g', cap, cur, hv, hg, hh, h1, h2, h3, h4⟩
  · simp at h1
  · obtain ⟨rfl, rfl⟩ : g = g' ∧ c = cap := by simpa using hv
    exact ⟨cur.toList, hg, by simpa using hh, h1, h2, by simpa using h3, by simpa using h4⟩
set_option maxRecDepth 100000 in
set_option maxHeartbeats 2000000 in
theorem InsRoom_any (base g n c vb : Nat) (us : List (Value × Value)) (u : Value × Value) (w : World) (h : w.ownsRow base 47 2 (.slice (some ⟨g, 0, none⟩) n c) n (fl2 us)) (hroom : n + 1 ≤ c) (hu : u.1.oneCell' = true ∧ u.2.oneCell' = true)
    (hv : w.heap[vb]? = some (.cells #[u.1, u.2] 47 (0, 0))) :
    Calls Tryz.prog 75 #[.slice (some ⟨g, 0, none⟩) n c, .int .i64 n, .slice (some ⟨vb, 0, none⟩) 1 1] w fun e w' =>
      e = .returned (.slice (some ⟨g, 0, none⟩) (n + 1) c) ∧ w'.ownsRow base 47 2 (.slice (some ⟨g, 0, none⟩) (n + 1) c) (n + 1) (fl2 (us ++ [u])) ∧ w.grownBy w' (some g) := by
  obtain ⟨i0, hi0, hz0, hz1, hz2⟩ := info_parts info_vrow
  obtain ⟨cur, hg, hh, hnc, hcm, hcl, hct⟩ := owns2_some h
  have hr := fun ty => run_append_room_cells (P := Tryz.prog) (w := w) 41 ty 47 i0 Tryz.underlying41 hi0 g 0 n c ⟨vb, 0, none⟩ 1 1 [u.1, u.2] (by rw [hz1]; rfl)
    (fun j x hj => by
      rw [Addr.add_lit, Nat.zero_add, cell_of_row _ _ j _ _ _ hv]
      match j with
      | 0 => simpa using hj
      | 1 => simpa using hj
      | j + 2 => simp at hj)
    (by intro x hx; simp at hx; rcases hx with rfl | rfl; exact hu.1; exact hu.2) hroom
    (fun j hj => by rw [hz1, cell_arr hh, List.getElem?_eq_getElem (by simp at hj; omega)]; rfl) (fun j hj => frozen_arr hh _)
  rw [hz1, Nat.zero_add] at hr
  have HR := Lib.hid hr
  have FIN : Hid ((w.setCells g (n * 2) [u.1, u.2]).ownsRow base 47 2 (.slice (some ⟨g, 0, none⟩) (n + 1) c) (n + 1) (fl2 (us ++ [u])) ∧ w.grownBy (w.setCells g (n * 2) [u.1, u.2]) (some g)) := by
    refine ⟨owns2_shut hg (heap_setCells _ _ _ _ hh (by simp; omega)) hroom hcm ?_ ?_, grownBy_setCells g _ _ _⟩
    · simp only [List.length_append, List.length_take, List.length_drop, hcl, List.length_cons, List.length_nil]; omega
    · rw [fl2_append, ← hct, List.take_append_of_le_length (by simp only [List.length_append, List.length_take, List.length_cons, List.length_nil]; omega), List.take_of_length_le (by simp only [List.length_append, List.length_take, List.length_cons, List.length_nil]; omega)]
      rfl
  unfold maxLen at hcm
  clear h hh hct hr hv hcl hu
  go_enter Tryz.func75, Tryz.ntmps75
  go_wp2_with (at_builtin; refine Lib.wpList_append_run _ rfl _ _ _ _ rfl _ _ rfl rfl _ _ (HR.out _) ?_)
  go_ret
  exact ⟨rfl, FIN.out.1, FIN.out.2⟩
set_option maxRecDepth 100000 in
set_option maxHeartbeats 4000000 in
theorem InsLast_any (base n c vb : Nat) (q : Option Addr) (us : List (Value × Value)) (u : Value × Value) (w : World) (h : w.ownsRow base 47 2 (.slice q n c) n (fl2 us)) (hroom : c < n + 1) (hb : base ≤ w.heap.size) (hu : u.1.oneCell' = true ∧ u.2.oneCell' = true) (hn : n ≤ 65536)
    (hv : w.heap[vb]? = some (.cells #[u.1, u.2] 47 (0, 0))) :
    Calls Tryz.prog 75 #[.slice q n c, .int .i64 n, .slice (some ⟨vb, 0, none⟩) 1 1] w fun e w' =>
      ∃ c', e = .returned (.slice (some ⟨w.heap.size, 0, none⟩) (n + 1) c') ∧ w'.ownsRow base 47 2 (.slice (some ⟨w.heap.size, 0, none⟩) (n + 1) c') (n + 1) (fl2 (us ++ [u])) ∧ w.grownBy w' none := by
  obtain ⟨i0, hi0, hz0, hzs, hzb⟩ := info_parts info_vrow
  have hul : us.length = n := by have := h.1; rw [fl2_length] at this; omega
  have hnc : n ≤ c ∧ (q = none → n = 0 ∧ c = 0) ∧ ∀ a, q = some a → ∀ j v, (fl2 us)[j]? = some v → w.cell? (a.add j) = some v := by
    rcases h.2 with ⟨h1, h2⟩ | ⟨g, cap, cur, h1, _, hh, h3, _, h5, h6⟩
    · have e1 : q = none ∧ n = 0 ∧ c = 0 := by simp at h1; exact ⟨h1.1, h1.2.1, h1.2.2⟩
      refine ⟨by omega, fun _ => ⟨e1.2.1, e1.2.2⟩, fun a ha => ?_⟩
      rw [e1.1] at ha; cases ha
    · obtain ⟨rfl, rfl⟩ : q = some ⟨g, 0, none⟩ ∧ c = cap := by simpa using h1
      refine ⟨h3, fun e => by (cases e), fun a ha j v hj => ?_⟩
      cases ha
      rw [Addr.add_lit, Nat.zero_add, cell_of_row _ _ j _ _ _ hh]
      rw [← h6, List.getElem?_take] at hj
      split at hj
      · simpa using hj
      · cases hj
  obtain ⟨hnc, hnil, hcs⟩ := hnc
  have hva : ∀ j x, [u.1, u.2][j]? = some x → w.cell? ((⟨vb, 0, none⟩ : Addr).add j) = some x := fun j x hj => by
    rw [Addr.add_lit, Nat.zero_add, cell_of_row _ _ j _ _ _ hv]
    match j with
    | 0 => simpa using hj
    | 1 => simpa using hj
    | j + 2 => simp at hj
  have h1v : ∀ v ∈ [u.1, u.2], v.oneCell' = true := by intro x hx; simp at hx; rcases hx with rfl | rfl; exact hu.1; exact hu.2
  have hsrc : Src Tryz.prog i0.size 41 (.slice (some ⟨vb, 0, none⟩) 1 1) 1 [u.1, u.2] w := by
    rw [hzs]
    exact Src.ofSlice w Tryz.underlying41 ⟨vb, 0, none⟩ 1 1 [u.1, u.2] rfl hva h1v
  have hold : (Builtin.firstCells i0.size n (.slice q n c)).run Tryz.prog w.drew = .ok (fl2 us).toArray w.drew := by
    rw [hzs]
    cases q with
    | none =>
      obtain ⟨rfl, -⟩ := hnil rfl
      have : us = [] := List.length_eq_zero_iff.1 hul
      rw [this]
      exact run_firstCells_none w.drew 2 0 0 c
    | some a => exact run_firstCells_some w.drew 2 n a n c (fl2 us) (by rw [fl2_length, hul]) (fun j v hj => hcs a rfl j v hj)
  have hrun : ∀ ty, (Builtin.append_ #[41, 41] ty #[.slice q n c, .slice (some ⟨vb, 0, none⟩) 1 1]).run Tryz.prog w = _ := fun ty =>
    run_append_grow_src w 41 41 ty 47 i0 _ Tryz.underlying41 hi0 hz0 q n c (fl2 us) hold _ 1 [u.1, u.2] hsrc hroom (by omega) (by rw [hzb]; exact growslice_fits hroom (by omega))
  obtain ⟨G, hG⟩ : ∃ G, G = grownCap w (n + 1) c 47 := ⟨_, rfl⟩
  rw [← hG] at hrun
  obtain ⟨ROW, hROW⟩ : ∃ ROW : Array Value, ROW = (fl2 us ++ [u.1, u.2]).toArray ++ Builtin.zeroCells (Value.agg #[.slice none 0 0, .slice none 0 0]).cells (G - (n + 1)) := ⟨_, rfl⟩
  rw [← hROW] at hrun
  have hGn : n + 1 ≤ G := by rw [hG]; exact grownCap_ge w _ _ _
  have hGm : G ≤ maxLen := by rw [hG]; exact grownCap_le_maxLen w (n + 1) c 47 (by unfold maxLen; omega)
  have hz2 : (Value.agg #[.slice none 0 0, .slice none 0 0]).cells = #[.slice none 0 0, .slice none 0 0] := rfl
  have zl : ∀ (a b : Value) (k : Nat), (Builtin.zeroCells #[a, b] k).size = k * 2 := fun a b k => by simp [Builtin.zeroCells]
  have hRl : ROW.size = G * 2 := by
    rw [hROW, hz2, Array.size_append, zl, List.size_toArray, List.length_append, fl2_length, hul]; simp; omega
  have FIN : Hid ((w.drew.alloc (.cells ROW 47)).ownsRow base 47 2 (.slice (some ⟨w.heap.size, 0, none⟩) (n + 1) G) (n + 1) (fl2 (us ++ [u])) ∧ w.grownBy (w.drew.alloc (.cells ROW 47)) none) := by
    refine ⟨owns2_shut (cur := ROW.toList) hb (hnew rfl) hGn hGm (by rw [Array.length_toList, hRl]) ?_, ⟨rfl, rfl, rfl, by simp, fun b hb _ => by show (w.heap.push _)[b]? = _; rw [Array.getElem?_push_lt hb, Array.getElem?_eq_getElem hb]⟩⟩
    rw [hROW, Array.toList_append, List.toList_toArray, fl2_append]
    exact List.take_left' (by rw [List.length_append, fl2_length, hul]; simp [fl2]; omega)
  have HR := Lib.hid hrun
  clear h hu hv hva h1v hsrc hold hrun hROW hRl hG hcs hul hGn hGm hb
  go_enter Tryz.func75, Tryz.ntmps75
  cases q with
  | none =>
    obtain ⟨rfl, rfl⟩ := hnil rfl
    go_wp2_with (at_builtin; refine Lib.wpList_append_run _ rfl _ _ _ _ rfl _ _ rfl rfl _ _ (HR.out _) ?_)
    go_ret
    exact ⟨_, rfl, FIN.out.1, FIN.out.2⟩
  | some a =>
    obtain ⟨ab, ao, asp⟩ := a
    go_wp2_with (at_builtin; refine Lib.wpList_append_run _ rfl _ _ _ _ rfl _ _ rfl rfl _ _ (HR.out _) ?_)
    all_goals (go_ret; exact ⟨_, rfl, FIN.out.1, FIN.out.2⟩)
theorem InsEnd_any (base n vb : Nat) (v : Value) (us : List (Value × Value)) (u : Value × Value) (w : World) (h : w.ownsRow base 47 2 v n (fl2 us)) (hb : base ≤ w.heap.size) (hu : u.1.oneCell' = true ∧ u.2.oneCell' = true) (hn : n ≤ 65536)
    (hv : w.heap[vb]? = some (.cells #[u.1, u.2] 47 (0, 0))) :
    Calls Tryz.prog 75 #[v, .int .i64 n, .slice (some ⟨vb, 0, none⟩) 1 1] w fun e w' =>
      ∃ v', e = .returned v' ∧ w'.ownsRow base 47 2 v' (n + 1) (fl2 (us ++ [u])) ∧ w.grownBy w' v.ownBlock ∧ (v'.ownBlock = v.ownBlock ∨ v'.ownBlock = some w.heap.size) := by
  obtain ⟨q, c, rfl⟩ := owns_shape h
  by_cases hroom : n + 1 ≤ c
  · obtain ⟨g, rfl⟩ : ∃ g, q = some ⟨g, 0, none⟩ := by
      rcases h.2 with ⟨h1, h2⟩ | ⟨g, cap, cur, h1, _⟩
      · simp at h1; omega
      · simp at h1; exact ⟨g, h1.1⟩
    refine (InsRoom_any base g n c vb us u w h hroom hu hv).mono ?_
    rintro e w' ⟨rfl, ho, hg⟩
    exact ⟨_, rfl, ho, by simpa [Value.ownBlock] using hg, .inl (by simp [Value.ownBlock])⟩
  · refine (InsLast_any base n c vb q us u w h (by omega) hb hu hn hv).mono ?_
    rintro e w' ⟨c', rfl, ho, g1, g2, g3, g4, g5⟩
    exact ⟨_, rfl, ho, ⟨g1, g2, g3, g4, fun b hb _ => g5 b hb (by simp)⟩, .inr (by simp [Value.ownBlock])⟩
set_option maxRecDepth 100000 in
set_option maxHeartbeats 4000000 in
theorem InsMid_any (base g n c i vb : Nat) (us : List (Value × Value)) (u : Value × Value) (w : World) (h : w.ownsRow base 47 2 (.slice (some ⟨g, 0, none⟩) n c) n (fl2 us)) (hi : i < n) (hroom : n + 1 ≤ c) (h1 : ∀ x, x ∈ us → x.1.oneCell' = true ∧ x.2.oneCell' = true) (hu : u.1.oneCell' = true ∧ u.2.oneCell' = true)
    (hv : w.heap[vb]? = some (.cells #[u.1, u.2] 47 (0, 0))) (hvb : vb ≠ g) :
    Calls Tryz.prog 75 #[.slice (some ⟨g, 0, none⟩) n c, .int .i64 i, .slice (some ⟨vb, 0, none⟩) 1 1] w fun e w' =>
      e = .returned (.slice (some ⟨g, 0, none⟩) (n + 1) c) ∧ w'.ownsRow base 47 2 (.slice (some ⟨g, 0, none⟩) (n + 1) c) (n + 1) (fl2 (us.take i ++ u :: us.drop i)) ∧ w.grownBy w' (some g) := by
  obtain ⟨i0, hi0, hz0, hz1, hz2⟩ := info_parts info_vrow
  have hul : us.length = n := by have := h.1; rw [fl2_length] at this; omega
  obtain ⟨cur, hg, hh, hnc, hcm, hcl, hct⟩ := owns2_some h
  have hsz : (Tryz.prog.info? 47).map (·.size) = some 2 := by rw [hi0]; simp [hz1]
  have hov : ∀ lb cb, (callFunc 107 #[.slice (some ⟨vb, 0, none⟩) 1 1, .slice (some ⟨g, (i + 1) * 2, none⟩) lb cb]).run Tryz.prog w = .ok (.value (.bool false)) w := fun lb cb => by
    rw [run_callFunc_extern Tryz.func107 (by kernel_rfl) (by kernel_rfl) (by kernel_rfl) (e := Extern.SlicesOverlaps.overlaps #[41, 41] #[4]) (by kernel_rfl),
      Lib.run_overlaps_apart w 41 4 47 Tryz.underlying41 2 (fun w => by simp [Go.sizeOf, typeInfo, hi0, hz1]) ⟨vb, 0, none⟩ ⟨g, (i + 1) * 2, none⟩ 1 1 lb cb hvb 47 47 2 (c * 2)
        (by simp [World.shape?, hv]) (by simp [World.shape?, hh, hcl]) (by omega) (frozen_of_row _ _ 0 _ _ hv) (frozen_of_row _ _ 2 _ _ hv)]
    rfl
  have hw1 : IntKind.i64.wrap ((i : Int) + 1) = (i : Int) + 1 := by rw [IntKind.wrap_i64]; unfold maxLen at hcm; omega
  have hb1 : (0 : Int) ≤ (i : Int) + 1 := by omega
  have htn : ((i : Int) + 1).toNat = i + 1 := by omega
  have hb2 : ¬ (c = i + 1) := by omega
  have hb4 : ¬ (c = i) := by omega
  have hb5 : (i : Int) + 1 ≤ (n : Int) + 1 := by omega
  have hb6 : (i : Int) ≤ (n : Int) + 1 := by omega
  have hb7 : i + 1 ≤ n + 1 := by omega
  have hb8 : i ≤ n + 1 := by omega
  have hz2' : ((i : Int) == (n : Int)) = false := by simp; omega
  obtain ⟨mv, hmv⟩ : ∃ mv, mv = fl2 (us.drop i) := ⟨_, rfl⟩
  have hml : mv.length = (n - i) * 2 := by rw [hmv, fl2_length, List.length_drop, hul]
  have hmc : ∀ j v, mv[j]? = some v → cur[i * 2 + j]? = some v := by
    intro j v hj
    rw [hmv, fl2_drop, ← hct, List.getElem?_drop, List.getElem?_take] at hj
    split at hj
    · exact hj
    · cases hj
  have hcp1 : ∀ ty dc sc, (Builtin.copy_ #[41, 41] ty #[.slice (some ⟨g, (i + 1) * 2, none⟩) (n - i) dc, .slice (some ⟨g, i * 2, none⟩) (n + 1 - i) sc]).run Tryz.prog w.drew = .ok (goInt ((n - i : Nat) : Int)) (w.drew.setCells g ((i + 1) * 2) mv) := fun ty dc sc => by
    have hmin : Nat.min (n + 1 - i) (n - i) = n - i := by simp only [Nat.min_def]; split <;> omega
    have := run_copy_two (P := Tryz.prog) w.drew 41 41 ty 47 g ((i + 1) * 2) (n - i) dc ⟨g, i * 2, none⟩ (n + 1 - i) sc mv Tryz.underlying41 hsz (by rw [hmin]; exact hml)
      (fun j v hj => by rw [Addr.add_lit]; show w.cell? _ = _; rw [cell_arr hh]; exact hmc j v hj)
      (fun j hj => by show (w.cell? _).isSome = true; rw [cell_arr hh, List.getElem?_eq_getElem (by omega)]; rfl) (fun j hj => frozen_arr (w := w) hh _)
      (by rw [hmv]; exact fl2_one (fun x hx => h1 x (List.mem_of_mem_drop hx)))
    rw [hmin] at this
    exact this
  obtain ⟨W1, hW1⟩ : ∃ W1, W1 = w.drew.setCells g ((i + 1) * 2) mv := ⟨_, rfl⟩
  have hh1 : W1.heap[g]? = some (.cells (cur.take ((i + 1) * 2) ++ mv ++ cur.drop ((i + 1) * 2 + mv.length)).toArray 47 (0, 0)) := by
    rw [hW1]; exact heap_setCells mv ((i + 1) * 2) w.drew cur hh (by omega)
  have hgr1 : w.grownBy W1 (some g) := by rw [hW1]; exact grown_trans (grownBy_drew w _) (grownBy_setCells g _ _ _)
  have hvw : W1.heap[vb]? = some (.cells #[u.1, u.2] 47 (0, 0)) := by
    rw [hgr1.block vb (lt_of_cell (cell_of_row _ _ 0 _ _ _ hv)) (by simpa using hvb)]; exact hv
  have hlen1 : (cur.take ((i + 1) * 2) ++ mv ++ cur.drop ((i + 1) * 2 + mv.length)).length = c * 2 := by
    simp only [List.length_append, List.length_take, List.length_drop]; omega
  obtain ⟨cur1, hcur1⟩ : ∃ cur1, cur1 = cur.take ((i + 1) * 2) ++ mv ++ cur.drop ((i + 1) * 2 + mv.length) := ⟨_, rfl⟩
  rw [← hcur1] at hh1 hlen1
  have hcp2 : ∀ ty dc, (Builtin.copy_ #[41, 41] ty #[.slice (some ⟨g, i * 2, none⟩) (n + 1 - i) dc, .slice (some ⟨vb, 0, none⟩) 1 1]).run Tryz.prog W1 = .ok (goInt 1) (W1.setCells g (i * 2) [u.1, u.2]) := fun ty dc => by
    have hmin : Nat.min 1 (n + 1 - i) = 1 := by simp only [Nat.min_def]; split <;> omega
    have := run_copy_two (P := Tryz.prog) W1 41 41 ty 47 g (i * 2) (n + 1 - i) dc ⟨vb, 0, none⟩ 1 1 [u.1, u.2] Tryz.underlying41 hsz (by rw [hmin]; rfl)
      (fun j x hj => by
        rw [Addr.add_lit, Nat.zero_add, cell_of_row _ _ j _ _ _ hvw]
        match j with
        | 0 => simpa using hj
        | 1 => simpa using hj
        | j + 2 => simp at hj)
      (fun j hj => by rw [cell_arr hh1, List.getElem?_eq_getElem (by simp at hj; omega)]; rfl) (fun j hj => frozen_arr hh1 _)
      (by intro x hx; simp at hx; rcases hx with rfl | rfl; exact hu.1; exact hu.2)
    rw [hmin] at this
    exact this
  rw [← hW1] at hcp1
  have FIN : Hid ((W1.setCells g (i * 2) [u.1, u.2]).ownsRow base 47 2 (.slice (some ⟨g, 0, none⟩) (n + 1) c) (n + 1) (fl2 (us.take i ++ u :: us.drop i)) ∧ w.grownBy (W1.setCells g (i * 2) [u.1, u.2]) (some g)) := by
    refine ⟨owns2_shut hg (heap_setCells _ _ _ _ hh1 (by rw [hlen1]; simp; omega)) hroom hcm ?_ ?_, grown_trans hgr1 (grownBy_setCells g _ _ _)⟩
    · simp only [List.length_append, List.length_take, List.length_drop, hlen1, List.length_cons, List.length_nil]; omega
    · have e1 : cur1.take (i * 2) = cur.take (i * 2) := by
        rw [hcur1, List.append_assoc, List.take_append_of_le_length (by rw [List.length_take]; omega), List.take_take, show min (i * 2) ((i + 1) * 2) = i * 2 by omega]
      have e2 : cur1.drop (i * 2 + [u.1, u.2].length) = mv ++ cur.drop ((i + 1) * 2 + mv.length) := by
        rw [hcur1, List.append_assoc]
        exact List.drop_left' (by rw [List.length_take, List.length_cons, List.length_cons, List.length_nil]; omega)
      rw [e1, e2, ← List.append_assoc, List.take_left' (by simp only [List.length_append, List.length_take, List.length_cons, List.length_nil, hml]; omega), fl2_append, fl2_cons, fl2_take, ← hmv, ← hct, List.take_take, show min (i * 2) (n * 2) = i * 2 by omega]
      simp
  unfold maxLen at hcm
  have HC1 := Lib.hid hcp1; have HC2 := Lib.hid hcp2
  clear h hh hct hv hcl hu hcp1 hcp2 hh1 hgr1 hvw hcur1 hlen1 hW1 hmv hml hmc h1 hul hg
  go_enter Tryz.func75, Tryz.ntmps75
  go_wp2_with (simp only [hov])
  go_region_law (refine step_copy_runI rfl _ _ 41 41 rfl _ _ (by simp [Act.eval, Act.put]) (by simp [Act.eval, Act.put]) (HC1.out _ (c - (i + 1)) (c - i)) ?_)
  have hc2 := HC2.out 3 (c - i)
  go_wp2
  go_ret
  exact ⟨rfl, FIN.out.1, FIN.out.2⟩
end Go.Proofs.YtcfdopiponlboaaGreatDoor
namespace Go.Proofs.YtcfdopiponlboaaGreatDoor
open Go.RowKit Go.By
theorem drew_setCell (w : World) (a : Addr) (v : Value) : w.drew.setCell a v = (w.setCell a v).drew := rfl
theorem drew_setCells (g : Nat) : ∀ (vs : List Value) (o : Nat) (w : World), w.drew.setCells g o vs = (w.setCells g o vs).drew
  | [], _, _ => rfl
  | v :: r, o, w => by rw [World.setCells, World.setCells, drew_setCell, drew_setCells g r]
theorem zero_len (a b : Value) (k : Nat) : (Builtin.zeroCells #[a, b] k).size = k * 2 := by simp [Builtin.zeroCells]
set_option maxRecDepth 100000 in
set_option maxHeartbeats 4000000 in
theorem InsGrow_any (base g n c i vb : Nat) (us : List (Value × Value)) (u : Value × Value) (w : World) (h : w.ownsRow base 47 2 (.slice (some ⟨g, 0, none⟩) n c) n (fl2 us)) (hi : i < n) (hroom : c < n + 1) (hu : u.1.oneCell' = true ∧ u.2.oneCell' = true)
    (h1 : ∀ x, x ∈ us → x.1.oneCell' = true ∧ x.2.oneCell' = true) (hn : n ≤ 65536) (hv : w.heap[vb]? = some (.cells #[u.1, u.2] 47 (0, 0))) (hb : base ≤ w.heap.size) :
    Calls Tryz.prog 75 #[.slice (some ⟨g, 0, none⟩) n c, .int .i64 i, .slice (some ⟨vb, 0, none⟩) 1 1] w fun e w' =>
      ∃ v', e = .returned v' ∧ w'.ownsRow base 47 2 v' (n + 1) (fl2 (us.take i ++ u :: us.drop i)) ∧ w.grownBy w' none ∧ v'.ownBlock = some w.heap.size := by
  obtain ⟨i0, hi0, hz0, hzs, hzb⟩ := info_parts info_vrow
  have hul : us.length = n := by have := h.1; rw [fl2_length] at this; omega
  obtain ⟨cur, hg, hh, hnc, hcm, hcl, hct⟩ := owns2_some h
  have hsz : (Tryz.prog.info? 47).map (·.size) = some 2 := by rw [hi0]; simp [hzs]
  have hbw : g < w.heap.size := blk_lt hh
  have hvw : vb < w.heap.size := blk_lt hv
  have hat : ∀ j x, (fl2 us)[j]? = some x → w.cell? ⟨g, j, none⟩ = some x := fun j x hj => by
    rw [cell_arr hh]
    rw [← hct, List.getElem?_take] at hj
    split at hj
    · exact hj
    · cases hj
  have hva : ∀ j x, [u.1, u.2][j]? = some x → w.cell? ⟨vb, j, none⟩ = some x := fun j x hj => by
    rw [cell_of_row _ _ j _ _ _ hv]
    match j with
    | 0 => simpa using hj
    | 1 => simpa using hj
    | j + 2 => simp at hj
  have hold : (Builtin.firstCells i0.size i (.slice (some ⟨g, 0, none⟩) i c)).run Tryz.prog w.drew = .ok (fl2 (us.take i)).toArray w.drew := by
    rw [hzs]
    exact run_firstCells_some w.drew 2 i ⟨g, 0, none⟩ i c (fl2 (us.take i)) (by rw [fl2_length, List.length_take]; omega) (fun j v hj => by
      rw [Addr.add_lit, Nat.zero_add]
      rw [fl2_take, List.getElem?_take] at hj
      split at hj
      · exact hat j v hj
      · cases hj)
  have hik : i + (n + 1 - i) = n + 1 := by omega
  have hkk : (n : Int) + 1 - (i : Int) = ((n + 1 - i : Nat) : Int) := by omega
  obtain ⟨G, hG⟩ : ∃ G, G = grownCap w (n + 1) c 47 := ⟨_, rfl⟩
  obtain ⟨ROW, hROW⟩ : ∃ ROW : Array Value, ROW = (fl2 (us.take i)).toArray ++ Builtin.zeroCells (Value.agg #[.slice none 0 0, .slice none 0 0]).cells (n + 1 - i) ++ Builtin.zeroCells (Value.agg #[.slice none 0 0, .slice none 0 0]).cells (G - (n + 1)) := ⟨_, rfl⟩
  have hrz : ∀ ty, (Builtin.append_ #[41, 3] ty #[.slice (some ⟨g, 0, none⟩) i c, .int .i64 ((n : Int) + 1 - (i : Int))]).run Tryz.prog w = .ok (.slice (some ⟨w.heap.size, 0, none⟩) (n + 1) G) (w.drew.alloc (.cells ROW 47)) := fun ty => by
    have h := Lib.run_append_grow_zeros w 41 3 ty 47 i0 _ .i64 .i64 Tryz.underlying41 Tryz.underlying3 hi0 hz0 (some ⟨g, 0, none⟩) i c (fl2 (us.take i)) hold (n + 1 - i) (by omega) (by omega) (by omega) (by omega) (by rw [hzb]; omega) (by rw [hzb, hik]; exact growslice_fits hroom (by omega))
    rw [hik, ← hG] at h
    rw [hkk, hROW]
    exact h
  have hGn : n + 1 ≤ G := by rw [hG]; exact grownCap_ge w _ _ _
  have hGm : G ≤ maxLen := by rw [hG]; exact grownCap_le_maxLen w (n + 1) c 47 (by unfold maxLen; omega)
  have hz2 : (Value.agg #[.slice none 0 0, .slice none 0 0]).cells = #[.slice none 0 0, .slice none 0 0] := rfl
  have hRl : ROW.size = G * 2 := by
    rw [hROW, hz2, Array.size_append, Array.size_append, zero_len, zero_len, List.size_toArray, fl2_length, List.length_take]; omega
  obtain ⟨W1, hW1⟩ : ∃ W1, W1 = w.drew.alloc (.cells ROW 47) := ⟨_, rfl⟩
  have hh1 : W1.heap[w.heap.size]? = some (.cells (ROW.toList).toArray 47 (0, 0)) := by rw [hW1]; exact hnew rfl
  have hN : ∀ j, j < (n + 1) * 2 → (W1.cell? ⟨w.heap.size, j, none⟩).isSome = true := fun j hj => by
    rw [cell_arr hh1, List.getElem?_eq_getElem (by simp; omega)]; rfl
  have hNf : ∀ j, W1.frozen? ⟨w.heap.size, j, none⟩ = false := fun j => frozen_arr hh1 j
  have hOb : ∀ b j v, b < w.heap.size → w.cell? ⟨b, j, none⟩ = some v → W1.cell? ⟨b, j, none⟩ = some v := fun b j v hb h => by rw [hW1, World.cell?_alloc_past (w := w.drew) _ b j hb]; exact h
  have hcpA : ∀ (W : World), (∀ x, W.cell? x = W1.cell? x) → (∀ x, W.frozen? x = W1.frozen? x) → ∀ ty dc, (Builtin.copy_ #[41, 41] ty #[.slice (some ⟨w.heap.size, i * 2, none⟩) (n + 1 - i) dc, .slice (some ⟨vb, 0, none⟩) 1 1]).run Tryz.prog W = .ok (goInt 1) (W.setCells w.heap.size (i * 2) [u.1, u.2]) := fun W hWc hWf ty dc => by
    have hmin : Nat.min 1 (n + 1 - i) = 1 := by simp only [Nat.min_def]; split <;> omega
    have := run_copy_two (P := Tryz.prog) W 41 41 ty 47 w.heap.size (i * 2) (n + 1 - i) dc ⟨vb, 0, none⟩ 1 1 [u.1, u.2] Tryz.underlying41 hsz (by rw [hmin]; rfl)
      (fun j x hj => by rw [Addr.add_lit, Nat.zero_add, hWc]; exact hOb vb j x hvw (hva j x hj))
      (fun j hj => by rw [hWc]; exact hN _ (by simp at hj; omega)) (fun j hj => by rw [hWf]; exact hNf _) (by intro x hx; simp at hx; rcases hx with rfl | rfl; exact hu.1; exact hu.2)
    rw [hmin] at this
    exact this
  have hdl : (fl2 (us.drop i)).length = (n - i) * 2 := by rw [fl2_length, List.length_drop, hul]
  have hcpB : ∀ (W : World), (∀ x, W.cell? x = (W1.setCells w.heap.size (i * 2) [u.1, u.2]).cell? x) → (∀ x, W.frozen? x = (W1.setCells w.heap.size (i * 2) [u.1, u.2]).frozen? x) → ∀ ty dc sc,
      (Builtin.copy_ #[41, 41] ty #[.slice (some ⟨w.heap.size, (i + 1) * 2, none⟩) (n + 1 - (i + 1)) dc, .slice (some ⟨g, i * 2, none⟩) (n - i) sc]).run Tryz.prog W = .ok (goInt ((n - i : Nat) : Int)) (W.setCells w.heap.size ((i + 1) * 2) (fl2 (us.drop i))) := fun W hWc hWf ty dc sc => by
    have hmin : Nat.min (n - i) (n + 1 - (i + 1)) = n - i := by simp only [Nat.min_def]; split <;> omega
    have := run_copy_two (P := Tryz.prog) W 41 41 ty 47 w.heap.size ((i + 1) * 2) (n + 1 - (i + 1)) dc ⟨g, i * 2, none⟩ (n - i) sc (fl2 (us.drop i)) Tryz.underlying41 hsz (by rw [hmin]; exact hdl)
      (fun j v hj => by
        rw [Addr.add_lit, hWc, World.cell?_setCells_out _ _ _ _ _ (fun h _ => absurd h (by show g ≠ w.heap.size; omega))]
        refine hOb g _ v hbw (hat _ v ?_)
        rw [fl2_drop, List.getElem?_drop] at hj; exact hj)
      (fun j hj => by rw [hWc]; exact isSome_setCells _ _ _ _ (fun t ht => hN _ (by simp at ht; omega)) _ (hN _ (by omega)))
      (fun j hj => by rw [hWf, World.frozen?_setCells]; exact hNf _) (fl2_one fun x hx => h1 x (List.mem_of_mem_drop hx))
    rw [hmin] at this
    exact this
  have hFIN : Hid (∀ W : World, W.heap = ((W1.setCells w.heap.size (i * 2) [u.1, u.2]).setCells w.heap.size ((i + 1) * 2) (fl2 (us.drop i))).heap → W.ownsRow base 47 2 (.slice (some ⟨w.heap.size, 0, none⟩) (n + 1) G) (n + 1) (fl2 (us.take i ++ u :: us.drop i))) := by
    intro W hW
    have k1 := heap_setCells [u.1, u.2] (i * 2) W1 ROW.toList hh1 (by simp; omega)
    have k2 := heap_setCells (fl2 (us.drop i)) ((i + 1) * 2) _ _ k1 (by
      simp only [List.length_append, List.length_take, List.length_drop, List.length_cons, List.length_nil, Array.length_toList, hRl, hdl]; omega)
    refine owns2_shut hb (by rw [hW]; exact k2) hGn hGm ?_ ?_
    · simp only [List.length_append, List.length_take, List.length_drop, List.length_cons, List.length_nil, Array.length_toList, hRl, hdl]; omega
    · have hR : ROW.toList.take (i * 2) = fl2 (us.take i) := by
        rw [hROW, Array.toList_append, Array.toList_append, List.append_assoc, List.toList_toArray]
        exact List.take_left' (by rw [fl2_length, List.length_take]; omega)
      have e1 : (ROW.toList.take (i * 2) ++ [u.1, u.2] ++ ROW.toList.drop (i * 2 + [u.1, u.2].length)).take ((i + 1) * 2) = fl2 (us.take i) ++ [u.1, u.2] := by
        rw [List.take_left' (by simp only [List.length_append, List.length_take, List.length_cons, List.length_nil, Array.length_toList, hRl]; omega), hR]
      rw [e1, List.take_left' (by
        simp only [List.length_append, List.length_cons, List.length_nil, fl2_length, List.length_take, List.length_drop, hul]; omega), fl2_append, fl2_cons]
      simp
  have hGR : Hid (w.grownBy W1 none) := by rw [hW1]; exact ⟨rfl, rfl, rfl, by simp, fun b hb _ => by show (w.heap.push _)[b]? = _; rw [Array.getElem?_push_lt hb, Array.getElem?_eq_getElem hb]⟩
  have hGi : ¬ (G = i) := by omega
  have hGim : ¬ (G = i + 1) := by omega
  have hci : ¬ (c = i) := by omega
  subst hW1
  have hE1 : ∀ x, ((w.alloc (.cells ROW 47)).drew).cell? x = (w.drew.alloc (.cells ROW 47)).cell? x := fun x => rfl
  have hE2 : ∀ x, ((w.alloc (.cells ROW 47)).drew).frozen? x = (w.drew.alloc (.cells ROW 47)).frozen? x := fun x => rfl
  have hF1 : ∀ x, (((w.alloc (.cells ROW 47)).drew.setCells w.heap.size (i * 2) [u.1, u.2]).drew).cell? x = ((w.drew.alloc (.cells ROW 47)).setCells w.heap.size (i * 2) [u.1, u.2]).cell? x := fun x => rfl
  have hF2 : ∀ x, (((w.alloc (.cells ROW 47)).drew.setCells w.heap.size (i * 2) [u.1, u.2]).drew).frozen? x = ((w.drew.alloc (.cells ROW 47)).setCells w.heap.size (i * 2) [u.1, u.2]).frozen? x := fun x => rfl
  have hw1 : IntKind.i64.wrap ((i : Int) + 1) = (i : Int) + 1 := by rw [IntKind.wrap_i64]; omega
  have hw2 : IntKind.i64.wrap ((n : Int) + 1) = (n : Int) + 1 := by rw [IntKind.wrap_i64]; omega
  have hw3 : IntKind.i64.wrap ((n : Int) + 1 - (i : Int)) = (n : Int) + 1 - (i : Int) := by rw [IntKind.wrap_i64]; omega
  have hb1 : (0 : Int) ≤ (i : Int) + 1 := by omega
  have hin : i ≤ n := by omega
  have htn : ((i : Int) + 1).toNat = i + 1 := by omega
  have hb3 : (i : Int) ≤ (n : Int) := by omega
  have hz1 : ((i : Int) == (n : Int)) = false := by simp; omega
  have hz3 : (c : Int) < (n : Int) + 1 := by omega
  unfold maxLen at hcm hGm
  have HA := Lib.hid hcpA; have HB := Lib.hid hcpB; have HZ := Lib.hid hrz
  clear hkk hik hold hROW hG hRl hh hct hcl hv hu h1 hat hva hN hNf hOb hh1 hcpA hcpB hrz hdl hul h
  have mixed : Tryz.prog.follows .mixedOrders = true := by kernel_rfl
  go_enter Tryz.func75, Tryz.ntmps75
  have hcA := HA.out _ hE1 hE2 3 (G - i)
  go_wp2_with (at_builtin; refine Lib.wpList_append_run _ rfl _ _ _ _ rfl _ _ rfl rfl _ _ (HZ.out _) ?_)
  go_region_law_o (refine step_copy_runI rfl _ _ 41 41 rfl (.slice (some ⟨w.heap.size, (i + 1) * 2, none⟩) (n + 1 - (i + 1)) (G - (i + 1))) (.slice (some ⟨g, i * 2, none⟩) (n - i) (c - i)) (by simp [Act.eval, Act.put]) (by simp [Act.eval, Act.put]) (HB.out _ hF1 hF2 3 (G - (i + 1)) (c - i)) ?_)
  clear hcA
  go_wp2
  go_ret
  have hdr : (((w.alloc (.cells ROW 47)).drew.setCells w.heap.size (i * 2) [u.1, u.2]).drew.setCells w.heap.size ((i + 1) * 2) (fl2 (us.drop i))).heap = (((w.drew.alloc (.cells ROW 47)).setCells w.heap.size (i * 2) [u.1, u.2]).setCells w.heap.size ((i + 1) * 2) (fl2 (us.drop i))).heap := by
    have e : (w.alloc (.cells ROW 47)).drew = w.drew.alloc (.cells ROW 47) := rfl
    rw [e, drew_setCells]; rfl
  refine ⟨_, rfl, hFIN.out _ hdr, ?_⟩
  obtain ⟨a1, a2, a3, a4, a5⟩ := hGR.out
  obtain ⟨s1, s2, s3, s4, s5⟩ := grown_trans (grown_trans (grownBy_setCells w.heap.size [u.1, u.2] (i * 2) (w.alloc (.cells ROW 47)).drew) (grownBy_drew _ _)) (grownBy_setCells w.heap.size (fl2 (us.drop i)) ((i + 1) * 2) _)
  exact ⟨⟨s1.trans a1, s2.trans a2, s3.trans a3, Nat.le_trans a4 s4, fun b hb hne => (s5 b (Nat.lt_of_lt_of_le hb a4) (fun e => by injection e; omega)).trans (a5 b hb hne)⟩, by simp [Value.ownBlock]⟩
end Go.Proofs.YtcfdopiponlboaaGreatDoor
namespace Go.By
open Go.RowKit
section
variable {T2 T1 : TypeId} {w w' : World} {base n : Nat} {v : Value} {K : List (List UInt8 × List UInt8)}
theorem Bw.one {xs : List UInt8} (h : Bw T1 w base v xs) : v.oneCell' = true := by obtain ⟨q, m, c, rfl, _⟩ := h; rfl
/-- rows with one more in their midst -/
theorem RwL.mid {v' : Value} {i : Nat} {u : Value × Value} {k : List UInt8 × List UInt8} {vs : List (Value × Value)} (a : vs.length = n) (b : K.length = n) (o : w.ownsRow base T2 2 v n (fl2 vs))
    (r : ∀ (j : Nat) (u : Value × Value), vs[j]? = some u → ∃ k, K[j]? = some k ∧ Bw T1 w base u.1 k.1 ∧ Bw T1 w base u.2 k.2) (hT : T1 ≠ T2) (h1 : Bw T1 w base u.1 k.1) (h2 : Bw T1 w base u.2 k.2) (hi : i ≤ n)
    (ho : w'.ownsRow base T2 2 v' (n + 1) (fl2 (vs.take i ++ u :: vs.drop i))) (hg : w.grownBy w' v.ownBlock) : RwL T2 T1 w' base v' (n + 1) (K.take i ++ k :: K.drop i) := by
  refine ⟨vs.take i ++ u :: vs.drop i, by simp [a]; omega, by simp [b]; omega, ho, ?_⟩
  intro j x hj
  have lv : (vs.take i).length = i := by rw [List.length_take]; omega
  have lk : (K.take i).length = i := by rw [List.length_take]; omega
  by_cases hji : j < i
  · rw [List.getElem?_append_left (by omega), List.getElem?_take, if_pos hji] at hj
    obtain ⟨k', hk, g1, g2⟩ := r j x hj
    exact ⟨k', by rw [List.getElem?_append_left (by omega), List.getElem?_take, if_pos hji]; exact hk, g1.grown hT o hg, g2.grown hT o hg⟩
  · rw [List.getElem?_append_right (by omega), lv] at hj
    by_cases hje : j = i
    · subst hje
      rw [Nat.sub_self] at hj
      have : u = x := by simpa using hj
      subst this
      exact ⟨k, by rw [List.getElem?_append_right (by omega), lk, Nat.sub_self]; rfl, h1.grown hT o hg, h2.grown hT o hg⟩
    · rw [show j - i = (j - 1 - i) + 1 by omega, List.getElem?_cons_succ, List.getElem?_drop, show i + (j - 1 - i) = j - 1 by omega] at hj
      obtain ⟨k', hk, g1, g2⟩ := r (j - 1) x hj
      exact ⟨k', by rw [List.getElem?_append_right (by omega), lk, show j - i = (j - 1 - i) + 1 by omega, List.getElem?_cons_succ, List.getElem?_drop, show i + (j - 1 - i) = j - 1 by omega]; exact hk, g1.grown hT o hg, g2.grown hT o hg⟩
theorem fl2_set (us : List (Value × Value)) : ∀ (i : Nat) (u : Value × Value), fl2 (us.set i u) = ((fl2 us).set (i * 2) u.1).set (i * 2 + 1) u.2 := by
  induction us with
  | nil => intro i u; simp [fl2]
  | cons x us ih =>
    intro i u
    cases i with
    | zero => rfl
    | succ i =>
      rw [List.set_cons_succ, fl2_cons, fl2_cons, ih, show (i + 1) * 2 = i * 2 + 1 + 1 by omega]
      rfl
/-- .. with another row in the place of one -/
theorem RwL.put {g c i : Nat} {u1 u2 : Value} {k : List UInt8 × List UInt8} (h : RwL T2 T1 w base (.slice (some ⟨g, 0, none⟩) n c) n K) (hT : T1 ≠ T2) (hi : i < n) (h1 : Bw T1 w base u1 k.1) (h2 : Bw T1 w base u2 k.2) :
    RwL T2 T1 ((w.setCell ⟨g, i * 2, none⟩ u1).setCell ⟨g, i * 2 + 1, none⟩ u2) base (.slice (some ⟨g, 0, none⟩) n c) n (K.set i k) := by
  obtain ⟨vs, a, b, o, r⟩ := h
  have hg : w.grownBy ((w.setCell ⟨g, i * 2, none⟩ u1).setCell ⟨g, i * 2 + 1, none⟩ u2) (Value.slice (some ⟨g, 0, none⟩) n c).ownBlock := by
    have := grown_trans (grownBy_setCell w g (i * 2) u1) (grownBy_setCell (w.setCell ⟨g, i * 2, none⟩ u1) g (i * 2 + 1) u2)
    simpa [Value.ownBlock] using this
  refine ⟨vs.set i (u1, u2), by simp [a], by simp [b], ?_, ?_⟩
  · refine ⟨by rw [fl2_length, List.length_set, a], .inr ?_⟩
    rcases o.2 with ⟨hv, _⟩ | ⟨g', cap, cur, hv, hb, hh, e1, e2, e3, e4⟩
    · simp at hv
    · obtain ⟨rfl, rfl⟩ : g = g' ∧ c = cap := by simpa using hv
      refine ⟨g, c, _, rfl, hb, hss (hss hh), e1, e2, by simp [e3], ?_⟩
      rw [fl2_set, ← e4, Array.toList_setIfInBounds, Array.toList_setIfInBounds, List.take_set, List.take_set]
  · intro j x hj
    rw [List.getElem?_set] at hj
    by_cases e : i = j
    · subst e
      rw [if_pos rfl, if_pos (by omega)] at hj
      cases hj
      exact ⟨k, by rw [List.getElem?_set, if_pos rfl, if_pos (by omega)], h1.grown hT o hg, h2.grown hT o hg⟩
    · rw [if_neg e] at hj
      obtain ⟨k', hk, g1, g2⟩ := r j x hj
      exact ⟨k', by rw [List.getElem?_set, if_neg e]; exact hk, g1.grown hT o hg, g2.grown hT o hg⟩
end
end Go.By
namespace Go.Proofs.YtcfdopiponlboaaGreatDoor
open Go.RowKit Go.By
/-- the contract of slices.Insert, at a system's rows -/
theorem InsRow_any (base n i vb : Nat) (v u1 u2 : Value) (K : List Rw) (k : Rw) (w : World) (h : RwL 47 5 w base v n K) (hi : i ≤ n) (hn : n ≤ 65536) (hb : base ≤ w.heap.size)
    (hv : w.heap[vb]? = some (.cells #[u1, u2] 47 (0, 0))) (hvb : v.ownBlock ≠ some vb) (h1 : Bw 5 w base u1 k.1) (h2 : Bw 5 w base u2 k.2) :
    Calls Tryz.prog 75 #[v, .int .i64 i, .slice (some ⟨vb, 0, none⟩) 1 1] w fun e w' =>
      ∃ v', e = .returned v' ∧ RwL 47 5 w' base v' (n + 1) (K.take i ++ k :: K.drop i) ∧ w.grownBy w' v.ownBlock ∧ (v'.ownBlock = v.ownBlock ∨ v'.ownBlock = some w.heap.size) := by
  obtain ⟨vs, a, b, o, r⟩ := h
  have hu : u1.oneCell' = true ∧ u2.oneCell' = true := ⟨h1.one, h2.one⟩
  have hus : ∀ x, x ∈ vs → x.1.oneCell' = true ∧ x.2.oneCell' = true := fun x hx => by
    obtain ⟨j, hj, rfl⟩ := List.getElem_of_mem hx
    obtain ⟨k', -, g1, g2⟩ := r j _ (List.getElem?_eq_getElem hj)
    exact ⟨g1.one, g2.one⟩
  by_cases hin : i = n
  · subst hin
    refine (InsEnd_any base i vb v vs (u1, u2) w o hb hu hn hv).mono ?_
    rintro e w' ⟨v', rfl, ho, hg, hbk⟩
    refine ⟨v', rfl, RwL.mid (u := (u1, u2)) a b o r (by decide) h1 h2 hi ?_ hg, hg, hbk⟩
    rw [List.take_of_length_le (by omega), List.drop_eq_nil_of_le (by omega)]; exact ho
  · obtain ⟨q, c, rfl⟩ := owns_shape o
    obtain ⟨g, rfl, -⟩ : ∃ g, q = some ⟨g, 0, none⟩ ∧ True := by
      rcases o.2 with ⟨hv, _⟩ | ⟨g, cap, cur, hv, _⟩
      · simp at hv; omega
      · simp at hv; exact ⟨g, hv.1, trivial⟩
    have hgv : vb ≠ g := fun e => hvb (by simp [Value.ownBlock, e])
    by_cases hroom : n + 1 ≤ c
    · refine (InsMid_any base g n c i vb vs (u1, u2) w o (by omega) hroom hus hu hv hgv).mono ?_
      rintro e w' ⟨rfl, ho, hg⟩
      have hg2 : w.grownBy w' (Value.slice (some ⟨g, 0, none⟩) n c).ownBlock := by simpa [Value.ownBlock] using hg
      exact ⟨_, rfl, RwL.mid (u := (u1, u2)) a b o r (by decide) h1 h2 hi ho hg2, hg2, .inl (by simp [Value.ownBlock])⟩
    · refine (InsGrow_any base g n c i vb vs (u1, u2) w o (by omega) (by omega) hu hus hn hv hb).mono ?_
      rintro e w' ⟨v', rfl, ho, ⟨g1, g2, g3, g4, g5⟩, hbk⟩
      have hg2 : w.grownBy w' (Value.slice (some ⟨g, 0, none⟩) n c).ownBlock := ⟨g1, g2, g3, g4, fun b hb _ => g5 b hb (by simp)⟩
      exact ⟨v', rfl, RwL.mid (u := (u1, u2)) a b o r (by decide) h1 h2 hi ho hg2, hg2, .inr hbk⟩
end Go.Proofs.YtcfdopiponlboaaGreatDoor
namespace Go.By
open Go.RowKit
/-- a value that is told once and for all -/
def LV (ops : Array Oper) (lv : Nat → Option Value) (k : Nat) (σ : Nat → Value) : Prop := ∀ u d, lv k = some u → dstOf ops k = some d → σ d = u
/-- m: the last operation, which waits for all others; s: the call -/
def midB (ops : Array Oper) (n m s ds : Nat) : Bool := decide (ops.size = m + 1) && decide (s < m) && decide (ds < n) && (match ops[m]? with
  | some o => o.guard.isNone && o.dst.isNone
  | none => false) && (match ops[s]? with
  | some o => o.guard.isNone && o.dst == some ds
  | none => false) && ((List.range m).all fun i => match ops[i]? with
  | some o => o.guard.isNone && match o.dst with
    | some d => decide (d < n)
    | none => false
  | none => false) && (List.range m).all fun i => (List.range (m + 1)).any fun j => decide (i < j) && match ops[j]? with
  | some o => (preds o).contains i
  | none => false
theorem wp_region_mid {P : Program} {ops : Array Oper} {Q : Exit → Act → World → Prop} {id : Nat} {a0 : Act} {w0 : World} (sh : Nat → Shp) (lv : Nat → Option Value) (n m s ds : Nat) (P1 : Value → World → Prop) (hn : a0.tmps.size = n) (hm : P.follows .mixedOrders = true) (hback : backB ops = true) (hdist : distB ops = true)
    (hmid : midB ops n m s ds = true) (hlv : ∀ j u, lv j = some u → sh j = Shp.val u) (os : Oper) (hos : ops[s]? = some os)
    (eachA : ∀ i o, i < m → i ≠ s → ops[i]? = some o → (preds o).contains s = false → StepS P ops Q a0 w0.drew sh i o)
    (stepS : ∀ a w, Below w0.heap.size w0 w → a.tmps.size = a0.tmps.size → (∀ k, k ∈ preds os → InvS ops sh k (sl a) w) → os.wp P a w (fun a' w' => ∃ v, a' = a.put (some ds) v ∧ P1 v w') Q)
    (eachB : ∀ i o, i < m → i ≠ s → ops[i]? = some o → (preds os).contains i = false → ∀ a w v, P1 v w → a.tmps.size = a0.tmps.size → sl a ds = v → (∀ k, k ∈ preds o → k ≠ s → LV ops lv k (sl a)) → (∀ t, initAt ops i t = true → sl a t = sl a0 t) → ∃ u, lv i = some u ∧ (execOp a.eval o).run P w = .ok (.value u) w)
    (fin : ∀ a w v o, ops[m]? = some o → P1 v w → a.tmps.size = a0.tmps.size → a.defers = a0.defers → sl a ds = v → (∀ j, j < m → j ≠ s → LV ops lv j (sl a)) → (∀ t, (ops.toList.all fun o => o.dst != some t) = true → sl a t = sl a0 t) → o.wp P a w (fun a' w' => Q .normal a' w') Q) :
    (Code.region id ops true).wp P Q a0 w0 := by
  unfold midB at hmid
  simp only [Bool.and_eq_true, decide_eq_true_eq] at hmid
  obtain ⟨⟨⟨⟨⟨⟨hsz, hsm⟩, hdsn⟩, hl2⟩, hs2⟩, hall2⟩, hpl2⟩ := hmid
  have hm' : m < ops.size := by omega
  obtain ⟨ol, hol⟩ : ∃ ol, ops[m]? = some ol := ⟨_, Array.getElem?_eq_getElem hm'⟩
  rw [hol] at hl2
  simp only [Bool.and_eq_true] at hl2
  have hguard : ol.guard = none := by cases hg : ol.guard <;> simp [hg] at hl2 ⊢
  rw [hos] at hs2
  simp only [Bool.and_eq_true, beq_iff_eq] at hs2
  have hgs : os.guard = none := by cases hg : os.guard <;> simp [hg] at hs2 ⊢
  have hds : os.dst = some ds := hs2.2
  have hops : ∀ i o, i < m → ops[i]? = some o → o.guard = none ∧ ∃ d, o.dst = some d ∧ d < n := fun i o hi ho => by
    have := List.all_eq_true.1 hall2 i (List.mem_range.2 hi)
    rw [ho] at this
    simp only [Bool.and_eq_true] at this
    refine ⟨by cases hg : o.guard <;> simp [hg] at this ⊢, ?_⟩
    cases hd : o.dst with
    | none => have h2 := this.2; rw [hd] at h2; simp at h2
    | some d => have h2 := this.2; rw [hd] at h2; exact ⟨d, rfl, by simpa using h2⟩
  have hpl : ∀ i, i < m → ∃ (j : Nat) (o : Oper), i < j ∧ j ≤ m ∧ ops[j]? = some o ∧ i ∈ preds o := fun i hi => by
    obtain ⟨j, hj, h⟩ := List.any_eq_true.1 (List.all_eq_true.1 hpl2 i (List.mem_range.2 hi))
    have hjm := List.mem_range.1 hj
    rw [Bool.and_eq_true] at h
    obtain ⟨oj, hoj⟩ : ∃ oj, ops[j]? = some oj := ⟨_, Array.getElem?_eq_getElem (by omega)⟩
    have h2 := h.2
    rw [hoj] at h2
    exact ⟨j, oj, of_decide_eq_true h.1, by omega, hoj, by simpa using h2⟩
  have hne : ∀ (i j : Nat) (oi oj : Oper) (d : Nat), i ≠ j → ops[i]? = some oi → ops[j]? = some oj → oj.dst = some d → oi.dst ≠ some d := by
    intro i j oi oj d hij hoi hoj hdj e
    have hi' : i < ops.size := (Array.getElem?_eq_some_iff.1 hoi).1
    have hj' : j < ops.size := (Array.getElem?_eq_some_iff.1 hoj).1
    have := List.all_eq_true.1 (List.all_eq_true.1 hdist i (List.mem_range.2 hi')) j (List.mem_range.2 hj')
    rw [hoi, hoj] at this
    simp [e, hdj, hij] at this
  have dst_of : ∀ {j : Nat} {oj : Oper} {d : Nat}, ops[j]? = some oj → dstOf ops j = some d → oj.dst = some d := fun {_ _ _} hoj h => by simpa [dstOf, hoj] using h
  refine wp_region_any hm ?_
  show wpAny P .any ops Q ops.size (Array.replicate ops.size false) a0 w0.drew
  have main : ∀ (fuel : Nat) (listed : Array Bool) (a : Act) (w : World), unl ops.size listed ≤ fuel → listed.getD m true = false → a.tmps.size = a0.tmps.size → a.defers = a0.defers →
      (listed.getD s false = false → Below w0.heap.size w0 w ∧ ∀ j, j < m → listed.getD j false = true → InvS ops sh j (sl a) w) →
      (listed.getD s false = true → P1 (sl a ds) w ∧ ∀ j, j < m → j ≠ s → listed.getD j false = true → LV ops lv j (sl a)) →
      (∀ j o, listed.getD j false = true → ops[j]? = some o → ∀ k, k ∈ preds o → listed.getD k false = true) →
      (∀ j, j < ops.size → listed.getD j true = true → listed.getD j false = true) →
      (∀ t, (∀ j o, j < m → listed.getD j false = true → ops[j]? = some o → o.dst ≠ some t) → sl a t = sl a0 t) → wpAny P .any ops Q fuel listed a w := by
    intro fuel
    induction fuel with
    | zero =>
      intro listed a w hu hlm
      exfalso
      have h0 : unl ops.size listed = 0 := by omega
      unfold unl at h0
      have := List.countP_eq_zero.1 h0 m (List.mem_range.2 hm')
      simp [hlm] at this
    | succ fuel ih =>
      intro listed a w hu hlm hs hd hA hB hcl hlt ht
      refine ⟨fun hr => ?_, fun i hi => ?_⟩
      · exfalso
        have hall : ∀ k j, j < k → j < ops.size → listed.getD j false = true := by
          intro k
          induction k with
          | zero => intro j hj; omega
          | succ k ihk =>
            intro j hj hjs
            refine hlt j hjs ?_
            cases hb : listed.getD j true with
            | true => rfl
            | false =>
              exfalso
              have ho : ops[j]? = some ops[j] := Array.getElem?_eq_getElem hjs
              have : j ∈ Region.ready .any ops listed := mem_ready.2 ⟨hjs, hb, _, ho, fun q hq => by
                have hbk := List.all_eq_true.1 hback j (List.mem_range.2 hjs)
                rw [ho] at hbk
                have hkj := of_decide_eq_true (List.all_eq_true.1 hbk q hq)
                exact ihk q (by omega) (by omega)⟩
              rw [hr] at this; cases this
        exact (getD_tf hlm).1 (hall (m + 1) m (by omega) hm')
      · obtain ⟨h1, h2, o, ho, h3⟩ := mem_ready.1 hi
        obtain ⟨hnl, his⟩ := getD_tf h2
        have gset : ∀ j (d : Bool), (listed.setIfInBounds i true).getD j d = if i = j then true else listed.getD j d := by
          intro j d
          simp only [Array.getD_eq_getD_getElem?, Array.getElem?_setIfInBounds]
          by_cases e : i = j
          · subst e; simp [his]
          · simp [e]
        by_cases him : i = m
        · subst him
          rw [hol] at ho; cases ho
          have hdown : ∀ d j, i - j ≤ d → j < i → listed.getD j false = true := by
            intro d
            induction d with
            | zero => intro j h4 h5; omega
            | succ d ihd =>
              intro j h4 h5
              obtain ⟨j2, o2, g1, g2, g3, g4⟩ := hpl j h5
              by_cases e : j2 = i
              · subst e; rw [hol] at g3; cases g3; exact h3 j g4
              · exact hcl j2 o2 (ihd j2 (by omega) (by omega)) g3 j g4
          have hdn : ∀ j, j < i → listed.getD j false = true := fun j hj => hdown i j (by omega) hj
          obtain ⟨hP1, hLV⟩ := hB (hdn s hsm)
          have hf := fin a w _ ol hol hP1 hs hd rfl (fun j hj hjs => hLV j hj hjs (hdn j hj)) (fun t htt => ht t (fun j oj hj _ hoj => by
            have := List.all_eq_true.1 htt oj (by rw [Array.mem_toList_iff]; exact Array.mem_of_getElem? hoj)
            simpa using this))
          unfold wpOp
          rw [hol]
          show if Region.wanted ol (yielded ops a.tmps) = true then _ else _
          rw [if_pos (by simp [Region.wanted, hguard])]
          refine .inl (Oper.wp_mono (fun a' w' hq => wpAny_done _ (fun j hj => ?_) hq) hf)
          rw [gset]
          by_cases e2 : i = j
          · rw [if_pos e2]
          · rw [if_neg e2]; exact getD_ft (hdn j (by omega))
        · have him' : i < m := by omega
          have hpm : ∀ k, k ∈ preds o → k < m := fun k hk => by
            have hbk := List.all_eq_true.1 hback i (List.mem_range.2 h1)
            rw [ho] at hbk
            have := of_decide_eq_true (List.all_eq_true.1 hbk k hk); omega
          obtain ⟨hg, d, hdd, hdn⟩ := hops i o him' ho
          have hda : d < a.tmps.size := by rw [hs, hn]; exact hdn
          have next : ∀ (v : Value) (w' : World),
              ((listed.setIfInBounds i true).getD s false = false → Below w0.heap.size w0 w' ∧ ∀ j, j < m → (listed.setIfInBounds i true).getD j false = true → InvS ops sh j (sl (a.put o.dst v)) w') →
              ((listed.setIfInBounds i true).getD s false = true → P1 (sl (a.put o.dst v) ds) w' ∧ ∀ j, j < m → j ≠ s → (listed.setIfInBounds i true).getD j false = true → LV ops lv j (sl (a.put o.dst v))) →
              wpAny P .any ops Q fuel (listed.setIfInBounds i true) (a.put o.dst v) w' := by
            intro v w' gA gB
            refine ih _ _ _ (by have := unl_set (n := ops.size) h1 h2; omega) (by rw [gset, if_neg him]; exact hlm) ((put_size _ _ _).trans hs) ((put_defers _ _ _).trans hd) gA gB ?_ ?_ ?_
            · intro j oj hj hoj k hk
              rw [gset] at hj ⊢
              by_cases e : i = k
              · rw [if_pos e]
              · rw [if_neg e]
                by_cases e' : i = j
                · subst e'; rw [ho] at hoj; cases hoj; exact h3 k hk
                · rw [if_neg e'] at hj; exact hcl j oj hj hoj k hk
            · intro j hj hl
              rw [gset] at hl ⊢
              by_cases e : i = j
              · rw [if_pos e]
              · rw [if_neg e] at hl ⊢; exact hlt j hj hl
            · intro t htt
              have hdt : o.dst ≠ some t := htt i o him' (by rw [gset, if_pos rfl]) ho
              rw [put_sl _ _ _ _ hdt]
              exact ht t (fun j oj hj hl hoj => htt j oj hj (by rw [gset]; split <;> simp [hl]) hoj)
          have hti : ∀ t, initAt ops i t = true → sl a t = sl a0 t := fun t hti => by
            refine ht t (fun j oj hj hlj hoj hdj => ?_)
            have := List.all_eq_true.1 hti j (List.mem_range.2 (by omega))
            rw [hoj] at this
            by_cases e : j = i
            · subst e; exact hnl hlj
            · simp [e, hdj] at this
              exact hnl (hcl j oj hlj hoj i this)
          unfold wpOp
          rw [ho]
          show if Region.wanted o (yielded ops a.tmps) = true then _ else _
          rw [if_pos (by simp [Region.wanted, hg])]
          left
          by_cases hes : i = s
          · subst hes
            rw [hos] at ho; cases ho
            have hsl : listed.getD i false = false := by cases h : listed.getD i false <;> simp_all
            obtain ⟨hbw, hI⟩ := hA hsl
            refine Oper.wp_mono ?_ (stepS a w hbw hs (fun k hk => hI k (hpm k hk) (h3 k hk)))
            rintro a' w' ⟨v, rfl, hP⟩
            have ed : a.put (some ds) v = a.put os.dst v := by rw [hds]
            rw [ed]
            refine next v w' (fun h => ?_) (fun _ => ⟨?_, fun j hj hjs hl => ?_⟩)
            · rw [gset, if_pos rfl] at h; cases h
            · rw [hds, put_same _ _ _ (by rw [hs, hn]; exact hdsn)]; exact hP
            · rw [gset, if_neg (fun e => hjs e.symm)] at hl
              intro u d' hu hd'
              obtain ⟨oj, hoj⟩ : ∃ oj, ops[j]? = some oj := ⟨_, Array.getElem?_eq_getElem (by omega)⟩
              have hdj := dst_of hoj hd'
              rw [put_sl _ _ _ _ (hne i j os oj d' (fun e => hjs e.symm) hos hoj hdj)]
              have := hI j hj hl
              unfold InvS at this
              rw [hd', hlv j u hu] at this
              exact this
          · cases hsl : listed.getD s false with
            | false =>
              obtain ⟨hbw, hI⟩ := hA hsl
              have hns : (preds o).contains s = false := by
                cases hc : (preds o).contains s with
                | false => rfl
                | true => have := h3 s (by simpa using hc); rw [hsl] at this; cases this
              have hst := eachA i o him' hes ho hns a w ⟨hbw.os, hbw.tape, hbw.output, hbw.size, hbw.block⟩ hs (fun k hk => hI k (hpm k hk) (h3 k hk)) hti
              rw [if_pos (by simp [Region.wanted, hg])] at hst
              refine Oper.wp_mono ?_ hst
              rintro a' w' ⟨v, rfl, hb, hok⟩
              refine next v w' (fun _ => ⟨hbw.trans (hb.mono hbw.size), fun j hj hl => ?_⟩) (fun h => ?_)
              · rw [gset] at hl
                unfold InvS
                by_cases e : i = j
                · subst e
                  have : dstOf ops i = some d := by simp [dstOf, ho, hdd]
                  rw [this, hdd]
                  show (sh i).ok (sl (a.put (some d) v) d) w'
                  rw [put_same _ _ _ hda]; exact hok
                · rw [if_neg e] at hl
                  have hIj := hI j hj hl
                  unfold InvS at hIj
                  obtain ⟨oj, hoj⟩ : ∃ oj, ops[j]? = some oj := ⟨_, Array.getElem?_eq_getElem (by omega)⟩
                  cases hdj : dstOf ops j with
                  | none => trivial
                  | some d' =>
                    rw [hdj] at hIj
                    show (sh j).ok (sl (a.put o.dst v) d') w'
                    rw [put_sl _ _ _ _ (hne i j o oj d' e ho hoj (dst_of hoj hdj))]
                    exact (sh j).keep _ _ _ hIj hb
              · rw [gset, if_neg hes, hsl] at h; cases h
            | true =>
              obtain ⟨hP1, hLV⟩ := hB hsl
              have hns : (preds os).contains i = false := by
                cases hc : (preds os).contains i with
                | false => rfl
                | true => exact absurd (hcl s os hsl hos i (by simpa using hc)) hnl
              obtain ⟨u, hu, hrun⟩ := eachB i o him' hes ho hns a w _ hP1 hs rfl (fun k hk hks => hLV k (hpm k hk) hks (h3 k hk)) hti
              refine wp_val u hrun (next u w (fun h => ?_) (fun _ => ⟨?_, fun j hj hjs hl => ?_⟩))
              · rw [gset, if_neg hes, hsl] at h; cases h
              · rw [put_sl _ _ _ _ (hne i s o os ds hes ho hos hds)]; exact hP1
              · rw [gset] at hl
                intro u' d' hu' hd'
                by_cases e : i = j
                · subst e
                  rw [hu] at hu'; cases hu'
                  have : dstOf ops i = some d := by simp [dstOf, ho, hdd]
                  rw [this] at hd'; cases hd'
                  rw [hdd, put_same _ _ _ hda]
                · rw [if_neg e] at hl
                  obtain ⟨oj, hoj⟩ : ∃ oj, ops[j]? = some oj := ⟨_, Array.getElem?_eq_getElem (by omega)⟩
                  rw [put_sl _ _ _ _ (hne i j o oj d' e ho hoj (dst_of hoj hd'))]
                  exact hLV j hj hjs hl u' d' hu' hd'
  have rep : ∀ j, (Array.replicate ops.size false).getD j false = false := fun j => by
    simp [Array.getD_eq_getD_getElem?, Array.getElem?_replicate]; split <;> rfl
  refine main ops.size _ a0 w0.drew ?_ ?_ rfl rfl (fun _ => ⟨⟨rfl, rfl, rfl, Nat.le_refl _, fun _ _ => rfl⟩, fun j _ hl => ?_⟩) (fun h => ?_) ?_ ?_ ?_
  · unfold unl; exact Nat.le_trans List.countP_le_length (by simp)
  · simp [Array.getD_eq_getD_getElem?, Array.getElem?_replicate, hm']
  · rw [rep] at hl; cases hl
  · rw [rep] at h; cases h
  · intro j o hj; rw [rep] at hj; cases hj
  · intro j hj hl; simp [Array.getD_eq_getD_getElem?, Array.getElem?_replicate, hj] at hl
  · intro t _; rfl
end Go.By
namespace Go.Proofs.YtcfdopiponlboaaGreatDoor
open Go.RowKit Go.By
theorem enters_behind : Enters Tryz.prog 73 := enters_of Tryz.func73 (by kernel_rfl) rfl
set_option maxRecDepth 100000 in
set_option maxHeartbeats 4000000 in
theorem Behind_any (base be k t n : Nat) (v : Value) (K : List Rw) (b2 b8 i : Nat) (at_ : Int) (y : Rw) (w : World) (hE : Elm w base be k t v n K) (h2 : w.cell? ⟨b2, 0, none⟩ = some (.pointer (some ⟨be, 0, none⟩))) (h8 : w.cell? ⟨b8, 0, none⟩ = some (.int .i64 at_)) (hi : i < n) (hy : K[i]? = some y) :
    Calls Tryz.prog 73 (#[.int .i64 i] ++ #[.pointer (some ⟨b2, 0, none⟩), .pointer (some ⟨b8, 0, none⟩)]) w fun e w' => e = .returned (.bool (decide (at_ < leadS y.1))) ∧ Below w.heap.size w w' := by
  obtain ⟨q, c, rfl⟩ := hE.rows.shape
  obtain ⟨g, kk, q1, m1, c1, q2, m2, c2, rfl, e1, e2, hkk, t1, t2⟩ := hE.rows.at hi
  have hyk : kk = y := by have h := hkk.out; rw [hy] at h; cases h; rfl
  subst hyk
  obtain ⟨f0, f1, f2⟩ := cells3 hE.box
  have T1 := Lib.hid t1
  have hin : (i : Int) < (n : Int) := by omega
  clear hE t1 t2 hkk hy e2
  go_enter Tryz.func73, Tryz.ntmps73
  go_wp2
  refine wp_region_shapes (fun ix => ([.val (.pointer (some ⟨be, 0, none⟩)), .val (.pointer (some ⟨be, 0, none⟩)), .val (.pointer (some ⟨be, 2, none⟩)), .val (.slice (some ⟨g, 0, none⟩) n c), .val (.int .i64 i), .val (.pointer (some ⟨g, i * 2, none⟩)), .val (.pointer (some ⟨g, i * 2, none⟩)), .val (.slice q1 m1 c1), .val (.int .i64 (leadS kk.1)), .val (.int .i64 at_), .val (.bool (decide (at_ < leadS kk.1))), .val (.bool (decide (at_ < leadS kk.1)))][ix]?).getD (.any)) 16 rfl (by kernel_rfl) (by decide) (by decide) (by decide) ?_ ?_
  · refine ⟨?_, ?_, ?_, ?_, ?_, ?_, ?_, ?_, ?_, ?_, ?_, ?_, trivial⟩
    · intro a W hb0 hs hp hi; have hb := undrew hb0; clear hb0
      have tt : sl a 1 = .pointer (some ⟨b2, 0, none⟩) := hi 1 (by decide)
      have dd0 := (hb.cell (p := ⟨b2, 0, none⟩) (lt_of_cell h2)).trans h2
      refine ite_y rfl (wp_val (.pointer (some ⟨be, 0, none⟩)) ?_ ?_)
      · simp only [execOp, eval_tmp, tt]; simp [go_sem, dd0]
      · exact ⟨_, rfl, Below.refl _ _, rfl⟩
    · intro a W hb0 hs hp hi; have hb := undrew hb0; clear hb0
      have tt : sl a 5 = .pointer (some ⟨be, 0, none⟩) := hp 0 (by decide)
      refine ite_y rfl (wp_val (.pointer (some ⟨be, 0, none⟩)) ?_ ?_)
      · simp only [execOp, eval_tmp, tt]; simp [go_sem]
      · exact ⟨_, rfl, Below.refl _ _, rfl⟩
    · intro a W hb0 hs hp hi; have hb := undrew hb0; clear hb0
      have t6 : sl a 6 = .pointer (some ⟨be, 0, none⟩) := hp 1 (by decide)
      refine ite_y rfl (wp_val (.pointer (some ⟨be, 2, none⟩)) ?_ ?_)
      · simp only [execOp, eval_tmp, eval_const, t6]; simp [go_sem]
      · exact ⟨_, rfl, Below.refl _ _, rfl⟩
    · intro a W hb0 hs hp hi; have hb := undrew hb0; clear hb0
      have tt : sl a 7 = .pointer (some ⟨be, 2, none⟩) := hp 2 (by decide)
      have dd := (hb.cell (p := ⟨be, 2, none⟩) (lt_of_cell f2)).trans f2
      refine ite_y rfl (wp_val (.slice (some ⟨g, 0, none⟩) n c) ?_ ?_)
      · simp only [execOp, eval_tmp, tt]; simp [go_sem, dd]
      · exact ⟨_, rfl, Below.refl _ _, rfl⟩
    · intro a W hb0 hs hp hi; have hb := undrew hb0; clear hb0
      have t0 : sl a 0 = .int .i64 i := hi 0 (by decide)
      exact ite_y rfl (wp_val (sl a 0) rfl ⟨_, rfl, Below.refl _ _, t0⟩)
    · intro a W hb0 hs hp hi; have hb := undrew hb0; clear hb0
      have t8 : sl a 8 = .slice (some ⟨g, 0, none⟩) n c := hp 3 (by decide)
      have t9 : sl a 9 = .int .i64 i := hp 4 (by decide)
      refine ite_y rfl (wp_val (.pointer (some ⟨g, i * 2, none⟩)) ?_ ?_)
      · simp only [execOp, eval_tmp, eval_const, t8, t9]; simp [go_sem, hin, hi]
      · exact ⟨_, rfl, Below.refl _ _, rfl⟩
    · intro a W hb0 hs hp hi; have hb := undrew hb0; clear hb0
      have t10 : sl a 10 = .pointer (some ⟨g, i * 2, none⟩) := hp 5 (by decide)
      refine ite_y rfl (wp_val (.pointer (some ⟨g, i * 2, none⟩)) ?_ ?_)
      · simp only [execOp, eval_tmp, eval_const, t10]; simp [go_sem]
      · exact ⟨_, rfl, Below.refl _ _, rfl⟩
    · intro a W hb0 hs hp hi; have hb := undrew hb0; clear hb0
      have tt : sl a 11 = .pointer (some ⟨g, i * 2, none⟩) := hp 6 (by decide)
      have dd0 := (hb.cell (p := ⟨g, i * 2, none⟩) (lt_of_cell e1)).trans e1
      refine ite_y rfl (wp_val (.slice q1 m1 c1) ?_ ?_)
      · simp only [execOp, eval_tmp, tt]; simp [go_sem, dd0]
      · exact ⟨_, rfl, Below.refl _ _, rfl⟩
    · intro a W hb0 hs hp hi; have hb := undrew hb0; clear hb0
      have t12 : sl a 12 = .slice q1 m1 c1 := hp 7 (by decide)
      refine ite_y rfl (wp_enter 69 #[.slice q1 m1 c1] ?_ (Lead_any q1 m1 c1 kk.1 W (T1.out.keep hb)) ?_)
      · simp only [execOp, resolve, List.map_toArray, List.map, eval_tmp, eval_func, eval_const, t12]; simp [go_sem]
      · rintro e W' ⟨rfl, rfl⟩; exact ⟨_, rfl, _, rfl, Below.refl _ _, rfl⟩
    · intro a W hb0 hs hp hi; have hb := undrew hb0; clear hb0
      have tt : sl a 2 = .pointer (some ⟨b8, 0, none⟩) := hi 2 (by decide)
      have dd0 := (hb.cell (p := ⟨b8, 0, none⟩) (lt_of_cell h8)).trans h8
      refine ite_y rfl (wp_val (.int .i64 at_) ?_ ?_)
      · simp only [execOp, eval_tmp, tt]; simp [go_sem, dd0]
      · exact ⟨_, rfl, Below.refl _ _, rfl⟩
    · intro a W hb0 hs hp hi; have hb := undrew hb0; clear hb0
      have t13 : sl a 13 = .int .i64 (leadS kk.1) := hp 8 (by decide)
      have t14 : sl a 14 = .int .i64 at_ := hp 9 (by decide)
      refine ite_y rfl (wp_val (.bool (decide (at_ < leadS kk.1))) ?_ ?_)
      · simp only [execOp, eval_tmp, eval_const, t13, t14]; simp [go_sem]
      · exact ⟨_, rfl, Below.refl _ _, rfl⟩
    · intro a W hb0 hs hp hi; have hb := undrew hb0; clear hb0
      have t15 : sl a 15 = .bool (decide (at_ < leadS kk.1)) := hp 10 (by decide)
      exact ite_y rfl (wp_val (sl a 15) rfl ⟨_, rfl, Below.refl _ _, t15⟩)
  intro a w2 hb hs hd hI ht
  have ha := act_is [5, 6, 7, 8, 9, 10, 11, 12, 13, 14, 15, 4] hs hd ht (by decide)
  have t4 : sl a 4 = .bool (decide (at_ < leadS kk.1)) := hI 11 (by decide)
  simp only [List.foldl, t4] at ha
  generalize sl a 5 = u5 at ha
  generalize sl a 6 = u6 at ha
  generalize sl a 7 = u7 at ha
  generalize sl a 8 = u8 at ha
  generalize sl a 9 = u9 at ha
  generalize sl a 10 = u10 at ha
  generalize sl a 11 = u11 at ha
  generalize sl a 12 = u12 at ha
  generalize sl a 13 = u13 at ha
  generalize sl a 14 = u14 at ha
  generalize sl a 15 = u15 at ha
  simp only [Act.put, List.setIfInBounds_toArray, List.set_cons_zero, List.set_cons_succ] at ha
  rw [ha]
  clear ha hI ht
  clear f0 f1 f2 e1 h2 h8
  have HB := Lib.hid hb
  clear hb
  go_wp2
  go_ret
  exact ⟨rfl, HB.out⟩
end Go.Proofs.YtcfdopiponlboaaGreatDoor
