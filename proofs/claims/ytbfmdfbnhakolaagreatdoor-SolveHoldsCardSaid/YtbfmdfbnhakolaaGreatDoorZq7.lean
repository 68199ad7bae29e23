/- Plain laws of GridReckons: rows and their vectors, products, columns, the inverse. The contract of the reference's Mul. GridTells: the walk, no grid, a unit. GridTells: the walk, a grid, a unit. GridTells: the walk, whole. What the laws of grids carry along from call to call. The contract of the reference's without. The contract of the reference's Det. Plain laws of GridRanks: ranks of turned grids and products, determinants, inverses of inverses. Plain law of ElimSolves: equations that symbols solve. Where equations first clash: plain law. Numbers by their digits: plain laws of layer 6. Numbers by their digits: one digit more, one digit set, sums and products step by step, which is greater. Numbers as texts of base 16, and as trimmed bytes: plain laws. Numbers told by texts of base 16, by bytes, by words: plain laws. One step of a product by hand; texts cut into words. How many bytes a number needs; trimmed bytes: plain laws. Numbers in memory; made, Of. DERIVED: THE SHELF's CONTRACTS AT THIS DUMP, IN PLAIN WORDS (tools/lay-plain.mjs out of 'TryzShelf.lean', which tools/lay-shelf.mjs wrote): THE SAME DECLARATIONS UNDER THE SAME NAMES: 'import', 'namespace', 'open', 'def', 'theorem' AND NOTHING ELSE: no command of the shelf's: FOR A HAND-IN. Each laying: the table of numbers ('.._ren') and one theorem, a field a fact of the dump's own or the kernel's comparison; each contract: ONE APPLICATION. Numbers: Len, Cmp; the library's sums and products of words. The library: FormatUint of base 16. -/
import Derived.Test.YtbfmdfbnhakolaaGreatDoorZq6
import Derived.OpenShut
import Derived.WalkKit
import Derived.Lib.ItoaNum
import Derived.Test.YtbfmdfbnhakolaaGreatDoorProg
import Derived.BigQuiet
import Derived.Deep.QuietTactic
import Derived.WalkLawsBesides
import Derived.WalkSpells
import Derived.Lib.Hide
import Derived.Shelf.Abstract
import Derived.Laws.ResultCell
import Derived.Laws.Rows
import Derived.Shelf.Strings.Builder1
import Derived.Shelf.Strings.Builder2
import Derived.Shelf.Strings.BuilderF
import Derived.Shelf.Strings.BuilderK
import Derived.Shelf.Strings.Builder2Cap
import Derived.Shelf.Strconv.Itoa0
import Derived.Shelf.Strconv.Itoa1
import Derived.Shelf.LaysM
import Derived.Shelf.Strconv.Itoa2
import Derived.Shelf.Strings.Prefix
import Derived.Shelf.Bits.Mul64
import Derived.Shelf.Strings.Repeat
import Derived.Shelf.Strings.BuilderCap
import Derived.Shelf.Spec.BitsCarry
import Derived.Lib.ItoaWalk
import Derived.Laws.IdiomStrings
namespace Go.Proofs.YtbfmdfbnhakolaaGreatDoor
open Go.RowKit Go.By Gf
theorem vf_comb : ∀ (r : List UInt8) (R : List (List UInt8)) (m : Nat) (z : List UInt8), (∀ x, x ∈ R → x.length = m) → z.length = m → ∀ j, vf (combF z r R) j = vf z j ^^^ comb r (R.map vf) j
  | [], R, m, z, _, _, j => by simp [combF, comb_nil']
  | c :: cs, [], m, z, _, _, j => by simp [combF, comb_nil]
  | c :: cs, x :: l, m, z, h, hz, j => by
    have e : combF z (c :: cs) (x :: l) = combF (axpy c x z) cs l := rfl
    have hx : x.length = z.length := by rw [h x (by simp), hz]
    have hl : (axpy c x z).length = m := by
      have := combF_len [c] [x] m (fun y hy => by simp at hy; rw [hy]; exact h x (by simp)) z hz
      exact this
    rw [e, vf_comb cs l m _ (fun y hy => h y (by simp [hy])) hl j, vf_axpy hx, List.map_cons, comb_cons, UInt8.xor_assoc]
theorem range_vf (r : List UInt8) : (List.range r.length).map (vf r) = r := by
  apply List.ext_getElem?
  intro i
  by_cases hi : i < r.length
  · rw [List.getElem?_map, List.getElem?_range hi, List.getElem?_eq_getElem hi]
    simp [vf, hi]
  · rw [List.getElem?_eq_none (by simpa using hi), List.getElem?_eq_none (by simpa using hi)]
theorem vf_zeros (m j : Nat) : vf (List.replicate m 0) j = 0 := vf_zero (fun x hx => (List.mem_replicate.1 hx).2) j
theorem vf_mul {w2 : Nat} {R : List (List UInt8)} {r : List UInt8} (h : ∀ x, x ∈ R → x.length = w2) (hl : r.length = R.length) : vf (mulR w2 R r) = mulV R.length (R.map vf) (vf r) := by
  funext j
  unfold mulR mulV
  rw [vf_comb r R w2 _ h (by simp) j, vf_zeros, ← hl, range_vf, UInt8.zero_xor]
theorem flat_len {wd : Nat} : ∀ {L : List (List UInt8)}, (∀ x, x ∈ L → x.length = wd) → L.flatten.length = L.length * wd
  | [], _ => by simp
  | x :: l, h => by
    rw [List.flatten_cons, List.length_append, h x (by simp), flat_len (fun y hy => h y (by simp [hy])), List.length_cons, Nat.add_mul]; omega
theorem rows_at {wd m : Nat} {L : List (List UInt8)} (h : ∀ x, x ∈ L → x.length = wd) (hm : L.length = m) : (List.range m).map (rowF wd L.flatten) = L := by rw [← hm]; exact rows_flat h
theorem kF_rank {wd m : Nat} {L : List (List UInt8)} (h : ∀ x, x ∈ L → x.length = wd) (hm : L.length = m) : (kF wd L.flatten m).length = (iK L).length := by
  unfold kF iK; rw [rows_at h hm]; exact rank_same L h
theorem sq_rows {n : Nat} {L : List (List UInt8)} (h : ∀ x, x ∈ L → x.length = n) (hm : L.length = n) : sqR n L.flatten = L.map vf := by
  unfold sqR
  rw [show (fun i => vf (rowF n L.flatten i)) = vf ∘ rowF n L.flatten from rfl, ← List.map_map, rows_at h hm]
theorem getD_row {wd a b : Nat} (C : List UInt8) (hb : b < wd) : (rowF wd C a).getD b 0 = C.getD (a * wd + b) 0 := by
  unfold rowF
  rw [List.getD_eq_getElem?_getD, List.getD_eq_getElem?_getD, List.getElem?_take, if_pos hb, List.getElem?_drop]
theorem turn_eq {wd m : Nat} {L : List (List UInt8)} (h : ∀ x, x ∈ L → x.length = wd) (hm : L.length = m) : turnR m wd L.flatten = turnX wd L := by
  unfold turnR turnX
  apply List.map_congr_left
  intro b hb
  have hbw := List.mem_range.1 hb
  conv => rhs; rw [← rows_at h hm]
  rw [List.map_map]
  apply List.map_congr_left
  intro a _
  exact (getD_row _ hbw).symm
theorem turnX_cols {wd m : Nat} {L : List (List UInt8)} (hm : L.length = m) : (turnX wd L).map vf = cols wd (L.map vf) := by
  unfold turnX cols
  rw [List.map_map]
  apply List.map_congr_left
  intro b _
  funext i
  show (L.map fun row => row.getD b 0).getD i 0 = ((L.map vf).getD i fun _ => 0) b
  rw [List.getD_eq_getElem?_getD, List.getD_eq_getElem?_getD, List.getElem?_map, List.getElem?_map]
  cases L[i]? with
  | none => rfl
  | some r => rfl
/-- what Inverse gives, as rows -/
theorem inv_rank_full {n : Nat} {L : List (List UInt8)} {F : Nat → Rw} (h : ∀ x, x ∈ L → x.length = n) (hm : L.length = n) (g : GJ n (sqR n L.flatten) F n) : (iK L).length = n := by
  rw [sq_rows h hm] at g
  exact g.full (by simp [hm]) (ins_rank L h)
theorem inv_rank_less {n c : Nat} {L : List (List UInt8)} {F : Nat → Rw} (h : ∀ x, x ∈ L → x.length = n) (hm : L.length = n) (hc : c < n) (g : GJ n (sqR n L.flatten) F c) (hz : ∀ i, c ≤ i → i < n → vf (F i).1 c = 0) : (iK L).length < n := by
  rw [sq_rows h hm] at g
  exact g.fail hc hz (ins_rank L h)
def rowsD (n : Nat) (F : Nat → Rw) : List (List UInt8) := (List.range n).map fun i => (F i).2
theorem rowsD_len (n : Nat) (F : Nat → Rw) : (rowsD n F).length = n := by simp [rowsD]
theorem rowsD_wide {n c : Nat} {G : List V} {F : Nat → Rw} (g : GJ n G F c) : ∀ x, x ∈ rowsD n F → x.length = n := fun x hx => by
  obtain ⟨i, hi, rfl⟩ := List.mem_map.1 hx
  exact (g.good i (List.mem_range.1 hi)).1.2
theorem flatF_rows (n : Nat) (F : Nat → Rw) : flatF n F = (rowsD n F).flatten := rfl
theorem units_flat {n : Nat} {P : List (List UInt8)} (h : ∀ x, x ∈ P → x.length = n) (hu : P.map vf = units n) : P.flatten = unitC n n := by
  have hl : P.length = n := by have := congrArg List.length hu; simpa [units] using this
  have e : P = (List.range n).map (rowF n (unitC n n)) := by
    apply List.ext_getElem?
    intro i
    by_cases hi : i < n
    · have hip : i < P.length := by rw [hl]; exact hi
      rw [List.getElem?_map, List.getElem?_range hi, List.getElem?_eq_getElem hip]
      congr 1
      have h1 := congrArg (fun l => l[i]?) hu
      simp only [List.getElem?_map, List.getElem?_eq_getElem hip, units, List.getElem?_range hi, Option.map_some] at h1
      injection h1 with h1
      have hr := rowF_len2 (unitC_len n n) hi
      exact vf_inj (by rw [h _ (List.getElem_mem hip), hr]) (fun j _ => by rw [h1, unit_row hi])
    · rw [List.getElem?_eq_none (by rw [hl]; omega), List.getElem?_eq_none (by simpa using hi)]
  rw [e]; exact flat_rows n (unitC_len n n)
theorem mul_vf {n w2 : Nat} {L D : List (List UInt8)} (hL : ∀ x, x ∈ L → x.length = n) (hD : ∀ x, x ∈ D → x.length = w2) (hd : D.length = n) : (L.map (mulR w2 D)).map vf = (L.map vf).map (mulV n (D.map vf)) := by
  rw [List.map_map, List.map_map]
  apply List.map_congr_left
  intro r hr
  show vf (mulR w2 D r) = mulV n (D.map vf) (vf r)
  rw [vf_mul hD (by rw [hL r hr, hd]), hd]
theorem mul_wide {w2 : Nat} {L D : List (List UInt8)} (hD : ∀ x, x ∈ D → x.length = w2) : ∀ x, x ∈ L.map (mulR w2 D) → x.length = w2 := fun x hx => by
  obtain ⟨r, _, rfl⟩ := List.mem_map.1 hx
  exact mulR_len hD r
theorem vrow_units {n : Nat} {L : List (List UInt8)} {F : Nat → Rw} (h : ∀ x, x ∈ L → x.length = n) (hm : L.length = n) (g : GJ n (sqR n L.flatten) F n) : ((rowsD n F).map vf).map (mulV n (L.map vf)) = units n := by
  have hw := g.whole
  rw [sq_rows h hm] at hw
  have e : (rowsD n F).map vf = (List.range n).map fun i => vf (F i).2 := by unfold rowsD; rw [List.map_map]; rfl
  rw [e]; exact hw
/-- the product with the inverse, from the right -/
theorem inv_right {n : Nat} {L : List (List UInt8)} {F : Nat → Rw} (h : ∀ x, x ∈ L → x.length = n) (hm : L.length = n) (g : GJ n (sqR n L.flatten) F n) : (L.map (mulR n (rowsD n F))).flatten = unitC n n := by
  have hD := rowsD_wide g
  refine units_flat (mul_wide hD) ?_
  rw [mul_vf h hD (rowsD_len n F)]
  exact inv_both (by simp [hm]) (by simp [rowsD]) (fun d hd => by
    obtain ⟨x, hx, rfl⟩ := List.mem_map.1 hd
    have := vf_wide x
    rw [hD x hx] at this; exact this) (vrow_units h hm g)
/-- .. and from the left -/
theorem inv_left {n : Nat} {L : List (List UInt8)} {F : Nat → Rw} (h : ∀ x, x ∈ L → x.length = n) (hm : L.length = n) (g : GJ n (sqR n L.flatten) F n) : ((rowsD n F).map (mulR n L)).flatten = unitC n n := by
  refine units_flat (mul_wide h) ?_
  rw [mul_vf (rowsD_wide g) h hm]
  exact vrow_units h hm g
end Go.Proofs.YtbfmdfbnhakolaaGreatDoor
namespace Go.Proofs.YtbfmdfbnhakolaaGreatDoor
open Go.RowKit Go.By
theorem prog_set {Z S : List UInt8} {i n : Nat} {y : UInt8} (hz : Z.length = n) (hs : S.length = n) (hi : i < n) : ((prog Z S i).set i y).length = n := by rw [List.length_set, prog_length Z S i n hz hs (by omega)]
end Go.Proofs.YtbfmdfbnhakolaaGreatDoor
namespace Go.Proofs.YtbfmdfbnhakolaaGreatDoor
open Go.RowKit Go.By
end Go.Proofs.YtbfmdfbnhakolaaGreatDoor
namespace Go.Proofs.YtbfmdfbnhakolaaGreatDoor
open Go.RowKit Go.By
end Go.Proofs.YtbfmdfbnhakolaaGreatDoor
namespace Go.Proofs.YtbfmdfbnhakolaaGreatDoor
open Go.RowKit Go.By
end Go.Proofs.YtbfmdfbnhakolaaGreatDoor
namespace Go.Proofs.YtbfmdfbnhakolaaGreatDoor
open Go.RowKit Go.By
structure GSt (w : World) (b9 b12 m1 wd m2 vd : Nat) (qg ql qo qk : Option Addr) (ng cg cl no co ck : Nat) (L K : List (List UInt8)) (W : World) : Prop where
  bel : Below w.heap.size w W
  sg : Sl B8 W qg ng cg L.flatten
  rl : Sl2 W ql m1 cl L
  so : Sl B8 W qo no co K.flatten
  rk : Sl2 W qk m2 ck K
  xg : W.heap[b9]? = some (.cells #[.int .i64 m1, .int .i64 wd, .slice qg ng cg] 59 (0, 0))
  xo : W.heap[b12]? = some (.cells #[.int .i64 m2, .int .i64 vd, .slice qo no co] 59 (0, 0))
theorem GSt.keep {w W W' : World} {b9 b12 m1 wd m2 vd : Nat} {qg ql qo qk : Option Addr} {ng cg cl no co ck : Nat} {L K : List (List UInt8)} (h : GSt w b9 b12 m1 wd m2 vd qg ql qo qk ng cg cl no co ck L K W) (hb : Below W.heap.size W W') : GSt w b9 b12 m1 wd m2 vd qg ql qo qk ng cg cl no co ck L K W' :=
  ⟨bl h.bel hb h.bel.size, h.sg.keep hb, h.rl.keep hb, h.so.keep hb, h.rk.keep hb, (hb.block _ (blk_lt h.xg)).trans h.xg, (hb.block _ (blk_lt h.xo)).trans h.xo⟩
theorem fit_len {wd : Nat} {xss : List (List UInt8)} : ∀ x, x ∈ xss.map (fitR wd) → x.length = wd := fun x hx => by
  obtain ⟨r, _, rfl⟩ := List.mem_map.1 hx
  exact fitR_len wd r
theorem turnX_len {wd m : Nat} {L : List (List UInt8)} (hm : L.length = m) : ∀ x, x ∈ turnX wd L → x.length = m := fun x hx => by
  obtain ⟨b, _, rfl⟩ := List.mem_map.1 hx
  rw [List.length_map, hm]
theorem turnX_length (wd : Nat) (L : List (List UInt8)) : (turnX wd L).length = wd := by simp [turnX]
/-- what Inverse gives, as rows -/
def RetJ (w : World) (n : Nat) (L : List (List UInt8)) (e : Ending) (w' : World) : Prop :=
  (∃ F : Nat → Rw, GJ n (sqR n L.flatten) F n ∧ (iK L).length = n ∧ RetG2 5 w n n (rowsD n F).flatten 0 e w') ∨ ((iK L).length < n ∧ RetG2 5 w 0 0 [] 19 e w')
end Go.Proofs.YtbfmdfbnhakolaaGreatDoor
namespace Go.Proofs.YtbfmdfbnhakolaaGreatDoor
open Go.RowKit Go.By
/-- a row without a place -/
def cutF (i : Nat) (r : List UInt8) : List UInt8 := r.take i ++ r.drop (i + 1)
theorem cutF_len {i n : Nat} {r : List UInt8} (h : r.length = n) (hi : i < n) : (cutF i r).length = n - 1 := by
  unfold cutF; rw [List.length_append, List.length_take, List.length_drop]; omega
theorem Sl_pre {α : Type} {enc : α → Value} {w : World} {b o n c k : Nat} {xs : List α} (h : Sl enc w (some ⟨b, o, none⟩) n c xs) (hk : k ≤ n) : Sl enc w (some ⟨b, o, none⟩) k c (xs.take k) :=
  ⟨by rw [List.length_take, h.len]; omega, by have := h.le; omega, h.max, (fun e => by cases e), fun j hj => by
    rw [List.length_take] at hj
    obtain ⟨b', o', e, hc⟩ := h.rs j (by omega)
    exact ⟨b', o', e, by rw [hc]; simp⟩⟩
end Go.Proofs.YtbfmdfbnhakolaaGreatDoor
namespace Go.Proofs.YtbfmdfbnhakolaaGreatDoor
open Go.RowKit Go.By Gf
/-- rows in memory, so many -/
def shpRows (n : Nat) (L : List (List UInt8)) : Shp := ⟨fun v W => ∃ q c, v = .slice q n c ∧ Sl2 W q n c L, fun _ _ _ ⟨q, c, e, h⟩ hb => ⟨q, c, e, h.keep hb⟩⟩
def detM (xss : List (List UInt8)) : Nat → V := fun i => vf (xss.getD i [])
theorem cutF_at {i c n : Nat} {r : List UInt8} (h : r.length = n + 1) (hi : i < n + 1) (hc : c < n) : vf (cutF i r) c = vf r (skip i c) := by
  unfold vf cutF skip
  rw [List.getD_eq_getElem?_getD, List.getD_eq_getElem?_getD, List.getElem?_append]
  by_cases hci : c < i
  · rw [if_pos (by rw [List.length_take]; omega), if_pos hci, List.getElem?_take, if_pos hci]
  · rw [if_neg (by rw [List.length_take]; omega), if_neg hci, List.getElem?_drop, List.length_take, h, Nat.min_eq_left (by omega)]
    congr 2; omega
theorem det_cut {n i : Nat} {xss : List (List UInt8)} (hl : xss.length = n + 1) (h : ∀ x, x ∈ xss → x.length = n + 1) (hi : i < n + 1) : det n (detM (xss.tail.map (cutF i))) = det n (minor (detM xss) i) := by
  refine det_congr fun r c hr hc => ?_
  unfold detM minor
  have hx : xss[r + 1]? = some (xss[r + 1]'(by omega)) := List.getElem?_eq_getElem (by omega)
  show vf ((xss.tail.map (cutF i)).getD r []) c = vf (xss.getD (r + 1) []) (skip i c)
  rw [List.getD_eq_getElem?_getD, List.getElem?_map, List.getElem?_tail, hx, List.getD_eq_getElem?_getD, hx]
  exact cutF_at (h _ (List.getElem_mem (by omega))) hi hc
end Go.Proofs.YtbfmdfbnhakolaaGreatDoor
namespace Go.Proofs.YtbfmdfbnhakolaaGreatDoor
open Go.RowKit Go.By Gf
theorem rows_wide {n : Nat} {L : List (List UInt8)} (h : ∀ x, x ∈ L → x.length = n) : ∀ v, v ∈ L.map vf → Wide n v := fun v hv => by
  obtain ⟨x, hx, rfl⟩ := List.mem_map.1 hv
  have := vf_wide x
  rw [h x hx] at this; exact this
theorem rank_high {m : Nat} {L : List (List UInt8)} (hm : L.length = m) : (iK L).length ≤ m := by
  have := iK_len L m
  rwa [List.take_of_length_le (by omega)] at this
theorem rank_wide {wd : Nat} {L : List (List UInt8)} (h : ∀ x, x ∈ L → x.length = wd) : (iK L).length ≤ wd := (ins_rank L h).le_width (rows_wide h)
theorem rank_turn {wd m : Nat} {L : List (List UInt8)} (h : ∀ x, x ∈ L → x.length = wd) (hm : L.length = m) : (iK (turnX wd L)).length = (iK L).length := by
  have h2 := ins_rank (turnX wd L) (turnX_len hm)
  rw [turnX_cols hm] at h2
  exact (cols_rank (rows_wide h) (ins_rank L h) h2).symm
theorem turn_turn {wd m : Nat} {L : List (List UInt8)} (h : ∀ x, x ∈ L → x.length = wd) (hm : L.length = m) : (turnX m (turnX wd L)).flatten = L.flatten := by
  rcases Nat.eq_zero_or_pos wd with h0 | h0
  · subst h0
    have e1 : L.flatten = [] := List.length_eq_zero_iff.1 (by rw [flat_len h, Nat.mul_zero])
    have e2 : (turnX m (turnX 0 L)).flatten = [] := List.length_eq_zero_iff.1 (by rw [flat_len (wd := 0) (turnX_len (turnX_length 0 L)), Nat.mul_zero])
    rw [e1, e2]
  · congr 1
    apply List.ext_getElem?
    intro i
    by_cases hi : i < m
    · have hx : L[i]? = some (L[i]'(by omega)) := List.getElem?_eq_getElem (by omega)
      have hl := h _ (List.getElem_mem (l := L) (n := i) (by omega))
      rw [hx]
      have e : (turnX m (turnX wd L))[i]? = some ((turnX wd L).map fun row => row.getD i 0) := by
        unfold turnX; rw [List.getElem?_map, List.getElem?_range hi]; rfl
      rw [e]
      congr 1
      unfold turnX
      rw [List.map_map]
      apply List.ext_getElem?
      intro j
      by_cases hj : j < wd
      · rw [List.getElem?_map, List.getElem?_range hj, List.getElem?_eq_getElem (by omega)]
        show some ((L.map fun row => row.getD j 0).getD i 0) = _
        rw [List.getD_eq_getElem?_getD, List.getElem?_map, hx]
        show some ((L[i]'(by omega)).getD j 0) = _
        rw [List.getD_eq_getElem?_getD, List.getElem?_eq_getElem (by omega)]; rfl
      · rw [List.getElem?_eq_none (by simpa using hj), List.getElem?_eq_none (by omega)]
    · rw [List.getElem?_eq_none (by rw [turnX_length]; omega), List.getElem?_eq_none (by omega)]
theorem rank_mul {k v : Nat} {L K : List (List UInt8)} (hL : ∀ x, x ∈ L → x.length = k) (hK : ∀ x, x ∈ K → x.length = v) (hk : K.length = k) : (iK (L.map (mulR v K))).length ≤ (iK L).length ∧ (iK (L.map (mulR v K))).length ≤ (iK K).length := by
  have h := ins_rank (L.map (mulR v K)) (mul_wide hK)
  rw [mul_vf hL hK hk] at h
  exact ⟨rank_mul_left h (ins_rank L hL), rank_mul_right (by simp [hk]) h (ins_rank K hK)⟩
/-- a column more, where all rows are independent -/
theorem GJ.more {n c : Nat} {G : List V} {F : Nat → Rw} (h : GJ n G F c) (hc : c < n) (hr : Rk G n) : ∃ F', GJ n G F' (c + 1) := by
  by_cases hz : ∀ i, c ≤ i → i < n → vf (F i).1 c = 0
  · exact absurd (h.fail hc hz hr) (Nat.lt_irrefl n)
  · have : ∃ i, c ≤ i ∧ i < n ∧ vf (F i).1 c ≠ 0 := by
      apply Classical.byContradiction
      intro hne
      exact hz fun i h1 h2 => Classical.byContradiction fun h3 => hne ⟨i, h1, h2, h3⟩
    obtain ⟨i, h1, h2, h3⟩ := this
    have hs := h.swap hc h2 h1
    have hn := hs.norm hc (by rw [swF_at]; exact h3)
    have hm : ∀ k, k ≤ n → ∃ F', GJm n G F' c k := by
      intro k
      induction k with
      | zero => intro _; exact ⟨_, hn⟩
      | succ k ih =>
        intro hk
        obtain ⟨F', hF⟩ := ih (by omega)
        by_cases e : k = c
        · subst e; exact ⟨F', hF.skip⟩
        · exact ⟨_, hF.step hc (by omega) e⟩
    obtain ⟨F', hF⟩ := hm n (Nat.le_refl _)
    exact ⟨F', hF.done⟩
theorem GJ.all {n : Nat} {L : List (List UInt8)} (h : ∀ x, x ∈ L → x.length = n) (hm : L.length = n) (hr : (iK L).length = n) : ∃ F, GJ n (L.map vf) F n := by
  have h0 : GJ n (L.map vf) (fillF n L.flatten n) 0 := by
    have := fill_init n L.flatten (by rw [flat_len h, hm])
    rwa [sq_rows h hm] at this
  have hR : Rk (L.map vf) n := by have := ins_rank L h; rwa [show (L.foldl (fun K r => insF K (r, [])) []).length = n from hr] at this
  have : ∀ c, c ≤ n → ∃ F, GJ n (L.map vf) F c := by
    intro c
    induction c with
    | zero => intro _; exact ⟨_, h0⟩
    | succ c ih => intro hc; obtain ⟨F, hF⟩ := ih (by omega); exact hF.more (by omega) hR
  exact this n (Nat.le_refl _)
theorem detM_eq {n : Nat} {L : List (List UInt8)} (hm : L.length = n) : det n (detM L) = det n (fun i => (L.map vf).getD i fun _ => 0) := by
  refine det_congr fun r c hr hc => ?_
  have hx : L[r]? = some (L[r]'(by omega)) := List.getElem?_eq_getElem (by omega)
  show vf (L.getD r []) c = ((L.map vf).getD r fun _ => 0) c
  rw [List.getD_eq_getElem?_getD, List.getD_eq_getElem?_getD, List.getElem?_map, hx]; rfl
/-- the rank is full just where the determinant isn't 0 -/
theorem det_rank {n : Nat} {L : List (List UInt8)} (h : ∀ x, x ∈ L → x.length = n) (hm : L.length = n) : (iK L).length = n ↔ det n (detM L) ≠ 0 := by
  constructor
  · intro hr
    obtain ⟨F, hF⟩ := GJ.all h hm hr
    rw [detM_eq hm]; exact hF.det
  · intro hd
    have hI : Ind (L.map vf) := by
      apply Classical.byContradiction
      intro hni
      exact hd (by rw [detM_eq hm]; exact det_not_ind (by simp [hm]) hni)
    have h1 := ins_rank L h
    have h2 : Rk (L.map vf) n := ⟨L.map vf, hI, by simp [hm], fun b hb => Sp.mem hb, fun b hb => Sp.mem hb⟩
    exact h1.unique h2
/-- the inverse's inverse -/
theorem inv_back {n : Nat} {L : List (List UInt8)} {F E : Nat → Rw} (h : ∀ x, x ∈ L → x.length = n) (hm : L.length = n) (g : GJ n (sqR n L.flatten) F n) (e : GJ n (sqR n (rowsD n F).flatten) E n) : (rowsD n E).flatten = L.flatten := by
  congr 1
  have hD := rowsD_wide g
  have hE := rowsD_wide e
  have hu := vrow_units h hm g
  have hv := vrow_units hD (rowsD_len n F) e
  apply List.ext_getElem?
  intro i
  by_cases hi : i < n
  · have x1 : L[i]? = some (L[i]'(by omega)) := List.getElem?_eq_getElem (by omega)
    have x2 : (rowsD n E)[i]? = some ((rowsD n E)[i]'(by rw [rowsD_len]; exact hi)) := List.getElem?_eq_getElem (by rw [rowsD_len]; exact hi)
    rw [x1, x2]
    congr 1
    have l1 := h _ (List.getElem_mem (l := L) (n := i) (by omega))
    have l2 := hE _ (List.getElem_mem (l := rowsD n E) (n := i) (by rw [rowsD_len]; exact hi))
    have k := congrArg (fun l => l[i]?) hv
    simp only [List.getElem?_map, x2, Option.map_some, units, List.getElem?_range hi] at k
    injection k with k
    have w := vf_wide ((rowsD n E)[i]'(by rw [rowsD_len]; exact hi))
    rw [l2] at w
    have := inv_row (D := (rowsD n F).map vf) (G := L.map vf) (n := n) (i := i) (b := vf (L[i]'(by omega))) (by simp [hm]) (by simp [rowsD]) hu w (by rw [List.getElem?_map, x1]; rfl) k
    exact vf_inj (by rw [l1, l2]) (fun j _ => by rw [this])
  · rw [List.getElem?_eq_none (by rw [rowsD_len]; omega), List.getElem?_eq_none (by omega)]
theorem inv_full {n : Nat} {L : List (List UInt8)} {F : Nat → Rw} (h : ∀ x, x ∈ L → x.length = n) (hm : L.length = n) (g : GJ n (sqR n L.flatten) F n) : (iK (rowsD n F)).length = n := by
  have hD := rowsD_wide g
  have hI : Ind ((rowsD n F).map vf) := inv_ind (G := L.map vf) (by simp [rowsD]) (vrow_units h hm g)
  exact (ins_rank (rowsD n F) hD).unique ⟨(rowsD n F).map vf, hI, by simp [rowsD], fun b hb => Sp.mem hb, fun b hb => Sp.mem hb⟩
end Go.Proofs.YtbfmdfbnhakolaaGreatDoor
namespace Go.Proofs.YtbfmdfbnhakolaaGreatDoor
open Go.RowKit Go.By Gf
/-- the bytes behind the first k are those that the symbols give -/
def ConsV (k : Nat) (B : List V) (v : V) : Prop := ∀ j, v (k + j) = mulV k B v j
theorem mulV_congr {n : Nat} {B : List V} {u v : V} (h : ∀ i, i < n → u i = v i) : mulV n B u = mulV n B v := by
  unfold mulV
  have : (List.range n).map u = (List.range n).map v := List.map_congr_left fun i hi => h i (List.mem_range.1 hi)
  rw [this]
theorem mulV_nought (n : Nat) (B : List V) : mulV n B (fun _ => 0) = fun _ => 0 := lin_zero (mulV_scale n B)
theorem cons_zero (k : Nat) (B : List V) : ConsV k B (fun _ => 0) := fun j => by rw [mulV_nought]
theorem cons_add {k : Nat} {B : List V} {u v : V} (h : ConsV k B u) (g : ConsV k B v) : ConsV k B (fun j => u j ^^^ v j) := fun j => by
  rw [mulV_add]; show u (k + j) ^^^ v (k + j) = _; rw [h j, g j]
theorem cons_scale {k : Nat} {B : List V} {v : V} (x : UInt8) (h : ConsV k B v) : ConsV k B (fun j => gmul x (v j)) := fun j => by
  rw [mulV_scale]; show gmul x (v (k + j)) = _; rw [h j]
theorem cons_comb {k : Nat} {B : List V} : ∀ (c : List UInt8) (A : List V), (∀ a, a ∈ A → ConsV k B a) → ConsV k B (comb c A)
  | [], A, _ => by
    have : comb [] A = fun _ => 0 := by funext j; exact comb_nil' A j
    rw [this]; exact cons_zero k B
  | c :: cs, [], _ => by
    have : comb (c :: cs) [] = fun _ => 0 := by funext j; exact comb_nil _ j
    rw [this]; exact cons_zero k B
  | c :: cs, a :: A, h => by
    have : comb (c :: cs) (a :: A) = fun j => (fun j => gmul c (a j)) j ^^^ comb cs A j := by funext j; exact comb_cons c cs a A j
    rw [this]
    exact cons_add (cons_scale c (h a (by simp))) (cons_comb cs A fun b hb => h b (by simp [hb]))
theorem cons_sp {k : Nat} {B A : List V} {v : V} (h : ∀ a, a ∈ A → ConsV k B a) (hs : Sp A v) : ConsV k B v := by
  obtain ⟨c, _, rfl⟩ := hs; exact cons_comb c A h
/-- a row and what the symbols give of it -/
def rowC (n : Nat) (FX : List (List UInt8)) (w : List UInt8) : Rw := (w, mulR n FX w)
theorem rowC_fit {k n : Nat} {FX : List (List UInt8)} {w : List UInt8} (hF : ∀ x, x ∈ FX → x.length = n) (hw : w.length = k) : Fit k n (rowC n FX w) := ⟨hw, mulR_len hF w⟩
theorem vR_right {k n j : Nat} {r : Rw} (hf : Fit k n r) : vR r (k + j) = vf r.2 j := by
  unfold vR vf cat
  rw [List.getD_eq_getElem?_getD, List.getElem?_append_right (by rw [hf.1]; omega), hf.1, Nat.add_sub_cancel_left, List.getD_eq_getElem?_getD]
theorem vR_left {k n j : Nat} {r : Rw} (hf : Fit k n r) (hj : j < k) : vR r j = vf r.1 j := vf_app_left (by rw [hf.1]; exact hj)
theorem rowC_cons {k n : Nat} {FX : List (List UInt8)} {w : List UInt8} (hF : ∀ x, x ∈ FX → x.length = n) (hk : FX.length = k) (hw : w.length = k) : ConsV k (FX.map vf) (vR (rowC n FX w)) := fun j => by
  have hf := rowC_fit hF hw
  rw [vR_right hf]
  show vf (mulR n FX w) j = _
  rw [vf_mul hF (by rw [hw, hk]), hk]
  exact congrFun (mulV_congr fun i hi => (vR_left hf hi).symm) j
/-- what is left of a row that holds: it holds; without a first byte nothing is left -/
theorem rest_cons {k n : Nat} {B : List V} {K : List Rw} {x : Rw} (h : KeptS k n K) (hx : Fit k n x) (hK : ∀ r, r ∈ K → ConsV k B (vR r)) (hc : ConsV k B (vR x)) : ConsV k B (vR (restF K x)) := by
  have rK : vR (restF K x) = red (tri K) (vR x) := rest_red h.rows hx
  have s := red_span (tri K) (vR x)
  rw [tri_fst] at s
  have e : vR (restF K x) = fun j => vR x j ^^^ (vR x j ^^^ red (tri K) (vR x) j) := by
    funext j; rw [rK, ← xor_assoc, xor_self, zero_xor]
  rw [e]
  exact cons_add hc (cons_sp (fun a ha => by obtain ⟨r, hr, rfl⟩ := List.mem_map.1 ha; exact hK r hr) s)
theorem rest_nought {k n : Nat} {B : List V} {K : List Rw} {x : Rw} (h : KeptS k n K) (hx : Fit k n x) (hK : ∀ r, r ∈ K → ConsV k B (vR r)) (hc : ConsV k B (vR x)) (hl : leadS (restF K x).1 < 0) : (∀ j, vR (restF K x) j = 0) ∧ Sp (K.map vR) (vR x) := by
  have hf := hx.rest (fun r hr => (h.rows r hr).1)
  have h0 := vf_zero (leadS_neg hl)
  have hz : ∀ j, vR (restF K x) j = 0 := fun j => by
    by_cases hj : j < k
    · rw [vR_left hf hj]; exact h0 j
    · have h1 := rest_cons h hx hK hc (j - k)
      rw [show k + (j - k) = j by omega] at h1
      rw [h1, mulV_congr (v := fun _ => 0) (fun i hi => by rw [vR_left hf hi]; exact h0 i), mulV_nought]
  refine ⟨hz, ?_⟩
  have rK : vR (restF K x) = red (tri K) (vR x) := rest_red h.rows hx
  have s := red_span (tri K) (vR x)
  rw [tri_fst] at s
  have e : vR x = fun j => vR x j ^^^ red (tri K) (vR x) j := by
    funext j; rw [← rK, hz j, xor_zero]
  rw [e]; exact s
/-- the rows kept span those that came -/
structure Spn (k n : Nat) (B : List V) (X K0 : List Rw) : Prop where
  kept : KeptS k n K0
  fit : ∀ x, x ∈ X → Fit k n x
  cons : ∀ x, x ∈ X → ConsV k B (vR x)
  le : ∀ r, r ∈ K0 → Sp (X.map vR) (vR r)
  ge : ∀ x, x ∈ X → Sp (K0.map vR) (vR x)
theorem Spn.nil (k n : Nat) (B : List V) : Spn k n B [] [] := ⟨KeptS.nil k n, fun x h => by simp at h, fun x h => by simp at h, fun x h => by simp at h, fun x h => by simp at h⟩
theorem Spn.consK {k n : Nat} {B : List V} {X K0 : List Rw} (h : Spn k n B X K0) : ∀ r, r ∈ K0 → ConsV k B (vR r) := fun r hr =>
  cons_sp (fun a ha => by obtain ⟨x, hx, rfl⟩ := List.mem_map.1 ha; exact h.cons x hx) (h.le r hr)
theorem Spn.snoc {k n : Nat} {B : List V} {X K0 : List Rw} {x : Rw} (h : Spn k n B X K0) (hx : Fit k n x) (hc : ConsV k B (vR x)) : Spn k n B (X ++ [x]) (insF K0 x) := by
  have memX : ∀ a, a ∈ X.map vR → a ∈ (X ++ [x]).map vR := fun a ha => by rw [List.map_append]; exact List.mem_append.2 (.inl ha)
  have lastX : vR x ∈ (X ++ [x]).map vR := by simp
  refine ⟨h.kept.step hx, fun y hy => ?_, fun y hy => ?_, fun r hr => ?_, fun y hy => ?_⟩
  · rcases List.mem_append.1 hy with hy | hy
    · exact h.fit y hy
    · rw [List.mem_singleton] at hy; rw [hy]; exact hx
  · rcases List.mem_append.1 hy with hy | hy
    · exact h.cons y hy
    · rw [List.mem_singleton] at hy; rw [hy]; exact hc
  · by_cases hl : leadS (restF K0 x).1 < 0
    · have e : insF K0 x = K0 := by unfold insF; rw [norm_leadS, if_pos hl]
      rw [e] at hr
      exact Sp.sub memX (h.le r hr)
    · refine Sp.trans (fun a ha => ?_) ((insF_span h.kept hx hl).1 r hr)
      rcases List.mem_cons.1 ha with rfl | ha
      · exact Sp.mem lastX
      · obtain ⟨q, hq, rfl⟩ := List.mem_map.1 ha
        exact Sp.sub memX (h.le q hq)
  · by_cases hl : leadS (restF K0 x).1 < 0
    · have e : insF K0 x = K0 := by unfold insF; rw [norm_leadS, if_pos hl]
      rw [e]
      rcases List.mem_append.1 hy with hy | hy
      · exact h.ge y hy
      · rw [List.mem_singleton] at hy; rw [hy]; exact (rest_nought h.kept hx h.consK hc hl).2
    · obtain ⟨i1, i2, i3⟩ := insF_span h.kept hx hl
      rcases List.mem_append.1 hy with hy | hy
      · refine Sp.trans (fun a ha => ?_) (h.ge y hy)
        obtain ⟨q, hq, rfl⟩ := List.mem_map.1 ha
        exact i2 q hq
      · rw [List.mem_singleton] at hy; rw [hy]; exact i3
theorem Spn.all {k n : Nat} {B : List V} : ∀ (Y : List Rw) {X K0 : List Rw}, Spn k n B X K0 → (∀ x, x ∈ Y → Fit k n x ∧ ConsV k B (vR x)) → Spn k n B (X ++ Y) (Y.foldl insF K0)
  | [], X, K0, h, _ => by rw [List.append_nil]; exact h
  | y :: Y, X, K0, h, hy => by
    have := Spn.all Y (h.snoc (hy y (by simp)).1 (hy y (by simp)).2) (fun x hx => hy x (by simp [hx]))
    rw [List.append_assoc] at this
    exact this
theorem spn_kD {k n : Nat} {B : List V} {Y : List Rw} (h : ∀ x, x ∈ Y → Fit k n x ∧ ConsV k B (vR x)) : Spn k n B Y (kD Y) := by
  have := Spn.all Y (Spn.nil k n B) h
  rwa [List.nil_append] at this
/-- a system of all that came, also of what added nothing -/
theorem Sys.putX {k n : Nat} {D K : List Rw} {x : Rw} (h : Sys k n (kD D) K) (hx : Fit k n x) : Sys k n (kD (D ++ [x])) (Go.Proofs.YtbfmdfbnhakolaaGreatDoor.putK K x) := by
  rw [kD_snoc]
  unfold Go.Proofs.YtbfmdfbnhakolaaGreatDoor.putK
  by_cases hn : leadS (restF K x).1 < 0
  · have e : insF (kD D) x = kD D := by unfold insF; rw [norm_leadS, h.rest hx, if_pos hn]
    rw [if_pos hn, e]; exact h
  · rw [if_neg hn]; exact h.put hx hn
/-- in whatever order they came: the same rows -/
theorem sys_same {k n : Nat} {B : List V} {X Y K M : List Rw} (h : Sys k n (kD X) K) (g : Sys k n (kD Y) M) (hX : ∀ x, x ∈ X → Fit k n x ∧ ConsV k B (vR x)) (hY : ∀ x, x ∈ Y → Fit k n x ∧ ConsV k B (vR x)) (hm : ∀ x, x ∈ X ↔ x ∈ Y) : K = M := by
  have sX := spn_kD hX; have sY := spn_kD hY
  have one : ∀ {X Y K M : List Rw}, Sys k n (kD X) K → Sys k n (kD Y) M → Spn k n B X (kD X) → Spn k n B Y (kD Y) → (∀ x, x ∈ X → x ∈ Y) → ∀ r, r ∈ K → Sp (M.map vR) (vR r) := by
    intro X Y K M h g sX sY hm r hr
    obtain ⟨-, r2, -, -⟩ := redL_red h.kept
    obtain ⟨-, -, r3, -⟩ := redL_red g.kept
    rw [← h.same] at r2
    rw [← g.same] at r3
    refine Sp.trans (fun a ha => ?_) (r2 r hr)
    obtain ⟨q, hq, rfl⟩ := List.mem_map.1 ha
    refine Sp.trans (fun a ha => ?_) (sX.le q hq)
    obtain ⟨x, hx, rfl⟩ := List.mem_map.1 ha
    refine Sp.trans (fun a ha => ?_) (sY.ge x (hm x hx))
    obtain ⟨p, hp, rfl⟩ := List.mem_map.1 ha
    exact r3 p hp
  exact h.red.unique g.red (one h g sX sY fun x hx => (hm x).1 hx) (one g h sY sX fun x hx => (hm x).2 hx)
/-- equations that hold never clash -/
theorem sys_code {k n : Nat} {B : List V} {X K : List Rw} {x : Rw} (h : Sys k n (kD X) K) (hX : ∀ y, y ∈ X → Fit k n y ∧ ConsV k B (vR y)) (hx : Fit k n x) (hc : ConsV k B (vR x)) (hl : leadS (restF K x).1 < 0) : zeroS (restF K x).2 = true := by
  have s := spn_kD hX
  have e := h.rest hx
  rw [← e] at hl ⊢
  have hz := (rest_nought h.kept hx s.consK hc hl).1
  have hf := hx.rest (fun r hr => (h.kept.rows r hr).1)
  unfold zeroS
  rw [List.all_eq_true]
  intro b hb
  obtain ⟨j, hj, rfl⟩ := List.getElem_of_mem hb
  have h1 := hz (k + j)
  rw [vR_right hf] at h1
  unfold vf at h1
  rw [List.getD_eq_getElem?_getD, List.getElem?_eq_getElem hj] at h1
  simpa using h1
/-- rows without data -/
def prR (r : Rw) : Rw := (r.1, [])
theorem rest_pr : ∀ (K : List Rw) (x : Rw), restF (K.map prR) (prR x) = prR (restF K x)
  | [], _ => rfl
  | a :: K, x => by
    have h := rest_pr K (lessF x (atS x.1 (leadS a.1)) a)
    unfold restF at h ⊢
    rw [List.map_cons, List.foldl_cons, List.foldl_cons, ← h]
    rfl
theorem norm_pr (r : Rw) : normS (prR r) = prR (normS r) := by
  unfold normS prR
  simp only
  split <;> simp
theorem ins_pr (K : List Rw) (x : Rw) : insF (K.map prR) (prR x) = (insF K x).map prR := by
  unfold insF
  rw [rest_pr, norm_pr]
  show (if leadS (normS (restF K x)).1 < 0 then _ else _) = _
  by_cases hl : leadS (normS (restF K x)).1 < 0
  · rw [if_pos hl, if_pos hl]
  · rw [if_neg hl, if_neg hl, List.map_append, List.map_cons, List.takeWhile_map, List.dropWhile_map]
    rfl
theorem kD_pr : ∀ (X : List Rw) (K : List Rw), (X.map (fun x : Rw => x.1)).foldl (fun K r => insF K (r, [])) (K.map prR) = (X.foldl insF K).map prR
  | [], _ => rfl
  | x :: X, K => by
    rw [List.map_cons, List.foldl_cons, List.foldl_cons, ← kD_pr X (insF K x), ← ins_pr]
    rfl
theorem sys_rank {k n : Nat} {X K : List Rw} (h : Sys k n (kD X) K) : K.length = (iK (X.map (fun x : Rw => x.1))).length := by
  have h1 := kD_pr X []
  unfold iK
  rw [show ([] : List Rw) = ([] : List Rw).map prR from rfl, h1, List.length_map, h.same]
  unfold redL kD
  rw [List.length_map, List.length_range]
/-- a full system's data are the symbols -/
theorem sys_full {k n : Nat} {FX : List (List UInt8)} {X K : List Rw} (h : Sys k n (kD X) K) (hX : ∀ y, y ∈ X → Fit k n y ∧ ConsV k (FX.map vf) (vR y)) (hF : ∀ x, x ∈ FX → x.length = n) (hk : FX.length = k) (hl : K.length = k) {i : Nat} {r : Rw} {f : List UInt8} (hr : K[i]? = some r) (hf : FX[i]? = some f) : r.2 = f := by
  have hu := full_units h.red hl hr
  obtain ⟨hfit, -⟩ := h.red.kept.rows r (List.mem_of_getElem? hr)
  have s := spn_kD hX
  obtain ⟨-, r2, -, -⟩ := redL_red h.kept
  rw [← h.same] at r2
  have hc : ConsV k (FX.map vf) (vR r) := cons_sp (fun a ha => by obtain ⟨q, hq, rfl⟩ := List.mem_map.1 ha; exact s.consK q hq) (r2 r (List.mem_of_getElem? hr))
  have hik : i < k := by have := (List.getElem?_eq_some_iff.1 hr).1; omega
  refine vf_inj (by rw [hfit.2, hF f (List.mem_of_getElem? hf)]) fun j hj => ?_
  have h1 := hc j
  rw [vR_right hfit] at h1
  rw [h1, mulV_congr (v := unit i) (fun a ha => ?_), mulV_unit (b := vf f) (by rw [List.length_map, hk]) (by rw [List.getElem?_map, hf]; rfl)]
  rw [vR_left hfit ha, hu]
  unfold vf unit
  rw [List.getD_eq_getElem?_getD, List.getElem?_set]
  by_cases e : i = a
  · subst e; rw [if_pos rfl, if_pos (by simpa using hik), if_pos rfl]; rfl
  · rw [if_neg e, if_neg e, List.getElem?_replicate, if_pos ha]; rfl
end Go.Proofs.YtbfmdfbnhakolaaGreatDoor
namespace Go.Proofs.YtbfmdfbnhakolaaGreatDoor
open Gf Go.By
/-- a row whose vector is a combination of those kept, and its data none -/
def clashB (K : List Rw) (x : Rw) : Bool := decide (leadS (restF K x).1 < 0) && !zeroS (restF K x).2
theorem clashB_code {K : List Rw} {x : Rw} : clashB K x = true ↔ codeF K x = 2 := by
  unfold clashB codeF
  by_cases h : leadS (restF K x).1 < 0
  · rw [if_pos h, decide_eq_true h]
    cases zeroS (restF K x).2 <;> simp
  · rw [if_neg h, decide_eq_false h]; simp
/-- the rows kept span those that came, data and all -/
structure Spg (k n : Nat) (X K0 : List Rw) : Prop where
  kept : KeptS k n K0
  fit : ∀ x, x ∈ X → Fit k n x
  le : ∀ r, r ∈ K0 → Sp (X.map vR) (vR r)
  ge : ∀ x, x ∈ X → Sp (K0.map vR) (vR x)
theorem Spg.nil (k n : Nat) : Spg k n [] [] := ⟨KeptS.nil k n, fun x h => by simp at h, fun x h => by simp at h, fun x h => by simp at h⟩
theorem zeroS_all {xs : List UInt8} : zeroS xs = true ↔ ∀ x, x ∈ xs → x = 0 := by unfold zeroS; simp
/-- nothing is left just where the row is a combination of those kept -/
theorem rest_span {k n : Nat} {K : List Rw} {x : Rw} (h : KeptS k n K) (hx : Fit k n x) : (∀ j, vR (restF K x) j = 0) ↔ Sp (K.map vR) (vR x) := by
  have rK : vR (restF K x) = red (tri K) (vR x) := rest_red h.rows hx
  rw [rK]
  have := red_zero (x := vR x) (tri_of_sorted h.rows h.sorted)
  rw [tri_fst] at this
  exact this
theorem rest_nil {k n : Nat} {K : List Rw} {x : Rw} (h : KeptS k n K) (hx : Fit k n x) (hl : leadS (restF K x).1 < 0) : (∀ j, vR (restF K x) j = 0) ↔ zeroS (restF K x).2 = true := by
  have hf := hx.rest (fun r hr => (h.rows r hr).1)
  have h0 := vf_zero (leadS_neg hl)
  constructor
  · intro hz
    refine zeroS_all.2 fun y hy => ?_
    obtain ⟨j, hj, rfl⟩ := List.mem_iff_getElem.1 hy
    have := hz (k + j)
    rw [vR_right hf] at this
    unfold vf at this
    rw [List.getD_eq_getElem?_getD, List.getElem?_eq_getElem hj] at this
    exact this
  · intro hz j
    by_cases hj : j < k
    · rw [vR_left hf hj]; exact h0 j
    · have := vf_zero (zeroS_all.1 hz) (j - k)
      rw [← vR_right hf, show k + (j - k) = j by omega] at this
      exact this
theorem Spg.snoc {k n : Nat} {X K0 : List Rw} {x : Rw} (h : Spg k n X K0) (hx : Fit k n x) (hc : clashB K0 x = false) : Spg k n (X ++ [x]) (insF K0 x) := by
  have memX : ∀ a, a ∈ X.map vR → a ∈ (X ++ [x]).map vR := fun a ha => by rw [List.map_append]; exact List.mem_append.2 (.inl ha)
  have lastX : vR x ∈ (X ++ [x]).map vR := by simp
  refine ⟨h.kept.step hx, fun y hy => ?_, fun r hr => ?_, fun y hy => ?_⟩
  · rcases List.mem_append.1 hy with hy | hy
    · exact h.fit y hy
    · rw [List.mem_singleton] at hy; rw [hy]; exact hx
  · by_cases hl : leadS (restF K0 x).1 < 0
    · have e : insF K0 x = K0 := by unfold insF; rw [norm_leadS, if_pos hl]
      rw [e] at hr
      exact Sp.sub memX (h.le r hr)
    · refine Sp.trans (fun a ha => ?_) ((insF_span h.kept hx hl).1 r hr)
      rcases List.mem_cons.1 ha with rfl | ha
      · exact Sp.mem lastX
      · obtain ⟨q, hq, rfl⟩ := List.mem_map.1 ha
        exact Sp.sub memX (h.le q hq)
  · by_cases hl : leadS (restF K0 x).1 < 0
    · have e : insF K0 x = K0 := by unfold insF; rw [norm_leadS, if_pos hl]
      rw [e]
      rcases List.mem_append.1 hy with hy | hy
      · exact h.ge y hy
      · rw [List.mem_singleton] at hy; rw [hy]
        have hz : zeroS (restF K0 x).2 = true := by
          unfold clashB at hc
          rw [decide_eq_true hl] at hc
          simpa using hc
        exact (rest_span h.kept hx).1 ((rest_nil h.kept hx hl).2 hz)
    · obtain ⟨i1, i2, i3⟩ := insF_span h.kept hx hl
      rcases List.mem_append.1 hy with hy | hy
      · refine Sp.trans (fun a ha => ?_) (h.ge y hy)
        obtain ⟨q, hq, rfl⟩ := List.mem_map.1 ha
        exact i2 q hq
      · rw [List.mem_singleton] at hy; rw [hy]; exact i3
theorem kept_ind {k n : Nat} {K : List Rw} (h : KeptS k n K) : Ind (K.map vR) := by
  have := (tri_of_sorted h.rows h.sorted).ind
  rwa [tri_fst] at this
/-- vectors and data in one -/
def widesL (X : List Rw) : List (List UInt8) := X.map cat
def vecsL (X : List Rw) : List (List UInt8) := X.map (fun x : Rw => x.1)
theorem wides_vf (X : List Rw) : (widesL X).map vf = X.map vR := by unfold widesL; rw [List.map_map]; rfl
theorem wides_rk {k n : Nat} {X : List Rw} (h : ∀ x, x ∈ X → Fit k n x) : Rk (X.map vR) (iK (widesL X)).length := by
  have := ins_rank (n := k + n) (widesL X) (fun r hr => by obtain ⟨x, hx, rfl⟩ := List.mem_map.1 hr; exact (h x hx).cat)
  rw [wides_vf] at this
  exact this
theorem Spg.rank {k n : Nat} {X K0 : List Rw} (h : Spg k n X K0) : (iK (widesL X)).length = K0.length := by
  refine (wides_rk h.fit).unique ⟨K0.map vR, kept_ind h.kept, by simp, fun b hb => ?_, fun a ha => ?_⟩
  · obtain ⟨r, hr, rfl⟩ := List.mem_map.1 hb; exact h.le r hr
  · obtain ⟨x, hx, rfl⟩ := List.mem_map.1 ha; exact h.ge x hx
theorem vecs_rank (X : List Rw) : (iK (vecsL X)).length = (kD X).length := by
  have := kD_pr X []
  show ((X.map (fun x : Rw => x.1)).foldl (fun K r => insF K (r, [])) []).length = _
  rw [show ([] : List Rw) = ([] : List Rw).map prR from rfl, this, List.length_map]; rfl
/-- a row that clashes makes the rank greater -/
theorem clash_rank {k n : Nat} {X K0 : List Rw} {x : Rw} (h : Spg k n X K0) (hx : Fit k n x) (hc : clashB K0 x = true) : K0.length + 1 ≤ (iK (widesL (X ++ [x]))).length := by
  have hl : leadS (restF K0 x).1 < 0 := by
    unfold clashB at hc; rw [Bool.and_eq_true] at hc; exact of_decide_eq_true hc.1
  have hz : ¬ zeroS (restF K0 x).2 = true := by
    unfold clashB at hc; rw [Bool.and_eq_true] at hc
    intro e; rw [e] at hc; exact absurd hc.2 (by decide)
  have hn : ¬ ∀ j, vR (restF K0 x) j = 0 := fun g => hz ((rest_nil h.kept hx hl).1 g)
  obtain ⟨l, hlz⟩ : ∃ l, vR (restF K0 x) l ≠ 0 := Classical.byContradiction fun g => hn fun j => Classical.byContradiction fun e => g ⟨j, e⟩
  have rK : vR (restF K0 x) = red (tri K0) (vR x) := rest_red h.kept.rows hx
  have T := tri_of_sorted h.kept.rows h.kept.sorted
  have hT : Tri (tri K0 ++ [((fun j => gmul (ginv (vR (restF K0 x) l)) (vR (restF K0 x) j)), l)]) := by
    refine T.snoc (fun p hp => ?_) (ginv_gmul _ hlz)
    show gmul _ _ = 0
    rw [rK, red_at T p hp, gmul_zero]
  have hI := hT.ind
  rw [List.map_append, tri_fst] at hI
  obtain ⟨B, hB, hBl, hB1, hB2⟩ := wides_rk (X := X ++ [x]) (k := k) (n := n) (fun y hy => by
    rcases List.mem_append.1 hy with hy | hy
    · exact h.fit y hy
    · rw [List.mem_singleton] at hy; rw [hy]; exact hx)
  rw [← hBl]
  have hlen : ((K0.map fun r => vf (cat r)) ++ [((fun j => gmul (ginv (vR (restF K0 x) l)) (vR (restF K0 x) j)), l)].map (·.1)).length = K0.length + 1 := by simp
  rw [← hlen]
  have memX : ∀ a, a ∈ X.map vR → a ∈ (X ++ [x]).map vR := fun a ha => by rw [List.map_append]; exact List.mem_append.2 (.inl ha)
  refine exchange _ _ hI fun a ha => Sp.trans hB2 ?_
  rcases List.mem_append.1 ha with ha | ha
  · obtain ⟨r, hr, rfl⟩ := List.mem_map.1 ha
    exact Sp.sub memX (h.le r hr)
  · simp only [List.map_cons, List.map_nil, List.mem_singleton] at ha
    rw [ha]
    refine Sp.scale _ ?_
    have s := red_span (tri K0) (vR x)
    rw [tri_fst, ← rK] at s
    have s2 : Sp ((X ++ [x]).map vR) (fun j => vR x j ^^^ vR (restF K0 x) j) := Sp.trans (fun a ha => by
      obtain ⟨r, hr, rfl⟩ := List.mem_map.1 ha
      exact Sp.sub memX (h.le r hr)) s
    have s3 := Sp.add (Sp.mem (show vR x ∈ (X ++ [x]).map vR by simp)) s2
    have e : vR (restF K0 x) = fun j => vR x j ^^^ (vR x j ^^^ vR (restF K0 x) j) := by
      funext j; rw [← xor_assoc, xor_self, zero_xor]
    rw [e]; exact s3
/-- no row ahead of place j clashes -/
def calm (D : List Rw) (j : Nat) : Prop := ∀ i x, i < j → D[i]? = some x → clashB (kD (D.take i)) x = false
theorem calm_spg {k n : Nat} {D : List Rw} (hD : ∀ x, x ∈ D → Fit k n x) : ∀ j, calm D j → Spg k n (D.take j) (kD (D.take j))
  | 0, _ => by rw [List.take_zero]; exact Spg.nil k n
  | j + 1, h => by
    have ih := calm_spg hD j (fun i x hi hx => h i x (by omega) hx)
    by_cases hj : j < D.length
    · have e := List.getElem?_eq_getElem hj
      rw [List.take_add_one, e]
      show Spg k n (D.take j ++ [D[j]]) (kD (D.take j ++ [D[j]]))
      rw [kD_snoc]
      exact ih.snoc (hD _ (List.getElem_mem hj)) (h j _ (by omega) e)
    · rw [List.take_of_length_le (by omega)] at ih ⊢
      exact ih
/-- the document's test at place j -/
theorem judge_at {k n : Nat} {D : List Rw} (hD : ∀ x, x ∈ D → Fit k n x) {j : Nat} {x : Rw} (hx : D[j]? = some x) (h : calm D j) : ((iK (vecsL (D.take (j + 1)))).length = (iK (widesL (D.take (j + 1)))).length) ↔ clashB (kD (D.take j)) x = false := by
  have S := calm_spg hD j h
  have hxD : x ∈ D := List.mem_of_getElem? hx
  have et : D.take (j + 1) = D.take j ++ [x] := by rw [List.take_add_one, hx]; rfl
  cases hc : clashB (kD (D.take j)) x with
  | false =>
    have S2 := S.snoc (hD x hxD) hc
    rw [et, S2.rank, vecs_rank, kD_snoc]
    simp
  | true =>
    have g := clash_rank S (hD x hxD) hc
    have hl : leadS (restF (kD (D.take j)) x).1 < 0 := by
      unfold clashB at hc; rw [Bool.and_eq_true] at hc; exact of_decide_eq_true hc.1
    have e : insF (kD (D.take j)) x = kD (D.take j) := by unfold insF; rw [norm_leadS, if_pos hl]
    rw [et, vecs_rank, kD_snoc, e]
    constructor
    · intro h2; omega
    · intro h2; cases h2
end Go.Proofs.YtbfmdfbnhakolaaGreatDoor
namespace Go.By
/-- the digits of a number, the lowest first -/
def digs (b : Nat) (n : Nat) : List Nat := if h : n = 0 ∨ b ≤ 1 then [] else n % b :: digs b (n / b)
termination_by n
decreasing_by exact Nat.div_lt_self (by omega) (by omega)
theorem digs_zero (b : Nat) : digs b 0 = [] := by unfold digs; simp
theorem digs_pos {b n : Nat} (hb : 2 ≤ b) (hn : 0 < n) : digs b n = n % b :: digs b (n / b) := by
  conv => lhs; unfold digs
  rw [dif_neg (by omega)]
/-- the number that digits are -/
def valD (b : Nat) : List Nat → Nat
  | [] => 0
  | x :: xs => x + b * valD b xs
theorem valD_append (b : Nat) : ∀ (xs ys : List Nat), valD b (xs ++ ys) = valD b xs + b ^ xs.length * valD b ys
  | [], ys => by simp [valD]
  | x :: xs, ys => by
    show x + b * valD b (xs ++ ys) = x + b * valD b xs + b ^ (xs.length + 1) * valD b ys
    rw [valD_append b xs ys, Nat.mul_add, Nat.pow_succ, Nat.add_assoc]
    congr 2
    rw [← Nat.mul_assoc, Nat.mul_comm b]
theorem valD_zeros (b : Nat) : ∀ k, valD b (List.replicate k 0) = 0
  | 0 => rfl
  | k + 1 => by rw [List.replicate_succ]; show 0 + b * valD b (List.replicate k 0) = 0; rw [valD_zeros b k]; simp
theorem valD_digs {b : Nat} (hb : 2 ≤ b) (n : Nat) : valD b (digs b n) = n := by
  induction n using Nat.strongRecOn with
  | ind n ih =>
    rcases Nat.eq_zero_or_pos n with h | h
    · subst h; rw [digs_zero]; rfl
    · rw [digs_pos hb h]
      show n % b + b * valD b (digs b (n / b)) = n
      rw [ih (n / b) (Nat.div_lt_self h hb)]
      exact Nat.mod_add_div n b
theorem digs_lt {b : Nat} (hb : 2 ≤ b) (n : Nat) : ∀ x, x ∈ digs b n → x < b := by
  induction n using Nat.strongRecOn with
  | ind n ih =>
    intro x hx
    rcases Nat.eq_zero_or_pos n with h | h
    · subst h; rw [digs_zero] at hx; cases hx
    · rw [digs_pos hb h] at hx
      rcases List.mem_cons.1 hx with rfl | hx
      · exact Nat.mod_lt _ (by omega)
      · exact ih (n / b) (Nat.div_lt_self h hb) x hx
theorem valD_lt {b : Nat} (hb : 2 ≤ b) : ∀ (xs : List Nat), (∀ x, x ∈ xs → x < b) → valD b xs < b ^ xs.length
  | [], _ => by simp [valD]
  | x :: xs, h => by
    have h1 := h x (by simp)
    have h2 := valD_lt hb xs (fun y hy => h y (by simp [hy]))
    show x + b * valD b xs < b ^ (xs.length + 1)
    rw [Nat.pow_succ, Nat.mul_comm (b ^ xs.length)]
    have h3 : b * (valD b xs + 1) ≤ b * b ^ xs.length := Nat.mul_le_mul_left b h2
    rw [Nat.mul_add] at h3
    omega
/-- digits whose last isn't 0 are those of their number -/
theorem digs_valD {b : Nat} (hb : 2 ≤ b) : ∀ (xs : List Nat), (∀ x, x ∈ xs → x < b) → xs.getLast? ≠ some 0 → digs b (valD b xs) = xs
  | [], _, _ => digs_zero b
  | x :: xs, h, hl => by
    have h1 := h x (by simp)
    have ih := digs_valD hb xs (fun y hy => h y (by simp [hy]))
    have hpos : 0 < valD b (x :: xs) := by
      show 0 < x + b * valD b xs
      cases xs with
      | nil =>
        have : x ≠ 0 := by simpa using hl
        omega
      | cons y ys =>
        have hl2 : (y :: ys).getLast? ≠ some 0 := by simpa [List.getLast?_cons_cons] using hl
        have h2 := ih hl2
        have : valD b (y :: ys) ≠ 0 := fun e => by rw [e, digs_zero] at h2; cases h2
        have : 0 < b * valD b (y :: ys) := Nat.mul_pos (by omega) (by omega)
        omega
    rw [digs_pos hb hpos]
    have e1 : valD b (x :: xs) % b = x := by
      show (x + b * valD b xs) % b = x
      rw [Nat.add_mul_mod_self_left, Nat.mod_eq_of_lt h1]
    have e2 : valD b (x :: xs) / b = valD b xs := by
      show (x + b * valD b xs) / b = _
      rw [Nat.add_mul_div_left _ _ (by omega), Nat.div_eq_of_lt h1, Nat.zero_add]
    rw [e1, e2]
    cases xs with
    | nil => rw [show valD b [] = 0 from rfl, digs_zero]
    | cons y ys => rw [ih (by simpa [List.getLast?_cons_cons] using hl)]
/-- the last digit isn't 0 -/
theorem digs_last {b : Nat} (hb : 2 ≤ b) (n : Nat) : (digs b n).getLast? ≠ some 0 := by
  induction n using Nat.strongRecOn with
  | ind n ih =>
    rcases Nat.eq_zero_or_pos n with h | h
    · subst h; rw [digs_zero]; simp
    · rw [digs_pos hb h]
      have hlt := Nat.div_lt_self h hb
      rcases Nat.eq_zero_or_pos (n / b) with h2 | h2
      · rw [h2, digs_zero]
        have : n % b = n := by have := Nat.mod_add_div n b; rw [h2] at this; omega
        simp; omega
      · have := ih _ hlt
        rw [digs_pos hb h2] at this ⊢
        simpa [List.getLast?_cons_cons] using this
theorem digs_inj {b : Nat} (hb : 2 ≤ b) {m n : Nat} (h : digs b m = digs b n) : m = n := by
  rw [← valD_digs hb m, h, valD_digs hb n]
/-- the low k digits -/
def lowD (b : Nat) : Nat → Nat → List Nat
  | 0, _ => []
  | k + 1, n => n % b :: lowD b k (n / b)
theorem lowD_len (b : Nat) : ∀ k n, (lowD b k n).length = k
  | 0, _ => rfl
  | k + 1, n => by show (lowD b k (n / b)).length + 1 = _; rw [lowD_len]
theorem lowD_zero (b : Nat) : ∀ k, lowD b k 0 = List.replicate k 0
  | 0 => rfl
  | k + 1 => by show 0 % b :: lowD b k (0 / b) = _; rw [Nat.zero_mod, Nat.zero_div, lowD_zero b k]; rfl
/-- a number below b^k, with noughts behind -/
theorem lowD_pad {b : Nat} (hb : 2 ≤ b) : ∀ k n, n < b ^ k → lowD b k n = digs b n ++ List.replicate (k - (digs b n).length) 0 ∧ (digs b n).length ≤ k
  | 0, n, h => by
    have : n = 0 := by simpa using h
    subst this
    rw [digs_zero]; exact ⟨rfl, Nat.le_refl _⟩
  | k + 1, n, h => by
    rcases Nat.eq_zero_or_pos n with h0 | h0
    · subst h0; rw [digs_zero, lowD_zero]; exact ⟨rfl, Nat.zero_le _⟩
    · have h1 : n / b < b ^ k := Nat.div_lt_of_lt_mul (by rw [Nat.pow_succ, Nat.mul_comm] at h; exact h)
      obtain ⟨e, hl⟩ := lowD_pad hb k (n / b) h1
      rw [digs_pos hb h0]
      show n % b :: lowD b k (n / b) = _ ∧ _
      rw [e]
      refine ⟨?_, by simpa using hl⟩
      simp
/-- a number of two parts -/
theorem digs_join {b : Nat} (hb : 2 ≤ b) : ∀ k w n, w < b ^ k → 0 < n → digs b (w + b ^ k * n) = lowD b k w ++ digs b n
  | 0, w, n, h, hn => by
    have : w = 0 := by simpa using h
    subst this
    simp [lowD]
  | k + 1, w, n, h, hn => by
    have hp : 0 < b ^ (k + 1) * n := Nat.mul_pos (Nat.pow_pos (by omega)) hn
    rw [digs_pos hb (by omega)]
    have h1 : w / b < b ^ k := Nat.div_lt_of_lt_mul (by rw [Nat.pow_succ, Nat.mul_comm] at h; exact h)
    have e0 : b ^ (k + 1) * n = b * (b ^ k * n) := by rw [Nat.pow_succ, Nat.mul_comm (b ^ k), Nat.mul_assoc]
    have e1 : (w + b ^ (k + 1) * n) % b = w % b := by rw [e0, Nat.add_mul_mod_self_left]
    have e2 : (w + b ^ (k + 1) * n) / b = w / b + b ^ k * n := by rw [e0, Nat.add_mul_div_left _ _ (by omega)]
    rw [e1, e2, digs_join hb k (w / b) n h1 hn]
    rfl
end Go.By
namespace Go.By
theorem valD_snoc (b : Nat) (xs : List Nat) (x : Nat) : valD b (xs ++ [x]) = valD b xs + b ^ xs.length * x := by
  rw [valD_append]; show _ + _ * (x + b * 0) = _; rw [Nat.mul_zero, Nat.add_zero]
theorem valD_take {b i : Nat} {xs : List Nat} {x : Nat} (h : xs[i]? = some x) : valD b (xs.take (i + 1)) = valD b (xs.take i) + b ^ i * x := by
  have hi := (List.getElem?_eq_some_iff.1 h).1
  rw [List.take_add_one, h]
  show valD b (xs.take i ++ [x]) = _
  rw [valD_snoc, List.length_take, Nat.min_eq_left (by omega)]
theorem valD_take_none {b i : Nat} {xs : List Nat} (h : xs.length ≤ i) : valD b (xs.take (i + 1)) = valD b (xs.take i) := by
  rw [List.take_of_length_le (by omega), List.take_of_length_le h]
/-- a digit, or 0 behind the end -/
def digAt (xs : List Nat) (i : Nat) : Nat := xs.getD i 0
theorem valD_takeD (b i : Nat) (xs : List Nat) : valD b (xs.take (i + 1)) = valD b (xs.take i) + b ^ i * digAt xs i := by
  unfold digAt
  rcases Nat.lt_or_ge i xs.length with h | h
  · rw [valD_take (List.getElem?_eq_getElem h), List.getD_eq_getElem?_getD, List.getElem?_eq_getElem h]; rfl
  · rw [valD_take_none h, List.getD_eq_getElem?_getD, List.getElem?_eq_none h]; simp
theorem valD_set {b : Nat} : ∀ (xs : List Nat) (i x y : Nat), xs[i]? = some y → valD b (xs.set i x) + b ^ i * y = valD b xs + b ^ i * x
  | [], i, x, y, h => by simp at h
  | a :: xs, 0, x, y, h => by
    have : a = y := by simpa using h
    subst this
    show x + b * valD b xs + 1 * a = a + b * valD b xs + 1 * x
    omega
  | a :: xs, i + 1, x, y, h => by
    have ih := valD_set (b := b) xs i x y (by simpa using h)
    show a + b * valD b (xs.set i x) + b ^ (i + 1) * y = a + b * valD b xs + b ^ (i + 1) * x
    have e1 : b ^ (i + 1) * y = b * (b ^ i * y) := by rw [Nat.pow_succ, Nat.mul_comm (b ^ i), Nat.mul_assoc]
    have e2 : b ^ (i + 1) * x = b * (b ^ i * x) := by rw [Nat.pow_succ, Nat.mul_comm (b ^ i), Nat.mul_assoc]
    rw [e1, e2, Nat.add_assoc, ← Nat.mul_add, ih, Nat.mul_add, Nat.add_assoc]
/-- one step of a sum -/
theorem add_step {b i c x y S A B c' s' : Nat} (h : S + b ^ i * c = A + B) (hs : s' = (x + y + c) % b) (hc : c' = (x + y + c) / b) : (S + b ^ i * s') + b ^ (i + 1) * c' = (A + b ^ i * x) + (B + b ^ i * y) := by
  have h1 : s' + b * c' = x + y + c := by rw [hs, hc]; exact Nat.mod_add_div _ _
  have h2 : b ^ (i + 1) * c' = b ^ i * (b * c') := by rw [Nat.pow_succ, Nat.mul_assoc]
  have h3 : b ^ i * s' + b ^ i * (b * c') = b ^ i * x + b ^ i * y + b ^ i * c := by rw [← Nat.mul_add, h1, Nat.mul_add, Nat.mul_add]
  rw [h2]; omega
/-- one step of a difference: with a borrow, or none -/
theorem sub_step {b i x y c S A B c' s' : Nat} (hi : S + B = A + b ^ i * c) (hs : s' + y + c = x + b * c') : (S + b ^ i * s') + (B + b ^ i * y) = (A + b ^ i * x) + b ^ (i + 1) * c' := by
  have h2 : b ^ (i + 1) * c' = b ^ i * (b * c') := by rw [Nat.pow_succ, Nat.mul_assoc]
  have h3 : b ^ i * s' + b ^ i * y + b ^ i * c = b ^ i * x + b ^ i * (b * c') := by rw [← Nat.mul_add, ← Nat.mul_add, hs, Nat.mul_add]
  rw [h2]; omega
/-- which is greater: the longer one -/
theorem val_len {b : Nat} (hb : 2 ≤ b) {xs ys : List Nat} (hx : ∀ x, x ∈ xs → x < b) (hl : ys.getLast? ≠ some 0) (h : xs.length < ys.length) : valD b xs < valD b ys := by
  have h1 := valD_lt hb xs hx
  have hne : ys ≠ [] := fun e => by rw [e] at h; simp at h
  obtain ⟨zs, z, rfl⟩ : ∃ zs z, ys = zs ++ [z] := ⟨ys.dropLast, ys.getLast hne, (List.dropLast_concat_getLast hne).symm⟩
  rw [List.length_append, List.length_singleton] at h
  have hz : z ≠ 0 := by simpa using hl
  rw [valD_snoc]
  have h2 : b ^ xs.length ≤ b ^ zs.length := Nat.pow_le_pow_right (by omega) (by omega)
  have h3 : b ^ zs.length * 1 ≤ b ^ zs.length * z := Nat.mul_le_mul_left _ (by omega)
  omega
/-- .. of one length: the one whose highest unlike digit is greater -/
theorem val_top {b : Nat} (hb : 2 ≤ b) {xs ys hs : List Nat} {x y : Nat} (hx : ∀ a, a ∈ xs → a < b) (hl : xs.length = ys.length) (h : x < y) : valD b (xs ++ x :: hs) < valD b (ys ++ y :: hs) := by
  rw [valD_append, valD_append, hl]
  have h1 := valD_lt hb xs hx
  rw [hl] at h1
  have h2 : b ^ ys.length * valD b (x :: hs) + b ^ ys.length ≤ b ^ ys.length * valD b (y :: hs) := by
    rw [← Nat.mul_succ]
    refine Nat.mul_le_mul_left _ ?_
    show x + b * valD b hs + 1 ≤ y + b * valD b hs
    omega
  omega
end Go.By
namespace Go.By
/-- digits are those of their number, with noughts behind -/
theorem digs_trim {b : Nat} (hb : 2 ≤ b) : ∀ (n : Nat) (xs : List Nat), xs.length = n → (∀ x, x ∈ xs → x < b) → ∃ k, xs = digs b (valD b xs) ++ List.replicate k 0
  | 0, xs, hl, _ => by
    have : xs = [] := List.length_eq_zero_iff.1 hl
    subst this
    exact ⟨0, by simp [valD, digs_zero]⟩
  | n + 1, xs, hl, h => by
    have hne : xs ≠ [] := fun e => by rw [e] at hl; simp at hl
    obtain ⟨ys, y, rfl⟩ : ∃ ys y, xs = ys ++ [y] := ⟨xs.dropLast, xs.getLast hne, (List.dropLast_concat_getLast hne).symm⟩
    by_cases hy : y = 0
    · subst hy
      obtain ⟨k, e⟩ := digs_trim hb n ys (by simpa using hl) (fun x hx => h x (List.mem_append.2 (.inl hx)))
      refine ⟨k + 1, ?_⟩
      rw [valD_snoc, Nat.mul_zero, Nat.add_zero, List.replicate_succ', ← List.append_assoc, ← e]
    · exact ⟨0, by rw [digs_valD hb _ h (by simpa using hy)]; simp⟩
/-- a digit of base 16, as a letter -/
def hexc (d : Nat) : UInt8 := UInt8.ofNat (if d < 10 then 48 + d else 87 + d)
def hexText (n : Nat) : List UInt8 := if n = 0 then [48] else (digs 16 n).reverse.map hexc
theorem hexc_zero {d : Nat} (hd : d < 16) : hexc d = 48 ↔ d = 0 := by
  have : ∀ d : Fin 16, hexc d.val = 48 ↔ d.val = 0 := by decide
  exact this ⟨d, hd⟩
theorem hexc_inj {d e : Nat} (hd : d < 16) (he : e < 16) (h : hexc d = hexc e) : d = e := by
  have : ∀ d e : Fin 16, hexc d.val = hexc e.val → d.val = e.val := by decide
  exact this ⟨d, hd⟩ ⟨e, he⟩ h
theorem map_inj {α β : Type} {f : α → β} {p : α → Prop} (hf : ∀ a b, p a → p b → f a = f b → a = b) : ∀ {xs ys : List α}, (∀ x, x ∈ xs → p x) → (∀ y, y ∈ ys → p y) → xs.map f = ys.map f → xs = ys
  | [], [], _, _, _ => rfl
  | [], _ :: _, _, _, h => by simp at h
  | _ :: _, [], _, _, h => by simp at h
  | x :: xs, y :: ys, hx, hy, h => by
    rw [List.map_cons, List.map_cons] at h
    injection h with h1 h2
    rw [hf x y (hx x (by simp)) (hy y (by simp)) h1, map_inj hf (fun z hz => hx z (by simp [hz])) (fun z hz => hy z (by simp [hz])) h2]
theorem hexText_inj {m n : Nat} (h : hexText m = hexText n) : m = n := by
  have one : ∀ n : Nat, n ≠ 0 → hexText n ≠ [48] := fun n hn e => by
    unfold hexText at e
    rw [if_neg hn] at e
    have h1 := congrArg List.reverse e
    rw [List.map_reverse, List.reverse_reverse] at h1
    rw [digs_pos (by decide) (by omega)] at h1
    rw [List.map_cons] at h1
    injection h1 with h1 h2
    have h3 : n % 16 = 0 := (hexc_zero (Nat.mod_lt _ (by decide))).1 h1
    have h4 : digs 16 (n / 16) = [] := by simpa using h2
    have h5 := valD_digs (b := 16) (by decide) (n / 16)
    rw [h4] at h5
    have h6 : n / 16 = 0 := h5.symm
    omega
  by_cases hm : m = 0
  · by_cases hn : n = 0
    · rw [hm, hn]
    · exact absurd (by rw [← h, hm]; rfl) (one n hn)
  · by_cases hn : n = 0
    · exact absurd (by rw [h, hn]; rfl) (one m hm)
    · unfold hexText at h
      rw [if_neg hm, if_neg hn] at h
      have h1 := map_inj (p := fun d => d < 16) (fun a b ha hb e => hexc_inj ha hb e) (fun x hx => digs_lt (by decide) m x (List.mem_reverse.1 hx)) (fun x hx => digs_lt (by decide) n x (List.mem_reverse.1 hx)) h
      exact digs_inj (b := 16) (by decide) (by have h2 := congrArg List.reverse h1; rwa [List.reverse_reverse, List.reverse_reverse] at h2)
/-- a word more ahead of a number's text: sixteen letters -/
theorem hexText_join {k w n : Nat} (hw : w < 16 ^ k) (hn : 0 < n) : hexText (w + 16 ^ k * n) = hexText n ++ (lowD 16 k w).reverse.map hexc := by
  have h1 : w + 16 ^ k * n ≠ 0 := by have : 0 < 16 ^ k * n := Nat.mul_pos (Nat.pow_pos (by decide)) hn; omega
  unfold hexText
  rw [if_neg h1, if_neg (by omega), digs_join (by decide) k w n hw hn, List.reverse_append, List.map_append]
/-- .. a word's letters, with noughts ahead -/
theorem hex_pad {k w : Nat} (hk : 1 ≤ k) (hw : w < 16 ^ k) : (lowD 16 k w).reverse.map hexc = List.replicate (k - (hexText w).length) 48 ++ hexText w ∧ (hexText w).length ≤ k := by
  obtain ⟨e, hl⟩ := lowD_pad (b := 16) (by decide) k w hw
  by_cases h0 : w = 0
  · subst h0
    rw [lowD_zero]
    refine ⟨?_, by simpa [hexText] using hk⟩
    show _ = List.replicate (k - 1) 48 ++ [48]
    rw [List.reverse_replicate, List.map_replicate, ← List.replicate_succ', show k - 1 + 1 = k by omega]
    rfl
  · have hlen : (hexText w).length = (digs 16 w).length := by unfold hexText; rw [if_neg h0, List.length_map, List.length_reverse]
    refine ⟨?_, by rw [hlen]; exact hl⟩
    rw [hlen, e, List.reverse_append, List.map_append, List.reverse_replicate, List.map_replicate]
    unfold hexText
    rw [if_neg h0]; rfl
/-- noughts ahead struck, but for one letter -/
def strip0 : List UInt8 → List UInt8
  | [] => []
  | [x] => [x]
  | x :: y :: l => if x = 48 then strip0 (y :: l) else x :: y :: l
theorem strip0_head {x : UInt8} {l : List UInt8} (h : x ≠ 48) : strip0 (x :: l) = x :: l := by
  cases l with
  | nil => rfl
  | cons y l => unfold strip0; rw [if_neg h]
theorem strip0_zeros : ∀ (k : Nat) {x : UInt8} {l : List UInt8}, x ≠ 48 → strip0 (List.replicate k 48 ++ x :: l) = x :: l
  | 0, x, l, h => strip0_head h
  | k + 1, x, l, h => by
    have ih := strip0_zeros k (l := l) h
    rw [List.replicate_succ, List.cons_append]
    cases hk : List.replicate k 48 ++ x :: l with
    | nil => simp at hk
    | cons y m =>
      unfold strip0
      rw [if_pos rfl, ← hk]; exact ih
theorem strip0_all : ∀ k, strip0 (List.replicate (k + 1) 48) = [48]
  | 0 => rfl
  | k + 1 => by
    have ih := strip0_all k
    rw [List.replicate_succ]
    cases hk : List.replicate (k + 1) (48 : UInt8) with
    | nil => simp at hk
    | cons y m =>
      unfold strip0
      rw [if_pos rfl, ← hk]; exact ih
/-- the text of digits, whatever noughts they have behind -/
theorem strip_hex {xs : List Nat} (h : ∀ x, x ∈ xs → x < 16) : (if strip0 (xs.reverse.map hexc) = [] then [48] else strip0 (xs.reverse.map hexc)) = hexText (valD 16 xs) := by
  obtain ⟨k, e⟩ := digs_trim (b := 16) (by decide) _ xs rfl h
  obtain ⟨n, hn⟩ : ∃ n, n = valD 16 xs := ⟨_, rfl⟩
  rw [← hn] at e ⊢
  rw [e, List.reverse_append, List.reverse_replicate, List.map_append, List.map_replicate, show hexc 0 = 48 from rfl]
  by_cases h0 : n = 0
  · subst h0
    rw [digs_zero]
    cases k with
    | zero => simp [strip0, hexText]
    | succ k => simp [strip0_all, hexText]
  · have hl := digs_last (b := 16) (by decide) n
    cases hr : (digs 16 n).reverse with
    | nil =>
      have : digs 16 n = [] := by simpa using hr
      rw [digs_pos (by decide) (by omega)] at this; cases this
    | cons x l =>
      have hx : (digs 16 n).getLast? = some x := by rw [← List.head?_reverse, hr]; rfl
      have hx0 : x ≠ 0 := fun e => by rw [hx, e] at hl; exact hl rfl
      have hx16 : x < 16 := digs_lt (by decide) n x (by have : x ∈ (digs 16 n).reverse := by rw [hr]; simp
                                                        exact List.mem_reverse.1 this)
      rw [List.map_cons, strip0_zeros k (fun e => hx0 ((hexc_zero hx16).1 e))]
      rw [if_neg (by simp)]
      unfold hexText
      rw [if_neg h0, hr]; rfl
/-- bytes as half bytes -/
def nibs : List Nat → List Nat
  | [] => []
  | x :: xs => x % 16 :: x / 16 :: nibs xs
theorem valD_nibs : ∀ xs, valD 16 (nibs xs) = valD 256 xs
  | [] => rfl
  | x :: xs => by
    show x % 16 + 16 * (x / 16 + 16 * valD 16 (nibs xs)) = x + 256 * valD 256 xs
    rw [valD_nibs xs]; omega
theorem nibs_lt : ∀ {xs : List Nat}, (∀ x, x ∈ xs → x < 256) → ∀ y, y ∈ nibs xs → y < 16
  | [], _, y, h => by cases h
  | x :: xs, h, y, hy => by
    have hx := h x (by simp)
    have hy' : y = x % 16 ∨ y = x / 16 ∨ y ∈ nibs xs := by simpa [nibs] using hy
    rcases hy' with rfl | rfl | hy
    · omega
    · omega
    · exact nibs_lt (fun z hz => h z (by simp [hz])) y hy
end Go.By
namespace Go.By
/-- a letter's digit -/
def hexd (c : UInt8) : Nat := if c.toNat < 58 then c.toNat - 48 else c.toNat - 87
def isHex (c : UInt8) : Bool := decide (48 ≤ c.toNat ∧ c.toNat ≤ 57) || decide (97 ≤ c.toNat ∧ c.toNat ≤ 102)
theorem hexd_lt {c : UInt8} (h : isHex c = true) : hexd c < 16 := by
  unfold isHex at h
  rw [Bool.or_eq_true, decide_eq_true_eq, decide_eq_true_eq] at h
  unfold hexd; split <;> omega
theorem hexd_hexc {d : Nat} (h : d < 16) : hexd (hexc d) = d ∧ isHex (hexc d) = true := by
  have : ∀ d : Fin 16, hexd (hexc d.val) = d.val ∧ isHex (hexc d.val) = true := by decide
  exact this ⟨d, h⟩
/-- the number of a text of base 16 -/
def valT (s : List UInt8) : Nat := valD 16 (s.reverse.map hexd)
theorem valT_append (s t : List UInt8) : valT (s ++ t) = valT t + 16 ^ t.length * valT s := by
  unfold valT
  rw [List.reverse_append, List.map_append, valD_append, List.length_map, List.length_reverse]
theorem valT_snoc (s : List UInt8) (c : UInt8) : valT (s ++ [c]) = hexd c + 16 * valT s := by
  rw [valT_append]
  show valD 16 [hexd c] + 16 ^ 1 * valT s = _
  show hexd c + 16 * 0 + _ = _
  rw [Nat.mul_zero, Nat.add_zero, Nat.pow_one]
theorem valT_lt {s : List UInt8} (h : ∀ c, c ∈ s → isHex c = true) : valT s < 16 ^ s.length := by
  have := valD_lt (b := 16) (by decide) (s.reverse.map hexd) (fun x hx => by
    obtain ⟨c, hc, rfl⟩ := List.mem_map.1 hx
    exact hexd_lt (h c (List.mem_reverse.1 hc)))
  rwa [List.length_map, List.length_reverse] at this
theorem hexText_hex (n : Nat) : ∀ c, c ∈ hexText n → isHex c = true := by
  intro c hc
  unfold hexText at hc
  split at hc
  · rw [List.mem_singleton] at hc; rw [hc]; decide
  · obtain ⟨d, hd, rfl⟩ := List.mem_map.1 hc
    exact (hexd_hexc (digs_lt (by decide) n d (List.mem_reverse.1 hd))).2
theorem valT_hexText (n : Nat) : valT (hexText n) = n := by
  unfold hexText
  split
  · rename_i h; subst h; rfl
  · unfold valT
    rw [← List.map_reverse, List.reverse_reverse, List.map_map]
    have : (digs 16 n).map (hexd ∘ hexc) = (digs 16 n).map id := List.map_congr_left fun d hd => (hexd_hexc (digs_lt (by decide) n d hd)).1
    rw [this, List.map_id, valD_digs (by decide)]
theorem hexText_ne (n : Nat) : hexText n ≠ [] := by
  unfold hexText
  split
  · simp
  · rename_i h
    rw [digs_pos (by decide) (by omega)]; simp
/-- a number's text begins with no nought, but for 0 itself -/
theorem hexText_head {n : Nat} {c : UInt8} {l : List UInt8} (h : hexText n = c :: l) : c ≠ 48 ∨ l = [] := by
  unfold hexText at h
  split at h
  · injection h with h1 h2; exact .inr h2.symm
  · rename_i hn
    left
    have hl := digs_last (b := 16) (by decide) n
    cases hr : (digs 16 n).reverse with
    | nil => rw [hr] at h; cases h
    | cons x m =>
      rw [hr, List.map_cons] at h
      injection h with h1 h2
      have hx : (digs 16 n).getLast? = some x := by rw [← List.head?_reverse, hr]; rfl
      have hx16 : x < 16 := digs_lt (by decide) n x (by have : x ∈ (digs 16 n).reverse := by rw [hr]; simp
                                                        exact List.mem_reverse.1 this)
      intro e
      rw [← h1] at e
      have := (hexc_zero hx16).1 e
      rw [hx, this] at hl; exact hl rfl
/-- how long a number's text is: a bound -/
theorem hexText_len {n k : Nat} (hk : 1 ≤ k) (h : n < 16 ^ k) : (hexText n).length ≤ k := (hex_pad hk h).2
/-- a text so built is its number's -/
theorem hexText_valT {s : List UInt8} (hne : s ≠ []) (h : ∀ c, c ∈ s → isHex c = true) (h0 : ∀ c l, s = c :: l → c ≠ 48 ∨ l = []) : hexText (valT s) = s := by
  have hc : ∀ c : UInt8, isHex c = true → hexc (hexd c) = c := by
    intro c
    have : ∀ x : Fin 256, isHex (UInt8.ofNat x.val) = true → hexc (hexd (UInt8.ofNat x.val)) = UInt8.ofNat x.val := by decide +kernel
    have h2 := this ⟨c.toNat, c.toNat_lt⟩
    simpa using h2
  have back : ∀ l : List UInt8, (∀ c, c ∈ l → isHex c = true) → (l.map hexd).map hexc = l := by
    intro l hl
    rw [List.map_map]
    have : l.map (hexc ∘ hexd) = l.map id := List.map_congr_left fun c hcl => hc c (hl c hcl)
    rw [this, List.map_id]
  have hall : ∀ x, x ∈ s.reverse.map hexd → x < 16 := fun x hx => by
    obtain ⟨c, hcs, rfl⟩ := List.mem_map.1 hx
    exact hexd_lt (h c (List.mem_reverse.1 hcs))
  have hst := strip_hex hall
  rw [← List.map_reverse, List.reverse_reverse, back s h] at hst
  show hexText (valD 16 (s.reverse.map hexd)) = s
  rw [← hst]
  cases s with
  | nil => exact absurd rfl hne
  | cons c l =>
    rcases h0 c l rfl with e | e
    · rw [strip0_head e, if_neg (by simp)]
    · subst e
      rw [show strip0 [c] = [c] from rfl, if_neg (by simp)]
/-- the number of bytes, of words -/
def valB (bs : List UInt8) : Nat := valD 256 (bs.map UInt8.toNat)
def valW (ws : List UInt64) : Nat := valD 18446744073709551616 (ws.map UInt64.toNat)
theorem bytes_lt (bs : List UInt8) : ∀ x, x ∈ bs.map UInt8.toNat → x < 256 := fun x hx => by
  obtain ⟨b, _, rfl⟩ := List.mem_map.1 hx
  exact b.toNat_lt
theorem words_lt (ws : List UInt64) : ∀ x, x ∈ ws.map UInt64.toNat → x < 18446744073709551616 := fun x hx => by
  obtain ⟨b, _, rfl⟩ := List.mem_map.1 hx
  exact b.toNat_lt
theorem valB_lt (bs : List UInt8) : valB bs < 256 ^ bs.length := by
  have := valD_lt (b := 256) (by decide) _ (bytes_lt bs)
  rwa [List.length_map] at this
theorem valW_lt (ws : List UInt64) : valW ws < 18446744073709551616 ^ ws.length := by
  have := valD_lt (b := 18446744073709551616) (by decide) _ (words_lt ws)
  rwa [List.length_map] at this
/-- words, the last not 0 -/
def NormW (ws : List UInt64) : Prop := ws.getLast? ≠ some 0
theorem NormW.digs {ws : List UInt64} (h : NormW ws) : digs 18446744073709551616 (valW ws) = ws.map UInt64.toNat :=
  digs_valD (by decide) _ (words_lt ws) (by
    rw [List.getLast?_map]
    cases e : ws.getLast? with
    | none => simp
    | some x =>
      intro hx
      have : x.toNat = 0 := by simpa using hx
      have : x = 0 := UInt64.toNat_inj.1 (by simpa using this)
      exact h (by rw [e, this]))
theorem NormW.inj {ws vs : List UInt64} (h : NormW ws) (g : NormW vs) (e : valW ws = valW vs) : ws = vs := by
  have h1 := h.digs
  rw [e, g.digs] at h1
  exact (map_inj (p := fun _ => True) (f := UInt64.toNat) (fun a b _ _ hab => UInt64.toNat_inj.1 hab) (fun _ _ => trivial) (fun _ _ => trivial) h1).symm
/-- words are so many just where the number is so great -/
theorem NormW.len {ws : List UInt64} (h : NormW ws) {k : Nat} (hv : valW ws < 18446744073709551616 ^ k) : ws.length ≤ k := by
  have h1 := congrArg List.length h.digs
  rw [List.length_map] at h1
  rw [← h1]
  exact (lowD_pad (b := 18446744073709551616) (by decide) k (valW ws) hv).2
end Go.By
namespace Go.By
/-- one step of a row of a product: digit y of the second number, p what stands there, c the carry -/
theorem mul_step {b i j a y p c V V' V0 S s' c' : Nat} (h : V + b ^ (i + j) * c = V0 + b ^ i * (a * S)) (hs : s' = (a * y + p + c) % b) (hc : c' = (a * y + p + c) / b) (hv : V' + b ^ (i + j) * p = V + b ^ (i + j) * s') : V' + b ^ (i + (j + 1)) * c' = V0 + b ^ i * (a * (S + b ^ j * y)) := by
  have h1 : s' + b * c' = a * y + p + c := by rw [hs, hc]; exact Nat.mod_add_div _ _
  have h2 : b ^ (i + (j + 1)) * c' = b ^ (i + j) * (b * c') := by rw [← Nat.add_assoc, Nat.pow_succ, Nat.mul_assoc]
  have h3 : b ^ (i + j) * s' + b ^ (i + j) * (b * c') = b ^ (i + j) * (a * y) + b ^ (i + j) * p + b ^ (i + j) * c := by rw [← Nat.mul_add, h1, Nat.mul_add, Nat.mul_add]
  have h4 : b ^ i * (a * (S + b ^ j * y)) = b ^ i * (a * S) + b ^ (i + j) * (a * y) := by
    rw [Nat.mul_add, Nat.mul_add, Nat.pow_add, Nat.mul_assoc, Nat.mul_left_comm a]
  rw [h2, h4]; omega
/-- the row's end: the carry goes where a nought stood -/
theorem mul_row {b i n a c V V' V0 S : Nat} (h : V + b ^ (i + n) * c = V0 + b ^ i * (a * S)) (hv : V' + b ^ (i + n) * 0 = V + b ^ (i + n) * c) : V' = V0 + b ^ i * (a * S) := by
  rw [Nat.mul_zero, Nat.add_zero] at hv; omega
/-- .. and the next row -/
theorem mul_next {b i a S A V : Nat} (h : V = A * S) : V + b ^ i * (a * S) = (A + b ^ i * a) * S := by
  rw [h, Nat.add_mul, Nat.mul_assoc]
/-- a digit fits -/
theorem mul_fits {a y p c : Nat} {B : Nat} (ha : a < B) (hy : y < B) (hp : p < B) (hc : c < B) : (a * y + p + c) / B < B := by
  rw [Nat.div_lt_iff_lt_mul (by omega)]
  have h1 : a * y ≤ (B - 1) * (B - 1) := Nat.mul_le_mul (by omega) (by omega)
  obtain ⟨m, rfl⟩ : ∃ m, B = m + 1 := ⟨B - 1, by omega⟩
  have h2 : (m + 1) * (m + 1) = m * m + m + m + 1 := by rw [Nat.add_mul, Nat.mul_add]; omega
  rw [h2]
  have h3 : m + 1 - 1 = m := by omega
  rw [h3] at h1
  omega
/-- a text by words: what is ahead of the last sixteen letters, and these -/
theorem valT_cut {s : List UInt8} {e : Nat} (he : e ≤ s.length) : valT s = valT (s.drop e) + 16 ^ (s.length - e) * valT (s.take e) := by
  conv => lhs; rw [← List.take_append_drop e s]
  rw [valT_append, List.length_drop]
/-- one word more, read from a text's end: V the words' number, s so much of the text is left -/
theorem parse_step {s t : List UInt8} {V k N : Nat} (h : V + 18446744073709551616 ^ k * valT (s ++ t) = N) (ht : t.length = 16) : (V + 18446744073709551616 ^ k * valT t) + 18446744073709551616 ^ (k + 1) * valT s = N := by
  rw [← h, valT_append, ht, Nat.mul_add, Nat.pow_succ, Nat.add_assoc, Nat.mul_assoc]
theorem parse_last {t : List UInt8} {V k N : Nat} (h : V + 18446744073709551616 ^ k * valT t = N) : (V + 18446744073709551616 ^ k * valT t) + 18446744073709551616 ^ (k + 1) * valT [] = N := by
  rw [← h, show valT [] = 0 from rfl, Nat.mul_zero, Nat.add_zero]
/-- a word more ahead of a text -/
theorem text_step {w n : Nat} (hw : w < 18446744073709551616) (hn : 0 < n) : hexText (w + 18446744073709551616 * n) = hexText n ++ (List.replicate (16 - (hexText w).length) 48 ++ hexText w) ∧ (hexText w).length ≤ 16 := by
  have h := hexText_join (k := 16) (w := w) (n := n) (by simpa using hw) hn
  obtain ⟨e, hl⟩ := hex_pad (k := 16) (w := w) (by decide) (by simpa using hw)
  rw [← e]
  exact ⟨by simpa using h, hl⟩
theorem valW_drop {ws : List UInt64} {i : Nat} {x : UInt64} (h : ws[i]? = some x) : valW (ws.drop i) = x.toNat + 18446744073709551616 * valW (ws.drop (i + 1)) := by
  obtain ⟨hi, e⟩ := List.getElem?_eq_some_iff.1 h
  have : ws.drop i = x :: ws.drop (i + 1) := by rw [← e, List.getElem_cons_drop hi]
  rw [this]; rfl
/-- the highest words of a number that is none are none: never 0 -/
theorem NormW.drop_pos {ws : List UInt64} (h : NormW ws) {i : Nat} (hi : i < ws.length) : 0 < valW (ws.drop i) := by
  have hn : NormW (ws.drop i) := by
    show (ws.drop i).getLast? ≠ some 0
    rw [List.getLast?_drop, if_neg (by omega)]; exact h
  rcases Nat.eq_zero_or_pos (valW (ws.drop i)) with h0 | h0
  · have h1 := hn.digs
    rw [h0, digs_zero] at h1
    have h2 : (ws.drop i).length = 0 := by have := congrArg List.length h1; simp at this ⊢; omega
    rw [List.length_drop] at h2; omega
  · exact h0
end Go.By
namespace Go.By
theorem digs_len {b n L : Nat} (hb : 2 ≤ b) (h1 : b ^ L ≤ n) (h2 : n < b ^ (L + 1)) : (digs b n).length = L + 1 := by
  have hu := (lowD_pad hb (L + 1) n h2).2
  have hl := valD_lt hb (digs b n) (digs_lt hb n)
  rw [valD_digs hb] at hl
  have : L < (digs b n).length := (Nat.pow_lt_pow_iff_right (by omega : 1 < b)).1 (Nat.lt_of_le_of_lt h1 hl)
  omega
/-- the bytes of a word -/
theorem digs_bitLen {x : Nat} (hx : x ≠ 0) (h : x < 18446744073709551616) : (digs 256 x).length = (Lib.bitLen x + 7) / 8 ∧ 1 ≤ Lib.bitLen x ∧ Lib.bitLen x ≤ 64 := by
  obtain ⟨h1, h2, h3⟩ := Lib.bitLenAux_bounds 64 x (by simpa using h) hx
  have h4 : Lib.bitLen x ≤ 64 := Lib.bitLen_le x 64 (by decide) (by simpa using h)
  have h1 : 1 ≤ Lib.bitLen x := h1
  have h2 : 2 ^ (Lib.bitLen x - 1) ≤ x := h2
  have h3 : x < 2 ^ Lib.bitLen x := h3
  refine ⟨?_, h1, h4⟩
  obtain ⟨m, hm⟩ : ∃ m, Lib.bitLen x = m := ⟨_, rfl⟩
  rw [hm] at h1 h2 h3 h4 ⊢
  have e : (m + 7) / 8 = (m - 1) / 8 + 1 := by omega
  rw [e]
  have p : ∀ k, (256 : Nat) ^ k = 2 ^ (8 * k) := fun k => by rw [show (256 : Nat) = 2 ^ 8 from rfl, ← Nat.pow_mul]
  refine digs_len (by decide) ?_ ?_
  · rw [p]; exact Nat.le_trans (Nat.pow_le_pow_right (by decide) (by omega)) h2
  · rw [p]; exact Nat.lt_of_lt_of_le h3 (Nat.pow_le_pow_right (by decide) (by omega))
theorem digs_len_bounds {b n : Nat} (hb : 2 ≤ b) (hn : 0 < n) : ∃ L, (digs b n).length = L + 1 ∧ b ^ L ≤ n ∧ n < b ^ (L + 1) := by
  have hl := valD_lt hb (digs b n) (digs_lt hb n)
  rw [valD_digs hb] at hl
  obtain ⟨L, hL⟩ : ∃ L, (digs b n).length = L + 1 := ⟨(digs b n).length - 1, by rw [digs_pos hb hn]; simp⟩
  rw [hL] at hl
  refine ⟨L, hL, ?_, hl⟩
  rcases Nat.lt_or_ge n (b ^ L) with h | h
  · have := (lowD_pad hb L n h).2; omega
  · exact h
/-- how many bytes a number of words needs -/
theorem normW_bytes {ws : List UInt64} {k : Nat} {x : UInt64} (h : NormW ws) (hk : ws.length = k + 1) (hx : ws[k]? = some x) : (digs 256 (valW ws)).length = k * 8 + (Lib.bitLen x.toNat + 7) / 8 ∧ 1 ≤ Lib.bitLen x.toNat ∧ Lib.bitLen x.toNat ≤ 64 := by
  have hx0 : x.toNat ≠ 0 := fun e => by
    have : x = 0 := UInt64.toNat_inj.1 (by simpa using e)
    apply h
    rw [List.getLast?_eq_getElem?, hk, Nat.add_sub_cancel, hx, this]
  have hx64 : x.toNat < 18446744073709551616 := x.toNat_lt
  obtain ⟨e, h1, h2⟩ := digs_bitLen hx0 hx64
  refine ⟨?_, h1, h2⟩
  obtain ⟨L, hL, g1, g2⟩ := digs_len_bounds (b := 256) (by decide) (Nat.pos_of_ne_zero hx0)
  rw [← e, hL]
  have hv : valW ws = valD 18446744073709551616 ((ws.map UInt64.toNat).take k) + 18446744073709551616 ^ k * x.toNat := by
    have := valD_take (b := 18446744073709551616) (i := k) (xs := ws.map UInt64.toNat) (x := x.toNat) (by rw [List.getElem?_map, hx]; rfl)
    rw [← this, List.take_of_length_le (by rw [List.length_map]; omega)]; rfl
  have hlow : valD 18446744073709551616 ((ws.map UInt64.toNat).take k) < 18446744073709551616 ^ k := by
    have := valD_lt (b := 18446744073709551616) (by decide) ((ws.map UInt64.toNat).take k) (fun y hy => words_lt ws y (List.mem_of_mem_take hy))
    rwa [List.length_take, List.length_map, Nat.min_eq_left (by omega)] at this
  have p : (18446744073709551616 : Nat) ^ k = 256 ^ (8 * k) := by rw [show (18446744073709551616 : Nat) = 256 ^ 8 from rfl, ← Nat.pow_mul]
  rw [p] at hv hlow
  obtain ⟨V, hV⟩ : ∃ V, V = valD 18446744073709551616 ((ws.map UInt64.toNat).take k) := ⟨_, rfl⟩
  rw [← hV] at hv hlow
  rw [hv, show k * 8 + (L + 1) = (8 * k + L) + 1 by omega]
  refine digs_len (by decide) ?_ ?_
  · rw [Nat.pow_add]
    have := Nat.mul_le_mul_left (256 ^ (8 * k)) g1
    omega
  · rw [show 8 * k + L + 1 = 8 * k + (L + 1) by omega, Nat.pow_add]
    have : 256 ^ (8 * k) * (x.toNat + 1) ≤ 256 ^ (8 * k) * 256 ^ (L + 1) := Nat.mul_le_mul_left _ g2
    rw [Nat.mul_add] at this
    omega
/-- a number's bytes, the lowest first, the last not 0 -/
def bytesN (N : Nat) : List UInt8 := (digs 256 N).map UInt8.ofNat
theorem bytesN_toNat (N : Nat) : (bytesN N).map UInt8.toNat = digs 256 N := by
  unfold bytesN
  rw [List.map_map]
  have : (digs 256 N).map (UInt8.toNat ∘ UInt8.ofNat) = (digs 256 N).map id := List.map_congr_left fun d hd => by
    have := digs_lt (b := 256) (by decide) N d hd
    show (UInt8.ofNat d).toNat = d
    simp; omega
  rw [this, List.map_id]
theorem valB_bytesN (N : Nat) : valB (bytesN N) = N := by unfold valB; rw [bytesN_toNat, valD_digs (by decide)]
theorem bytesN_len (N : Nat) : (bytesN N).length = (digs 256 N).length := by unfold bytesN; rw [List.length_map]
theorem bytesN_zero : bytesN 0 = [] := by unfold bytesN; rw [digs_zero]; rfl
theorem bytesN_inj {M N : Nat} (h : bytesN M = bytesN N) : M = N := by rw [← valB_bytesN M, h, valB_bytesN]
/-- bytes whose last isn't 0 are those of their number -/
theorem bytesN_valB {bs : List UInt8} (h : bs.getLast? ≠ some 0) : bytesN (valB bs) = bs := by
  have e : digs 256 (valB bs) = bs.map UInt8.toNat := digs_valD (by decide) _ (bytes_lt bs) (by
    rw [List.getLast?_map]
    cases e : bs.getLast? with
    | none => simp
    | some x =>
      intro hx
      have : x.toNat = 0 := by simpa using hx
      have : x = 0 := UInt8.toNat_inj.1 (by simpa using this)
      exact h (by rw [e, this]))
  unfold bytesN
  rw [e, List.map_map]
  have : bs.map (UInt8.ofNat ∘ UInt8.toNat) = bs.map id := List.map_congr_left fun b _ => by simp
  rw [this, List.map_id]
theorem bytesN_last (N : Nat) : (bytesN N).getLast? ≠ some 0 := by
  intro h
  have := digs_last (b := 256) (by decide) N
  rw [← bytesN_toNat, List.getLast?_map, h] at this
  exact this rfl
/-- one more byte 0 behind is nothing -/
theorem valB_take_zero {bs : List UInt8} {k : Nat} {x : UInt8} (hx : bs[k]? = some x) (h0 : x.toNat = 0) : valB (bs.take (k + 1)) = valB (bs.take k) := by
  unfold valB
  rw [List.map_take, List.map_take, valD_take (x := 0) (by rw [List.getElem?_map, hx]; simp [h0])]; simp
theorem bytesN_take {bs : List UInt8} {k : Nat} {x : UInt8} (hx : bs[k]? = some x) (h0 : x.toNat ≠ 0) : bytesN (valB (bs.take (k + 1))) = bs.take (k + 1) := by
  refine bytesN_valB ?_
  rw [List.take_add_one, hx]
  simp only [Option.toList_some, List.getLast?_append, List.getLast?_singleton]
  intro h
  have : x = 0 := by simpa using h
  rw [this] at h0; exact h0 rfl
theorem valW_take_zero {ws : List UInt64} {k : Nat} {x : UInt64} (hx : ws[k]? = some x) (h0 : x.toNat = 0) : valW (ws.take (k + 1)) = valW (ws.take k) := by
  unfold valW
  rw [List.map_take, List.map_take, valD_take (x := 0) (by rw [List.getElem?_map, hx]; simp [h0])]; simp
theorem NormW_take {ws : List UInt64} {k : Nat} {x : UInt64} (hx : ws[k]? = some x) (h0 : x.toNat ≠ 0) : NormW (ws.take (k + 1)) := by
  show (ws.take (k + 1)).getLast? ≠ some 0
  rw [List.take_add_one, hx]
  simp only [Option.toList_some, List.getLast?_append, List.getLast?_singleton]
  intro h
  have : x = 0 := by simpa using h
  rw [this] at h0; exact h0 rfl
/-- so many words just where the number is so great -/
theorem NormW.big {ws : List UInt64} (h : NormW ws) {k : Nat} (hl : k < ws.length) : 18446744073709551616 ^ k ≤ valW ws := by
  rcases Nat.lt_or_ge (valW ws) (18446744073709551616 ^ k) with h1 | h1
  · have := h.len h1; omega
  · exact h1
end Go.By
namespace Go.By
open Go.RowKit
/-- a word as a value -/
abbrev W64 (x : UInt64) : Value := .int .u64 x.toNat
/-- how great a number may be -/
def powW (k : Nat) : Nat := 18446744073709551616 ^ k
theorem powW_mono {j k : Nat} (h : j ≤ k) : powW j ≤ powW k := Nat.pow_le_pow_right (by decide) h
theorem powW_lt (ws : List UInt64) : valW ws < powW ws.length := valW_lt ws
theorem powW_big {ws : List UInt64} (h : NormW ws) {k : Nat} (hl : k < ws.length) : powW k ≤ valW ws := h.big hl
def capN : Nat := powW 512
/-- where a slice's cells lie: a block of elements of type T -/
def Lies (T : TypeId) (w : World) (q : Option Addr) : Prop := ∀ a, q = some a → ∃ cs fr, w.heap[a.block]? = some (.cells cs T fr)
theorem Lies.keep {T : TypeId} {w w' : World} {q : Option Addr} (h : Lies T w q) (hb : Below w.heap.size w w') : Lies T w' q := fun a ha => by
  obtain ⟨cs, fr, hc⟩ := h a ha
  exact ⟨cs, fr, (hb.block _ (lt_of_block hc)).trans hc⟩
theorem Lies.none (T : TypeId) (w : World) : Lies T w none := fun _ h => by cases h
theorem Lies.at {T : TypeId} {w : World} {g o : Nat} {cs : Array Value} {fr : Nat × Nat} (h : w.heap[g]? = some (.cells cs T fr)) : Lies T w (some ⟨g, o, .none⟩) := fun a ha => by
  obtain rfl := Option.some.inj ha
  exact ⟨cs, fr, h⟩
/-- a block of another kind is written -/
theorem Lies.set {T T' : TypeId} {w : World} {q : Option Addr} (h : Lies T w q) {g i : Nat} {cs : Array Value} {fr : Nat × Nat} {v : Value} (hg : w.heap[g]? = some (.cells cs T' fr)) (hne : T' ≠ T) : Lies T (w.setCell ⟨g, i, .none⟩ v) q := fun a ha => by
  obtain ⟨ds, fr', hc⟩ := h a ha
  have : a.block ≠ g := fun e => by rw [e, hg] at hc; cases hc; exact hne rfl
  exact ⟨ds, fr', hsc hc this⟩
theorem Sl.setT {α : Type} {enc : α → Value} {T T' : TypeId} {w : World} {q : Option Addr} {n c : Nat} {xs : List α} (h : Sl enc w q n c xs) (hl : Lies T w q) {g i : Nat} {cs : Array Value} {fr : Nat × Nat} {v : Value} (hg : w.heap[g]? = some (.cells cs T' fr)) (hne : T' ≠ T) : Sl enc (w.setCell ⟨g, i, .none⟩ v) q n c xs := by
  refine ⟨h.len, h.le, h.max, h.nil, fun j hj => ?_⟩
  obtain ⟨b, o, hp, hc⟩ := h.rs j hj
  obtain ⟨ds, fr', hd⟩ := hl _ hp
  have : b ≠ g := fun e => by rw [show (⟨b, o, .none⟩ : Addr).block = b from rfl, e, hg] at hd; cases hd; exact hne rfl
  exact ⟨b, o, hp, (World.cell?_of_block (a := ⟨b, o + j, .none⟩) (Below.heap_setCell _ _ _ _ this)).trans hc⟩
/-- words in memory that read as a number -/
structure Ws (T : TypeId) (w : World) (q : Option Addr) (n c : Nat) (N : Nat) : Prop where
  ex : ∃ ws, Sl W64 w q n c ws ∧ NormW ws ∧ valW ws = N
  le : n ≤ 512
  lies : Lies T w q
theorem Ws.keep {T : TypeId} {w w' : World} {q : Option Addr} {n c N : Nat} (h : Ws T w q n c N) (hb : Below w.heap.size w w') : Ws T w' q n c N := by
  obtain ⟨ws, hs, hn, hv⟩ := h.ex
  exact ⟨⟨ws, hs.keep hb, hn, hv⟩, h.le, h.lies.keep hb⟩
theorem Ws.set {T T' : TypeId} {w : World} {q : Option Addr} {n c N : Nat} (h : Ws T w q n c N) {g i : Nat} {cs : Array Value} {fr : Nat × Nat} {v : Value} (hg : w.heap[g]? = some (.cells cs T' fr)) (hne : T' ≠ T) : Ws T (w.setCell ⟨g, i, none⟩ v) q n c N := by
  obtain ⟨ws, hs, hn, hv⟩ := h.ex
  exact ⟨⟨ws, hs.setT h.lies hg hne, hn, hv⟩, h.le, h.lies.set hg hne⟩
theorem Ws.lt {T : TypeId} {w : World} {q : Option Addr} {n c N : Nat} (h : Ws T w q n c N) : N < capN := by
  obtain ⟨ws, hs, hn, rfl⟩ := h.ex
  have := powW_lt ws
  rw [hs.len] at this
  exact Nat.lt_of_lt_of_le this (powW_mono h.le)
theorem Ws.zero (T : TypeId) (w : World) : Ws T w none 0 0 0 := ⟨⟨[], Sl.nil0 _ _, by simp [NormW], rfl⟩, by omega, Lies.none _ _⟩
/-- a number, and what went wrong -/
def RetN (T : TypeId) (w : World) (N : Nat) (e : Ending) (w' : World) : Prop :=
  ∃ q n c, e = .returned (.tuple #[.agg #[.slice q n c], .int .i64 0]) ∧ Ws T w' q n c N ∧ Below w.heap.size w w'
def Ret0 (w : World) (code : Int) (e : Ending) (w' : World) : Prop :=
  e = .returned (.tuple #[.agg #[.slice none 0 0], .int .i64 code]) ∧ Below w.heap.size w w'
def RetMn (T : TypeId) (w : World) (N : Nat) (e : Ending) (w' : World) : Prop := (N < capN ∧ RetN T w N e w') ∨ (capN ≤ N ∧ Ret0 w 16 e w')
theorem RetMn.ok {T : TypeId} {w w' : World} {N : Nat} {e : Ending} (h : RetMn T w N e w') (hN : N < capN) : RetN T w N e w' := by
  rcases h with h | h
  · exact h.2
  · omega
theorem RetMn.long {T : TypeId} {w w' : World} {N : Nat} {e : Ending} (h : RetMn T w N e w') (hN : capN ≤ N) : Ret0 w 16 e w' := by
  rcases h with h | h
  · omega
  · exact h.2
/-- a number alone -/
def RetN1 (T : TypeId) (w : World) (N : Nat) (e : Ending) (w' : World) : Prop :=
  ∃ q n c, e = .returned (.agg #[.slice q n c]) ∧ Ws T w' q n c N ∧ Below w.heap.size w w'
theorem Sl.front {α : Type} {enc : α → Value} {w : World} {p : Option Addr} {n c k : Nat} {xs : List α} (h : Sl enc w p n c xs) (hk : k ≤ n) : Sl enc w p k c (xs.take k) := by
  have h1 := h.len; have h2 := h.le; have h3 := h.max
  refine ⟨by rw [List.length_take]; omega, by omega, h3, fun e => ⟨by have := (h.nil e).1; omega, (h.nil e).2⟩, ?_⟩
  intro i hi
  have hi' : i < xs.length := by rw [List.length_take] at hi; omega
  obtain ⟨b', o', hp, hc⟩ := h.rs i hi'
  exact ⟨b', o', hp, by rw [hc]; simp⟩
/-- what is left of words without noughts behind -/
theorem made_end {T : TypeId} {w : World} {q : Option Addr} {n c k : Nat} {ws : List UInt64} (h : Sl W64 w q n c ws) (hT : Lies T w q) (hk : k ≤ n) (hn : NormW (ws.take k)) (hv : valW (ws.take k) = valW ws) : (k ≤ 512 → Ws T w q k c (valW ws) ∧ valW ws < capN) ∧ (512 < k → capN ≤ valW ws) := by
  have hl : (ws.take k).length = k := by rw [List.length_take, h.len]; omega
  constructor
  · intro h1
    have : Ws T w q k c (valW ws) := ⟨⟨_, h.front hk, hn, hv⟩, h1, hT⟩
    exact ⟨this, this.lt⟩
  · intro h1
    rw [← hv]
    exact powW_big hn (by omega)
theorem res_cell_tmp {P : Program} {fn : Func} {p u : Tmp} {ty : TypeId} (h : fn.results = #[.cell p ty, .tmp u]) (tmps : Array Value) (w : World) (g : Nat) (t : TypeId) (cs : Array Value) (fr : Nat × Nat) (d : TypeDesc) (v : Value)
    (hp : tmps.getD p undef = .pointer (some ⟨g, 0, none⟩)) (hg : w.heap[g]? = some (.cells cs t fr)) (hv : tmps.getD u undef = v)
    (hu : P.underlying ty = some d) (hd : (match d with | .struct _ | .array _ _ => true | _ => false) = true) (hi : (P.info? ty).map (·.size) = some cs.size) :
    (results fn tmps).run P w = .ok (.tuple #[.agg cs, v]) w := by
  have hp' : tmps[p]?.getD undef = .pointer (some ⟨g, 0, none⟩) := by simpa using hp
  have hv' : tmps[u]?.getD undef = v := by simpa using hv
  simp [results, h, hp', hv', asAddr, run_loadVar_row w g t ty cs fr d hg hu hd hi]
theorem hal_eq {w : World} {ob : Obj} {i : Nat} (h : i < w.heap.size) : (w.alloc ob).heap[i]? = w.heap[i]? := by rw [heap_alloc, if_neg (by omega)]
/-- a block of one cell, behind further blocks -/
structure One (w : World) (g : Nat) (v : Value) (T : TypeId) : Prop where
  box : w.heap[g]? = some (.cells #[v] T (0, 0))
  cell : w.cell? ⟨g, 0, none⟩ = some v
  free : w.frozen? ⟨g, 0, none⟩ = false
  acell : ∀ o, (w.alloc o).cell? ⟨g, 0, none⟩ = some v
  afree : ∀ o, (w.alloc o).frozen? ⟨g, 0, none⟩ = false
theorem One.of {w : World} {g : Nat} {v : Value} {T : TypeId} (h : w.heap[g]? = some (.cells #[v] T (0, 0))) : One w g v T :=
  ⟨h, cell_of_row _ _ 0 _ _ _ h, frozen_of_row _ _ _ _ _ h, fun _ => cell_of_row _ _ 0 _ _ _ (hal h), fun _ => frozen_of_row _ _ _ _ _ (hal h)⟩
theorem NormW_nil : NormW [] := by simp [NormW]
end Go.By
namespace Go.Proofs.YtbfmdfbnhakolaaGreatDoor
open Go.RowKit Go.By
theorem info_nat : (Tryz.prog.info? 40).map (·.size) = some 1 := by kernel_rfl
theorem info_u64 : (Tryz.prog.info? 69).map (fun i => (i.zero, i.size, i.bytes)) = some (some (.int .u64 0), 1, 8) := by kernel_rfl
set_option maxRecDepth 100000 in
set_option maxHeartbeats 1000000 in
theorem made_any (q : Option Addr) (n c : Nat) (ws : List UInt64) (w : World) (h : Sl W64 w q n c ws) (hT : Lies 69 w q) :
    Calls Tryz.prog 56 #[.slice q n c] w (RetMn 69 w (valW ws)) := by
  have hn := h.bound
  have hnc := h.le
  have hinfo := info_nat
  have HA : Hid (∀ o, Sl W64 (w.alloc o) q n c ws) := fun o => h.keep (al (Below.refl _ _) (Nat.le_refl _))
  have HT : Hid (∀ o, Lies 69 (w.alloc o) q) := fun o => hT.keep (al (Below.refl _ _) (Nat.le_refl _))
  have HT0 := Lib.hid hT; clear hT
  have HB : Hid (∀ o, Below w.heap.size w (w.alloc o)) := fun o => al (Below.refl _ _) (Nat.le_refl _)
  have HX : Hid (∀ o, (w.alloc o).heap[w.heap.size]? = some o) := fun o => hnew rfl
  have H := Lib.hid h; clear h
  go_enter Tryz.func56, Tryz.ntmps56
  go_wp2
  go_loop [4] (fun i => ∃ k : Nat, k ≤ n ∧ i = .int .i64 k ∧ Hid (valW (ws.take k) = valW ws)) (fun i => (intOf i).toNat)
  case atStart => exact ⟨n, Nat.le_refl _, rfl, by show valW (ws.take n) = valW ws; rw [← H.out.len, List.take_length]⟩
  case round =>
    obtain ⟨k, hk, rfl, hr⟩ := hrel
    by_cases hk0 : k = 0
    · subst hk0
      have HE : Hid (∀ o, Ws 69 (w.alloc o) q 0 c (valW ws)) := fun o => ((made_end (HA.out o) (HT.out o) (Nat.zero_le n) (by simpa using NormW_nil) hr.out).1 (by omega)).1
      have HL : Hid (valW ws < capN) := ((made_end H.out HT0.out (Nat.zero_le n) (by simpa using NormW_nil) hr.out).1 (by omega)).2
      cases q with
      | none =>
        obtain ⟨rfl, rfl⟩ := H.out.nil rfl
        go_wp2
        exact bodyPost_ret (res_cell_tmp rfl _ _ _ 40 #[.slice none 0 0] (0, 0) _ (.int .i64 0) rfl (HX.out _) rfl Tryz.underlying40 rfl hinfo) rfl (Or.inl ⟨HL.out, _, _, _, rfl, HE.out _, HB.out _⟩)
      | some ad =>
        go_wp2
        exact bodyPost_ret (res_cell_tmp rfl _ _ _ 40 #[.slice (some ad) 0 c] (0, 0) _ (.int .i64 0) rfl (HX.out _) rfl Tryz.underlying40 rfl hinfo) rfl (Or.inl ⟨HL.out, _, _, _, rfl, HE.out _, HB.out _⟩)
    · obtain ⟨j, rfl⟩ : ∃ j, k = j + 1 := ⟨k - 1, by omega⟩
      obtain ⟨b, o, x, rfl, hc, hx⟩ := H.out.at j (by omega)
      have hc' : ∀ ob, (w.alloc ob).cell? ⟨b, o + j, none⟩ = some (W64 x) := fun ob => (World.cell?_of_block (a := ⟨b, o + j, none⟩) (hal_eq (lt_of_cell hc))).trans hc
      clear hc hk0
      by_cases hx0 : x.toNat = 0
      · have HV : Hid (valW (ws.take j) = valW ws) := (valW_take_zero hx.out hx0).symm.trans hr.out
        rw [show W64 x = .int .u64 0 by show Value.int .u64 (x.toNat : Int) = _; rw [hx0]; rfl] at hc'
        clear hx0
        go_wp2
        go_round
        case rel => exact ⟨j, by omega, by go_num, HV⟩
        case measure => simp [intOf]
      · have HN : Hid (NormW (ws.take (j + 1))) := NormW_take hx.out hx0
        have hx1 : ((x.toNat : Int) == 0) = false := by simpa using hx0
        clear hx0
        by_cases h512 : j + 1 ≤ 512
        · have HE : Hid (∀ ob, Ws 69 (w.alloc ob) (some ⟨b, o, none⟩) (j + 1) c (valW ws)) := fun ob => ((made_end (HA.out ob) (HT.out ob) hk HN.out hr.out).1 h512).1
          have HL : Hid (valW ws < capN) := ((made_end H.out HT0.out hk HN.out hr.out).1 h512).2
          have h512' : ¬ ((512 : Int) < (j : Int) + 1) := by omega
          clear h512
          go_wp2
          exact bodyPost_ret (res_cell_tmp rfl _ _ _ 40 #[.slice (some ⟨b, o, none⟩) (j + 1) c] (0, 0) _ (.int .i64 0) rfl (HX.out _) rfl Tryz.underlying40 rfl hinfo) rfl (Or.inl ⟨HL.out, _, _, _, rfl, HE.out _, HB.out _⟩)
        · have HL : Hid (capN ≤ valW ws) := (made_end H.out HT0.out hk HN.out hr.out).2 (by omega)
          have h512' : (512 : Int) < (j : Int) + 1 := by omega
          clear h512
          go_wp2
          exact bodyPost_ret (res_cell_tmp rfl _ _ _ 40 #[.slice none 0 0] (0, 0) _ (.int .i64 16) rfl (HX.out _) rfl Tryz.underlying40 rfl hinfo) rfl (Or.inr ⟨HL.out, rfl, HB.out _⟩)
theorem valW_one (x : UInt64) : valW [x] = x.toNat := by show x.toNat + _ * 0 = _; omega
theorem small_cap (x : UInt64) : x.toNat < capN := Nat.lt_of_lt_of_le (by have := powW_lt [x]; rw [valW_one] at this; exact this) (powW_mono (show 1 ≤ 512 by decide))
set_option maxRecDepth 100000 in
set_option maxHeartbeats 1000000 in
theorem OfN_any (x : UInt64) (w : World) : Calls Tryz.prog 27 #[W64 x] w (RetN1 69 w x.toNat) := by
  have hinfo := info_nat
  have hm : (1 : Nat) ≤ maxLen := by simp [maxLen]
  go_enter Tryz.func27, Tryz.ntmps27
  go_wp2_with fail
  refine Calls.mono (made_any _ 1 1 [x] _ (sl_block [x] 1 (hnew (by simp)) rfl rfl hm) (Lies.at (hnew (by simp)))) ?_
  rintro e w1 hr
  rw [valW_one] at hr
  obtain ⟨q, n, c, rfl, hws, hb⟩ := hr.ok (small_cap x)
  have hone : One w1 w.heap.size (.slice none 0 0) 40 := One.of ((hb.block _ (by simp <;> omega)).trans (hal (hnew rfl)))
  have HO : Hid (∀ o, (w1.alloc o).heap[w.heap.size]? = some (.cells #[.slice none 0 0] 40 (0, 0))) := fun o => hal hone.box
  obtain ⟨_, a1, a2, a3, a4⟩ := hone
  have hsz := hb.size
  simp at hsz
  have HB : Hid (Below w.heap.size w w1) := bl (al (al (Below.refl _ _) (Nat.le_refl _)) (by simp)) hb (by simp <;> omega)
  have HF : Hid (∀ o v, Below w.heap.size w ((w1.alloc o).setCell ⟨w.heap.size, 0, none⟩ v) ∧ Below w1.heap.size w1 (w1.alloc o)) := fun o v => ⟨(al HB.out (by omega)).setCell (Nat.le_refl _) _, al (Below.refl _ _) (Nat.le_refl _)⟩
  have HW : Hid (∀ o v, Ws 69 ((w1.alloc o).setCell ⟨w.heap.size, 0, none⟩ v) q n c x.toNat) := fun o v => (hws.keep (al (Below.refl _ _) (Nat.le_refl _))).set (HO.out o) (by decide)
  clear hr hws hb hsz
  go_wp2
  exact bodyPost_ret (results_cell_row rfl _ _ _ 40 #[.slice q n c] (0, 0) _ rfl (hss (HO.out _)) Tryz.underlying40 rfl hinfo) rfl ⟨_, _, _, rfl, HW.out _ _, (HF.out _ _).1⟩
end Go.Proofs.YtbfmdfbnhakolaaGreatDoor
namespace Go.Proofs
open Go.Shelf
def Tryz.lays170_ren : Go.Shelf.Ren := ⟨fun | 170 => 63 | n => n, fun | 70 => 73 | 3 => 3 | 0 => 0 | 72 => 75 | 37 => 23 | 5 => 5 | n => n, fun | n => n⟩
theorem Tryz.lays170 : Go.Proofs.Lays.n170 Tryz.prog Tryz.lays170_ren := {
  mixed := by kernel_rfl
  f170 := Tryz.func63.trans (congrArg some (by kernel_rfl))
  t0 := Tryz.underlying0
  a0 := Tryz.isAgg0
  z0 := Tryz.sizeOf0
  v0 := Tryz.zeroValue0
  t3 := Tryz.underlying3
  a3 := Tryz.isAgg3
  z3 := Tryz.sizeOf3
  v3 := Tryz.zeroValue3
  t37 := Tryz.underlying23
  a37 := Tryz.isAgg23
  z37 := Tryz.sizeOf23
  v37 := Tryz.zeroValue23
  t70 := Tryz.underlying73
  a70 := Tryz.isAgg73
  z70 := Tryz.sizeOf73
  v70 := Tryz.zeroValue73
  t72 := Tryz.underlying75
  a72 := Tryz.isAgg75
  z72 := Tryz.sizeOf75
  v72 := Tryz.zeroValue75 }
open Go.RowKit in
/-- (*strings.Builder).Len: "Len returns the number of accumulated bytes; b.Len() == len(b.String()).": the world is as it was. (LAID: no walk: one application.) -/
theorem Tryz.Builder_Len (B b : Nat) (bs : List Value) (w : World) (h : Lib.IsBuilder 75 5 B b bs w) :
    Calls Tryz.prog 63 #[.pointer (some ⟨b, 0, none⟩)] w fun e w' => e = .returned (.int .i64 bs.length) ∧ w' = w := Any.Builder_Len Tryz.lays170 B b bs w h
def Tryz.lays169_ren : Go.Shelf.Ren := ⟨fun | 169 => 34 | n => n, fun | 70 => 73 | 9 => 9 | 0 => 0 | 72 => 75 | 37 => 23 | 127 => 111 | 3 => 3 | 5 => 5 | n => n, fun | n => n⟩
theorem Tryz.lays169 : Go.Proofs.Lays.n169 Tryz.prog Tryz.lays169_ren := {
  mixed := by kernel_rfl
  f169 := Tryz.func34.trans (congrArg some (by kernel_rfl))
  t0 := Tryz.underlying0
  a0 := Tryz.isAgg0
  z0 := Tryz.sizeOf0
  v0 := Tryz.zeroValue0
  t3 := Tryz.underlying3
  a3 := Tryz.isAgg3
  z3 := Tryz.sizeOf3
  v3 := Tryz.zeroValue3
  t9 := Tryz.underlying9
  a9 := Tryz.isAgg9
  z9 := Tryz.sizeOf9
  v9 := Tryz.zeroValue9
  t37 := Tryz.underlying23
  a37 := Tryz.isAgg23
  z37 := Tryz.sizeOf23
  v37 := Tryz.zeroValue23
  t70 := Tryz.underlying73
  a70 := Tryz.isAgg73
  z70 := Tryz.sizeOf73
  v70 := Tryz.zeroValue73
  t72 := Tryz.underlying75
  a72 := Tryz.isAgg75
  z72 := Tryz.sizeOf75
  v72 := Tryz.zeroValue75
  t127 := Tryz.underlying111
  a127 := Tryz.isAgg111
  z127 := Tryz.sizeOf111
  v127 := Tryz.zeroValue111 }
theorem Tryz.Builder_Extra_169 : Builder.Extra Tryz.prog Tryz.lays169_ren := {
  sizeBuilder := by kernel_rfl
  liesBuilder := by kernel_rfl
  t5 := Tryz.underlying5
  a5 := Tryz.isAgg5
  z5 := Tryz.sizeOf5
  v5 := Tryz.zeroValue5
  infoByte := by kernel_rfl
  cellsByte := by kernel_rfl
  sizeByte := by kernel_rfl
  neB5 := by decide }
open Go.RowKit in
/-- (*strings.Builder).String: "String returns the accumulated string.": OF A BUILDER THAT HOLDS AT LEAST ONE BYTE. ✋ THE MODEL FREEZES THOSE BYTES IN THE BUFFER (unsafe.String): a later write INTO them ends the model's run without an answer; a later append BEHIND them goes on. The statement's order of evaluation is drawn: one draw. (LAID: no walk: one application.) -/
theorem Tryz.Builder_String (B b : Nat) (l : List UInt8) (w : World) (h : Lib.IsBuilder 75 5 B b (Lib.byteCells l) w) (h0 : l ≠ []) :
    Calls Tryz.prog 34 #[.pointer (some ⟨b, 0, none⟩)] w fun e w' => e = .returned (.string ⟨l.toArray⟩) ∧ Below B w w' := Any.Builder_String Tryz.lays169 Tryz.Builder_Extra_169 B b l w h h0
open Go.RowKit in
/-- (*strings.Builder).String OF A BUILDER THAT HOLDS NO BYTE: the empty string. (Its buffer is nil, or a row of which it has taken nothing yet; where that row has NO capacity the model lays one new block for unsafe.SliceData's 'some address'.) One draw. (LAID: no walk: one application.) -/
theorem Tryz.Builder_String_empty (B b : Nat) (w : World) (h : Lib.IsBuilder 75 5 B b [] w) (hBw : B ≤ w.heap.size) :
    Calls Tryz.prog 34 #[.pointer (some ⟨b, 0, none⟩)] w fun e w' => e = .returned (.string ⟨#[]⟩) ∧ Below B w w' := Any.Builder_String_empty Tryz.lays169 Tryz.Builder_Extra_169 B b w h hBw
open Go.RowKit in
/-- (*strings.Builder).String: "String returns the accumulated string.": WHATEVER THE BUILDER HOLDS. (LAID: no walk: one application.) -/
theorem Tryz.Builder_String_any (B b : Nat) (l : List UInt8) (w : World) (h : Lib.IsBuilder 75 5 B b (Lib.byteCells l) w) (hBw : B ≤ w.heap.size) :
    Calls Tryz.prog 34 #[.pointer (some ⟨b, 0, none⟩)] w fun e w' => e = .returned (.string ⟨l.toArray⟩) ∧ Below B w w' := Any.Builder_String_any Tryz.lays169 Tryz.Builder_Extra_169 B b l w h hBw
def Tryz.lays241_ren : Go.Shelf.Ren := ⟨fun | 241 => 90 | 277 => 103 | n => n, fun | 70 => 73 | 3 => 3 | 0 => 0 | 72 => 75 | 37 => 23 | 5 => 5 | n => n, fun | n => n⟩
theorem Tryz.lays241 : Go.Proofs.Lays.n241 Tryz.prog Tryz.lays241_ren := {
  mixed := by kernel_rfl
  f241 := Tryz.func90.trans (congrArg some (by kernel_rfl))
  f277 := Tryz.func103.trans (congrArg some (by kernel_rfl))
  t0 := Tryz.underlying0
  a0 := Tryz.isAgg0
  z0 := Tryz.sizeOf0
  v0 := Tryz.zeroValue0
  t3 := Tryz.underlying3
  a3 := Tryz.isAgg3
  z3 := Tryz.sizeOf3
  v3 := Tryz.zeroValue3
  t37 := Tryz.underlying23
  a37 := Tryz.isAgg23
  z37 := Tryz.sizeOf23
  v37 := Tryz.zeroValue23
  t70 := Tryz.underlying73
  a70 := Tryz.isAgg73
  z70 := Tryz.sizeOf73
  v70 := Tryz.zeroValue73
  t72 := Tryz.underlying75
  a72 := Tryz.isAgg75
  z72 := Tryz.sizeOf75
  v72 := Tryz.zeroValue75 }
theorem Tryz.Builder_Extra_241 : Builder.Extra Tryz.prog Tryz.lays241_ren := {
  sizeBuilder := by kernel_rfl
  liesBuilder := by kernel_rfl
  t5 := Tryz.underlying5
  a5 := Tryz.isAgg5
  z5 := Tryz.sizeOf5
  v5 := Tryz.zeroValue5
  infoByte := by kernel_rfl
  cellsByte := by kernel_rfl
  sizeByte := by kernel_rfl
  neB5 := by decide }
open Go.RowKit in
/-- (*strings.Builder).grow (no doc but "grow copies the buffer to a new, larger buffer so that there are at least n bytes of capacity beyond len(b.buf)."): AT A BUILDER WITHOUT A BUFFER: a new row of whatever bytes for its buffer, none of them its own yet. Three draws. (LAID: no walk: one application.) -/
theorem Tryz.Builder_grow_fresh (B b n : Nat) (w : World) (hB : B ≤ b) (hbk : w.heap[b]? = some (.cells #[.pointer (some ⟨b, 0, none⟩), .slice none 0 0] 75 (0, 0))) (hBw : B ≤ w.heap.size) (hn : n ≤ 281474976710656) :
    Calls Tryz.prog 90 #[.pointer (some ⟨b, 0, none⟩), .int .i64 n] w fun e w' => e = .returned (.tuple #[]) ∧ (Lib.BuilderAt 75 5 B b (.pointer (some ⟨b, 0, none⟩)) [] w' ∧ Below B w w') := Any.Builder_grow_fresh Tryz.lays241 Tryz.Builder_Extra_241 B b n w hB hbk hBw hn
def Tryz.lays165_ren : Go.Shelf.Ren := ⟨fun | 165 => 62 | 240 => 58 | 241 => 90 | 276 => 82 | 277 => 103 | n => n, fun | 70 => 73 | 3 => 3 | 0 => 0 | 4 => 4 | 9 => 9 | 20 => 20 | 72 => 75 | 37 => 23 | 164 => 132 | 5 => 5 | n => n, fun | n => n⟩
theorem Tryz.lays165 : Go.Proofs.Lays.n165 Tryz.prog Tryz.lays165_ren := {
  mixed := by kernel_rfl
  f165 := Tryz.func62.trans (congrArg some (by kernel_rfl))
  f240 := Tryz.func58.trans (congrArg some (by kernel_rfl))
  f241 := Tryz.func90.trans (congrArg some (by kernel_rfl))
  f276 := Tryz.func82.trans (congrArg some (by kernel_rfl))
  f277 := Tryz.func103.trans (congrArg some (by kernel_rfl))
  t0 := Tryz.underlying0
  a0 := Tryz.isAgg0
  z0 := Tryz.sizeOf0
  v0 := Tryz.zeroValue0
  t3 := Tryz.underlying3
  a3 := Tryz.isAgg3
  z3 := Tryz.sizeOf3
  v3 := Tryz.zeroValue3
  t4 := Tryz.underlying4
  a4 := Tryz.isAgg4
  z4 := Tryz.sizeOf4
  v4 := Tryz.zeroValue4
  t9 := Tryz.underlying9
  a9 := Tryz.isAgg9
  z9 := Tryz.sizeOf9
  v9 := Tryz.zeroValue9
  t20 := Tryz.underlying20
  a20 := Tryz.isAgg20
  z20 := Tryz.sizeOf20
  v20 := Tryz.zeroValue20
  t37 := Tryz.underlying23
  a37 := Tryz.isAgg23
  z37 := Tryz.sizeOf23
  v37 := Tryz.zeroValue23
  t70 := Tryz.underlying73
  a70 := Tryz.isAgg73
  z70 := Tryz.sizeOf73
  v70 := Tryz.zeroValue73
  t72 := Tryz.underlying75
  a72 := Tryz.isAgg75
  z72 := Tryz.sizeOf75
  v72 := Tryz.zeroValue75
  t164 := Tryz.underlying132
  a164 := Tryz.isAgg132
  z164 := Tryz.sizeOf132
  v164 := Tryz.zeroValue132 }
theorem Tryz.Builder_Extra_165 : Builder.Extra Tryz.prog Tryz.lays165_ren := {
  sizeBuilder := by kernel_rfl
  liesBuilder := by kernel_rfl
  t5 := Tryz.underlying5
  a5 := Tryz.isAgg5
  z5 := Tryz.sizeOf5
  v5 := Tryz.zeroValue5
  infoByte := by kernel_rfl
  cellsByte := by kernel_rfl
  sizeByte := by kernel_rfl
  neB5 := by decide }
open Go.RowKit in
/-- (*strings.Builder).Grow AT A BUILDER THAT HAS NOT BEEN WRITTEN ('var b strings.Builder; b.Grow(n)'): "Grow grows b's capacity, if necessary, to guarantee space for another n bytes.": it holds no byte behind it as before it. (LAID: no walk: one application.) -/
theorem Tryz.Builder_Grow_fresh (B b n : Nat) (w : World) (hB : B ≤ b) (hbk : w.heap[b]? = some (.cells #[.pointer none, .slice none 0 0] 75 (0, 0))) (hBw : B ≤ w.heap.size) (hn : n ≤ 281474976710656) :
    Calls Tryz.prog 62 #[.pointer (some ⟨b, 0, none⟩), .int .i64 n] w fun e w' => e = .returned (.tuple #[]) ∧ (Lib.BuilderAt 75 5 B b (.pointer (some ⟨b, 0, none⟩)) [] w' ∧ Below B w w') := Any.Builder_Grow_fresh Tryz.lays165 Tryz.Builder_Extra_165 B b n w hB hbk hBw hn
open Go.RowKit in
/-- (*strings.Builder).Len: "Len returns the number of accumulated bytes; b.Len() == len(b.String()).": the world is as it was. (THE FORM '_f': 'Lib.IsBuilderF'.) (LAID: no walk: one application.) -/
theorem Tryz.Builder_Len_f (B b : Nat) (bs : List Value) (w : World) (h : Lib.IsBuilderF 75 5 B b bs w) :
    Calls Tryz.prog 63 #[.pointer (some ⟨b, 0, none⟩)] w fun e w' => e = .returned (.int .i64 bs.length) ∧ w' = w := Any.Builder_Len_f Tryz.lays170 B b bs w h
open Go.RowKit in
/-- (*strings.Builder).String: "String returns the accumulated string.": OF A BUILDER THAT HOLDS AT LEAST ONE BYTE. ✋ THE MODEL FREEZES THOSE BYTES IN THE BUFFER (unsafe.String): a later write INTO them ends the model's run without an answer; a later append BEHIND them goes on. The statement's order of evaluation is drawn: one draw. THE FORM '_f': IT SAYS BESIDES THAT THE BUILDER IS A BUILDER STILL ('Lib.IsBuilderF', the same bytes): SO IT CAN BE WRITTEN ON: 'b.WriteString(b.String()[:k])'. (LAID: no walk: one application.) -/
theorem Tryz.Builder_String_f (B b : Nat) (l : List UInt8) (w : World) (h : Lib.IsBuilderF 75 5 B b (Lib.byteCells l) w) (h0 : l ≠ []) :
    Calls Tryz.prog 34 #[.pointer (some ⟨b, 0, none⟩)] w fun e w' => e = .returned (.string ⟨l.toArray⟩) ∧ (Lib.IsBuilderF 75 5 B b (Lib.byteCells l) w' ∧ Below B w w') := Any.Builder_String_f Tryz.lays169 Tryz.Builder_Extra_169 B b l w h h0
open Go.RowKit in
/-- (*strings.Builder).String OF A BUILDER THAT HOLDS NO BYTE: the empty string; THE FORM '_f': a builder still. (LAID: no walk: one application.) -/
theorem Tryz.Builder_String_empty_f (B b : Nat) (w : World) (h : Lib.IsBuilderF 75 5 B b [] w) (hBw : B ≤ w.heap.size) :
    Calls Tryz.prog 34 #[.pointer (some ⟨b, 0, none⟩)] w fun e w' => e = .returned (.string ⟨#[]⟩) ∧ (Lib.IsBuilderF 75 5 B b [] w' ∧ Below B w w') := Any.Builder_String_empty_f Tryz.lays169 Tryz.Builder_Extra_169 B b w h hBw
open Go.RowKit in
/-- (*strings.Builder).String: "String returns the accumulated string.": WHATEVER THE BUILDER HOLDS; THE FORM '_f': OF A BUILDER THAT MAY HAVE BEEN READ BEFORE; AND IT IS A BUILDER STILL, holding the same bytes: it can be written on. (LAID: no walk: one application.) -/
theorem Tryz.Builder_String_any_f (B b : Nat) (l : List UInt8) (w : World) (h : Lib.IsBuilderF 75 5 B b (Lib.byteCells l) w) (hBw : B ≤ w.heap.size) :
    Calls Tryz.prog 34 #[.pointer (some ⟨b, 0, none⟩)] w fun e w' => e = .returned (.string ⟨l.toArray⟩) ∧ (Lib.IsBuilderF 75 5 B b (Lib.byteCells l) w' ∧ Below B w w') := Any.Builder_String_any_f Tryz.lays169 Tryz.Builder_Extra_169 B b l w h hBw
open Go.RowKit in
/-- (*strings.Builder).String: "String returns the accumulated string.": OF A BUILDER THAT HOLDS AT LEAST ONE BYTE. ✋ THE MODEL FREEZES THOSE BYTES IN THE BUFFER (unsafe.String): a later write INTO them ends the model's run without an answer; a later append BEHIND them goes on. The statement's order of evaluation is drawn: one draw. THE FORM '_k': OVER 'Lib.IsBuilderF' (a builder that 'String()' may have read), AND WITH THE FRAME THAT REACHES ABOVE THE BUILDER: 'Lib.OthersKept': every block that is not b and is no row of uint8's stands as it stood: the iterator of a range among them. (LAID: no walk: one application.) -/
theorem Tryz.Builder_String_k (B b : Nat) (l : List UInt8) (w : World) (h : Lib.IsBuilderF 75 5 B b (Lib.byteCells l) w) (h0 : l ≠ []) :
    Calls Tryz.prog 34 #[.pointer (some ⟨b, 0, none⟩)] w fun e w' => e = .returned (.string ⟨l.toArray⟩) ∧ (Lib.IsBuilderF 75 5 B b (Lib.byteCells l) w' ∧ Below B w w' ∧ Lib.OthersKept 5 (some b) w w') := Any.Builder_String_k Tryz.lays169 Tryz.Builder_Extra_169 B b l w h h0
open Go.RowKit in
/-- (*strings.Builder).String OF A BUILDER THAT HOLDS NO BYTE: the empty string; THE FORM '_k': OVER 'Lib.IsBuilderF' (a builder that 'String()' may have read), AND WITH THE FRAME THAT REACHES ABOVE THE BUILDER: 'Lib.OthersKept': every block that is not b and is no row of uint8's stands as it stood: the iterator of a range among them. (LAID: no walk: one application.) -/
theorem Tryz.Builder_String_empty_k (B b : Nat) (w : World) (h : Lib.IsBuilderF 75 5 B b [] w) (hBw : B ≤ w.heap.size) :
    Calls Tryz.prog 34 #[.pointer (some ⟨b, 0, none⟩)] w fun e w' => e = .returned (.string ⟨#[]⟩) ∧ (Lib.IsBuilderF 75 5 B b [] w' ∧ Below B w w' ∧ Lib.OthersKept 5 (some b) w w') := Any.Builder_String_empty_k Tryz.lays169 Tryz.Builder_Extra_169 B b w h hBw
open Go.RowKit in
/-- (*strings.Builder).String: "String returns the accumulated string.": WHATEVER THE BUILDER HOLDS; THE FORM '_k': OVER 'Lib.IsBuilderF' (a builder that 'String()' may have read), AND WITH THE FRAME THAT REACHES ABOVE THE BUILDER: 'Lib.OthersKept': every block that is not b and is no row of uint8's stands as it stood: the iterator of a range among them. (LAID: no walk: one application.) -/
theorem Tryz.Builder_String_any_k (B b : Nat) (l : List UInt8) (w : World) (h : Lib.IsBuilderF 75 5 B b (Lib.byteCells l) w) (hBw : B ≤ w.heap.size) :
    Calls Tryz.prog 34 #[.pointer (some ⟨b, 0, none⟩)] w fun e w' => e = .returned (.string ⟨l.toArray⟩) ∧ (Lib.IsBuilderF 75 5 B b (Lib.byteCells l) w' ∧ Below B w w' ∧ Lib.OthersKept 5 (some b) w w') := Any.Builder_String_any_k Tryz.lays169 Tryz.Builder_Extra_169 B b l w h hBw
open Go.RowKit in
/-- (*strings.Builder).grow (no doc but "grow copies the buffer to a new, larger buffer so that there are at least n bytes of capacity beyond len(b.buf)."): AT A BUILDER WITHOUT A BUFFER: a new row of whatever bytes for its buffer, none of them its own yet. Three draws. (LAID: no walk: one application.) -/
theorem Tryz.Builder_grow_fresh_cap (B b n : Nat) (w : World) (hB : B ≤ b) (hbk : w.heap[b]? = some (.cells #[.pointer (some ⟨b, 0, none⟩), .slice none 0 0] 75 (0, 0))) (hBw : B ≤ w.heap.size) (hn : n ≤ 281474976710656) :
    Calls Tryz.prog 90 #[.pointer (some ⟨b, 0, none⟩), .int .i64 n] w fun e w' => e = .returned (.tuple #[]) ∧ (Lib.BuilderAt 75 5 B b (.pointer (some ⟨b, 0, none⟩)) [] w' ∧ Below B w w') ∧ ∃ p cap, w'.cell? ⟨b, 1, none⟩ = some (.slice p 0 cap) ∧ n ≤ cap := Any.Builder_grow_fresh_cap Tryz.lays241 Tryz.Builder_Extra_241 B b n w hB hbk hBw hn
open Go.RowKit in
/-- (*strings.Builder).Grow AT A BUILDER THAT HAS NOT BEEN WRITTEN ('var b strings.Builder; b.Grow(n)'): "Grow grows b's capacity, if necessary, to guarantee space for another n bytes.": it holds no byte behind it as before it. (LAID: no walk: one application.) -/
theorem Tryz.Builder_Grow_fresh_cap (B b n : Nat) (w : World) (hB : B ≤ b) (hbk : w.heap[b]? = some (.cells #[.pointer none, .slice none 0 0] 75 (0, 0))) (hBw : B ≤ w.heap.size) (hn : n ≤ 281474976710656) :
    Calls Tryz.prog 62 #[.pointer (some ⟨b, 0, none⟩), .int .i64 n] w fun e w' => e = .returned (.tuple #[]) ∧ (Lib.BuilderAt 75 5 B b (.pointer (some ⟨b, 0, none⟩)) [] w' ∧ Below B w w') ∧ ∃ p cap, w'.cell? ⟨b, 1, none⟩ = some (.slice p 0 cap) ∧ n ≤ cap := Any.Builder_Grow_fresh_cap Tryz.lays165 Tryz.Builder_Extra_165 B b n w hB hbk hBw hn
def Tryz.lays129_ren : Go.Shelf.Ren := ⟨fun | 129 => 99 | n => n, fun | 53 => 69 | 3 => 3 | 4 => 4 | 46 => 106 | 5 => 5 | 9 => 9 | n => n, fun | n => n⟩
theorem Tryz.lays129 : Go.Proofs.Lays.n129 Tryz.prog Tryz.lays129_ren := {
  mixed := by kernel_rfl
  f129 := Tryz.func99.trans (congrArg some (by kernel_rfl))
  t3 := Tryz.underlying3
  a3 := Tryz.isAgg3
  z3 := Tryz.sizeOf3
  v3 := Tryz.zeroValue3
  t4 := Tryz.underlying4
  a4 := Tryz.isAgg4
  z4 := Tryz.sizeOf4
  v4 := Tryz.zeroValue4
  t5 := Tryz.underlying5
  a5 := Tryz.isAgg5
  z5 := Tryz.sizeOf5
  v5 := Tryz.zeroValue5
  t9 := Tryz.underlying9
  a9 := Tryz.isAgg9
  z9 := Tryz.sizeOf9
  v9 := Tryz.zeroValue9
  t46 := Tryz.underlying106
  a46 := Tryz.isAgg106
  z46 := Tryz.sizeOf106
  v46 := Tryz.zeroValue106
  t53 := Tryz.underlying69
  a53 := Tryz.isAgg69
  z53 := Tryz.sizeOf69
  v53 := Tryz.zeroValue69 }
/-- bits.Len64: "Len64 returns the minimum number of bits required to represent x; the result is 0 for x == 0.": IT RETURNS 'Lib.bitLen x'; the world is as it was. ('h0', 'h1': x is a uint64.) (LAID: no walk: one application.) -/
theorem Tryz.bits_Len64 (x : Int) (w : World) (h0 : 0 ≤ x) (h1 : x ≤ 18446744073709551615) :
    Calls Tryz.prog 99 #[.int .u64 x] w fun e w' => e = .returned (.int .i64 (Lib.bitLen x.toNat)) ∧ w' = w := Any.bits_Len64 Tryz.lays129 x w h0 h1
def Tryz.lays317_ren : Go.Shelf.Ren := ⟨fun | 317 => 98 | n => n, fun | 3 => 3 | 46 => 106 | n => n, fun | n => n⟩
theorem Tryz.lays317 : Go.Proofs.Lays.n317 Tryz.prog Tryz.lays317_ren := {
  mixed := by kernel_rfl
  f317 := Tryz.func98.trans (congrArg some (by kernel_rfl))
  t3 := Tryz.underlying3
  a3 := Tryz.isAgg3
  z3 := Tryz.sizeOf3
  v3 := Tryz.zeroValue3
  t46 := Tryz.underlying106
  a46 := Tryz.isAgg106
  z46 := Tryz.sizeOf106
  v46 := Tryz.zeroValue106 }
open Go.Lib in
/-- internal/strconv.log10Pow2: "log10Pow2(x) returns ⌊log₁₀ 2**x⌋ = ⌊x * log₁₀ 2⌋.": '(x * 78913) >> 18', at an x up to 64 (a length in bits). The world is as it was. (LAID: no walk: one application.) -/
theorem Tryz.internal_strconv_log10Pow2 (x : Nat) (h : x ≤ 64) (w : World) :
    Calls Tryz.prog 98 #[.int .i64 x] w fun e w' => e = .returned (.int .i64 (Lib.l10 x)) ∧ w' = w := Any.internal_strconv_log10Pow2 Tryz.lays317 x h w
def Tryz.lays318_ren : Go.Shelf.Ren := ⟨fun | 318 => 100 | n => n, fun | 3 => 3 | 4 => 4 | n => n, fun | n => n⟩
theorem Tryz.lays318 : Go.Proofs.Lays.n318 Tryz.prog Tryz.lays318_ren := {
  mixed := by kernel_rfl
  f318 := Tryz.func100.trans (congrArg some (by kernel_rfl))
  t3 := Tryz.underlying3
  a3 := Tryz.isAgg3
  z3 := Tryz.sizeOf3
  v3 := Tryz.zeroValue3
  t4 := Tryz.underlying4
  a4 := Tryz.isAgg4
  z4 := Tryz.sizeOf4
  v4 := Tryz.zeroValue4 }
open Go.Lib in
/-- internal/strconv.bool2: "bool2 converts b to an integer: 1 for true, 0 for false." The world is as it was. (LAID: no walk: one application.) -/
theorem Tryz.internal_strconv_bool2_int (b : Bool) (w : World) :
    Calls Tryz.prog 100 #[.bool b] w fun e w' => e = .returned (.int .i64 (if b then 1 else 0)) ∧ w' = w := Any.internal_strconv_bool2_int Tryz.lays318 b w
def Tryz.lays283_ren : Go.Shelf.Ren := ⟨fun | 283 => 83 | n => n, fun | 3 => 3 | 9 => 9 | 4 => 4 | n => n, fun | n => n⟩
theorem Tryz.lays283 : Go.Proofs.Lays.n283 Tryz.prog Tryz.lays283_ren := {
  mixed := by kernel_rfl
  f283 := Tryz.func83.trans (congrArg some (by kernel_rfl))
  t3 := Tryz.underlying3
  a3 := Tryz.isAgg3
  z3 := Tryz.sizeOf3
  v3 := Tryz.zeroValue3
  t4 := Tryz.underlying4
  a4 := Tryz.isAgg4
  z4 := Tryz.sizeOf4
  v4 := Tryz.zeroValue4
  t9 := Tryz.underlying9
  a9 := Tryz.isAgg9
  z9 := Tryz.sizeOf9
  v9 := Tryz.zeroValue9 }
open Go.Lib in
/-- internal/strconv.small: "small returns the string for an i with 0 <= i < nSmalls.": i's decimal numeral. The world is as it was. (LAID: no walk: one application.) -/
theorem Tryz.internal_strconv_small (i : Nat) (h : i < 100) (w : World) :
    Calls Tryz.prog 83 #[.int .i64 i] w fun e w' => e = .returned (.string ⟨(Lib.decDigits i).toArray⟩) ∧ w' = w := Any.internal_strconv_small Tryz.lays283 i h w
def Tryz.laysM284_ren : Go.Shelf.Ren := ⟨fun | 284 => 84 | 129 => 99 | 317 => 98 | 318 => 100 | n => n, fun | 53 => 69 | 3 => 3 | 212 => 154 | 0 => 0 | 4 => 4 | 46 => 106 | 5 => 5 | 9 => 9 | n => n, fun | 17 => 0 | n => n⟩
theorem Tryz.laysM284 : Go.Proofs.LaysM.n284 Tryz.prog Tryz.laysM284_ren := {
  mixed := by kernel_rfl
  f129 := Tryz.func99.trans (congrArg some (by kernel_rfl))
  f284 := Tryz.func84.trans (congrArg some (by kernel_rfl))
  f317 := Tryz.func98.trans (congrArg some (by kernel_rfl))
  f318 := Tryz.func100.trans (congrArg some (by kernel_rfl))
  t0 := Tryz.underlying0
  a0 := Tryz.isAgg0
  z0 := Tryz.sizeOf0
  v0 := Tryz.zeroValue0
  t3 := Tryz.underlying3
  a3 := Tryz.isAgg3
  z3 := Tryz.sizeOf3
  v3 := Tryz.zeroValue3
  t4 := Tryz.underlying4
  a4 := Tryz.isAgg4
  z4 := Tryz.sizeOf4
  v4 := Tryz.zeroValue4
  t5 := Tryz.underlying5
  a5 := Tryz.isAgg5
  z5 := Tryz.sizeOf5
  v5 := Tryz.zeroValue5
  t9 := Tryz.underlying9
  a9 := Tryz.isAgg9
  z9 := Tryz.sizeOf9
  v9 := Tryz.zeroValue9
  t46 := Tryz.underlying106
  a46 := Tryz.isAgg106
  z46 := Tryz.sizeOf106
  v46 := Tryz.zeroValue106
  t53 := Tryz.underlying69
  a53 := Tryz.isAgg69
  z53 := Tryz.sizeOf69
  v53 := Tryz.zeroValue69
  t212 := Tryz.underlying154
  a212 := Tryz.isAgg154
  z212 := Tryz.sizeOf154
  v212 := Tryz.zeroValue154
  g17 := by kernel_rfl
  i0 := by kernel_rfl
  i3 := by kernel_rfl
  i4 := by kernel_rfl
  i5 := by kernel_rfl
  i9 := by kernel_rfl
  i46 := by kernel_rfl
  i53 := by kernel_rfl
  i212 := by kernel_rfl
  m17 := by kernel_rfl }
open Go.Lib in
/-- internal/strconv.numDigits, at a d that is not 0: THE NUMBER OF d's DECIMAL DIGITS. The world is as it was. (LAID: no walk: one application.) -/
theorem Tryz.internal_strconv_numDigits (u : Nat) (h1 : 1 ≤ u) (h2 : u < 18446744073709551616) (w : World) (htab : Lib.TabIs Tryz.prog w "internal/strconv.uint64pow10" .u64 Lib.pow10Tab) :
    Calls Tryz.prog 84 #[.int .u64 u] w fun e w' => e = .returned (.int .i64 (Lib.nDigits u)) ∧ w' = w := Any.internal_strconv_numDigits Tryz.laysM284 u h1 h2 w htab
def Tryz.lays285_ren : Go.Shelf.Ren := ⟨fun | 285 => 85 | n => n, fun | 37 => 23 | 53 => 69 | 3 => 3 | 4 => 4 | 51 => 140 | 9 => 9 | 5 => 5 | 0 => 0 | n => n, fun | n => n⟩
theorem Tryz.lays285 : Go.Proofs.Lays.n285 Tryz.prog Tryz.lays285_ren := {
  mixed := by kernel_rfl
  f285 := Tryz.func85.trans (congrArg some (by kernel_rfl))
  t0 := Tryz.underlying0
  a0 := Tryz.isAgg0
  z0 := Tryz.sizeOf0
  v0 := Tryz.zeroValue0
  t3 := Tryz.underlying3
  a3 := Tryz.isAgg3
  z3 := Tryz.sizeOf3
  v3 := Tryz.zeroValue3
  t4 := Tryz.underlying4
  a4 := Tryz.isAgg4
  z4 := Tryz.sizeOf4
  v4 := Tryz.zeroValue4
  t5 := Tryz.underlying5
  a5 := Tryz.isAgg5
  z5 := Tryz.sizeOf5
  v5 := Tryz.zeroValue5
  t9 := Tryz.underlying9
  a9 := Tryz.isAgg9
  z9 := Tryz.sizeOf9
  v9 := Tryz.zeroValue9
  t37 := Tryz.underlying23
  a37 := Tryz.isAgg23
  z37 := Tryz.sizeOf23
  v37 := Tryz.zeroValue23
  t51 := Tryz.underlying140
  a51 := Tryz.isAgg140
  z51 := Tryz.sizeOf140
  v51 := Tryz.zeroValue140
  t53 := Tryz.underlying69
  a53 := Tryz.isAgg69
  z53 := Tryz.sizeOf69
  v53 := Tryz.zeroValue69 }
open Go.RowKit Go.Sort Go.Lib in
/-- internal/strconv.formatBase10: "formatBase10 formats the decimal representation of u into a. The caller is responsible for ensuring that a is big enough to hold u. If a is too big, leading zeros will be filled in as needed.": THE ROW HOLDS u's DIGITS ('FmtInv .. 0 ..': every place t holds 'dg u (len - 1 - t)'); all else is as it was but for the count of draws. (LAID: no walk: one application.) -/
theorem Tryz.internal_strconv_formatBase10 (blk off cap : Nat) (u : Nat) (d : Array UInt8) (w : World) (hH : Holds (fun (b : UInt8) => Value.int .u8 (b.toNat : Int)) w blk off d) (hu : u < 10 ^ d.size) (hu64 : u < 18446744073709551616) (hsz : d.size < 4611686018427387904) :
    Calls Tryz.prog 85 #[.slice (some ⟨blk, off, none⟩) d.size cap, .int .u64 u] w fun e w' =>
      e = .returned (.tuple #[]) ∧ ∃ (n v' : Nat) (dk : Array UInt8), w' = (putRow (fun (b : UInt8) => Value.int .u8 (b.toNat : Int)) w blk off dk).drewN n ∧ FmtInv d.size u 0 v' dk := Any.internal_strconv_formatBase10 Tryz.lays285 blk off cap u d w hH hu hu64 hsz
def Tryz.lays206_ren : Go.Shelf.Ren := ⟨fun | 206 => 89 | n => n, fun | 9 => 9 | 4 => 4 | 3 => 3 | n => n, fun | n => n⟩
theorem Tryz.lays206 : Go.Proofs.Lays.n206 Tryz.prog Tryz.lays206_ren := {
  mixed := by kernel_rfl
  f206 := Tryz.func89.trans (congrArg some (by kernel_rfl))
  t3 := Tryz.underlying3
  a3 := Tryz.isAgg3
  z3 := Tryz.sizeOf3
  v3 := Tryz.zeroValue3
  t4 := Tryz.underlying4
  a4 := Tryz.isAgg4
  z4 := Tryz.sizeOf4
  v4 := Tryz.zeroValue4
  t9 := Tryz.underlying9
  a9 := Tryz.isAgg9
  z9 := Tryz.sizeOf9
  v9 := Tryz.zeroValue9 }
open Go.RowKit Go.Lib in
/-- internal/stringslite.HasPrefix (what strings.HasPrefix calls). (LAID: no walk: one application.) -/
theorem Tryz.stringslite_HasPrefix (s p : ByteArray) (w : World) :
    Calls Tryz.prog 89 #[.string s, .string p] w fun e w' => e = .returned (.bool (Lib.hasPrefix s.data.toList p.data.toList)) ∧ w' = w := Any.stringslite_HasPrefix Tryz.lays206 s p w
def Tryz.lays99_ren : Go.Shelf.Ren := ⟨fun | 99 => 61 | 206 => 89 | n => n, fun | 9 => 9 | 4 => 4 | 3 => 3 | n => n, fun | n => n⟩
theorem Tryz.lays99 : Go.Proofs.Lays.n99 Tryz.prog Tryz.lays99_ren := {
  mixed := by kernel_rfl
  f99 := Tryz.func61.trans (congrArg some (by kernel_rfl))
  f206 := Tryz.func89.trans (congrArg some (by kernel_rfl))
  t3 := Tryz.underlying3
  a3 := Tryz.isAgg3
  z3 := Tryz.sizeOf3
  v3 := Tryz.zeroValue3
  t4 := Tryz.underlying4
  a4 := Tryz.isAgg4
  z4 := Tryz.sizeOf4
  v4 := Tryz.zeroValue4
  t9 := Tryz.underlying9
  a9 := Tryz.isAgg9
  z9 := Tryz.sizeOf9
  v9 := Tryz.zeroValue9 }
open Go.RowKit Go.Lib in
/-- strings.HasPrefix: "HasPrefix reports whether the string s begins with prefix.": IT RETURNS 'Lib.hasPrefix s prefix'; the world is as it was. (LAID: no walk: one application.) -/
theorem Tryz.strings_HasPrefix (s p : ByteArray) (w : World) :
    Calls Tryz.prog 61 #[.string s, .string p] w fun e w' => e = .returned (.bool (Lib.hasPrefix s.data.toList p.data.toList)) ∧ w' = w := Any.strings_HasPrefix Tryz.lays99 s p w
def Tryz.lays264_ren : Go.Shelf.Ren := ⟨fun | 264 => 88 | n => n, fun | 53 => 69 | 46 => 106 | n => n, fun | n => n⟩
theorem Tryz.lays264 : Go.Proofs.Lays.n264 Tryz.prog Tryz.lays264_ren := {
  mixed := by kernel_rfl
  f264 := Tryz.func88.trans (congrArg some (by kernel_rfl))
  t46 := Tryz.underlying106
  a46 := Tryz.isAgg106
  z46 := Tryz.sizeOf106
  v46 := Tryz.zeroValue106
  t53 := Tryz.underlying69
  a53 := Tryz.isAgg69
  z53 := Tryz.sizeOf69
  v53 := Tryz.zeroValue69 }
open Go.RowKit Go.Lib in
theorem Tryz.bits_Mul64 (x y : Nat) (hx : x < 18446744073709551616) (hy : y < 18446744073709551616) (w : World) :
    Calls Tryz.prog 88 #[.int .u64 x, .int .u64 y] w fun e w' => e = .returned (.tuple #[.int .u64 ((x * y / 18446744073709551616 : Nat) : Int), .int .u64 ((x * y % 18446744073709551616 : Nat) : Int)]) ∧ w' = w := Any.bits_Mul64 Tryz.lays264 x y hx hy w
def Tryz.lays212_ren : Go.Shelf.Ren := ⟨fun | 212 => 60 | 263 => 87 | 264 => 88 | n => n, fun | 46 => 106 | 51 => 140 | 146 => 141 | 53 => 69 | 148 => 143 | n => n, fun | n => n⟩
theorem Tryz.lays212 : Go.Proofs.Lays.n212 Tryz.prog Tryz.lays212_ren := {
  mixed := by kernel_rfl
  f212 := Tryz.func60.trans (congrArg some (by kernel_rfl))
  f263 := Tryz.func87.trans (congrArg some (by kernel_rfl))
  f264 := Tryz.func88.trans (congrArg some (by kernel_rfl))
  t46 := Tryz.underlying106
  a46 := Tryz.isAgg106
  z46 := Tryz.sizeOf106
  v46 := Tryz.zeroValue106
  t51 := Tryz.underlying140
  a51 := Tryz.isAgg140
  z51 := Tryz.sizeOf140
  v51 := Tryz.zeroValue140
  t53 := Tryz.underlying69
  a53 := Tryz.isAgg69
  z53 := Tryz.sizeOf69
  v53 := Tryz.zeroValue69
  t146 := Tryz.underlying141
  a146 := Tryz.isAgg141
  z146 := Tryz.sizeOf141
  v146 := Tryz.zeroValue141
  t148 := Tryz.underlying143
  a148 := Tryz.isAgg143
  z148 := Tryz.sizeOf143
  v148 := Tryz.zeroValue143 }
open Go.RowKit Go.Lib in
/-- math/bits.Mul: "Mul returns the full-width product of x and y": on a machine of 64 bits: Mul64's. (LAID: no walk: one application.) -/
theorem Tryz.bits_Mul (x y : Nat) (hx : x < 18446744073709551616) (hy : y < 18446744073709551616) (w : World) :
    Calls Tryz.prog 60 #[.int .u64 x, .int .u64 y] w fun e w' => e = .returned (.tuple #[.int .u64 ((x * y / 18446744073709551616 : Nat) : Int), .int .u64 ((x * y % 18446744073709551616 : Nat) : Int)]) ∧ w' = w := Any.bits_Mul Tryz.lays212 x y hx hy w
def Tryz.lays105_ren : Go.Shelf.Ren := ⟨fun | 105 => 33 | 212 => 60 | 99 => 61 | 165 => 62 | 166 => 31 | 170 => 63 | 169 => 34 | 263 => 87 | 264 => 88 | 206 => 89 | 240 => 58 | 241 => 90 | 276 => 82 | 277 => 103 | n => n, fun | 9 => 9 | 3 => 3 | 4 => 4 | 20 => 20 | 0 => 0 | 46 => 106 | 109 => 107 | 5 => 5 | 72 => 75 | 76 => 78 | 51 => 140 | 146 => 141 | 53 => 69 | 148 => 143 | 70 => 73 | 37 => 23 | 75 => 77 | 127 => 111 | 164 => 132 | 80 => 48 | n => n, fun | n => n⟩
theorem Tryz.lays105 : Go.Proofs.Lays.n105 Tryz.prog Tryz.lays105_ren := {
  mixed := by kernel_rfl
  f99 := Tryz.func61.trans (congrArg some (by kernel_rfl))
  f105 := Tryz.func33.trans (congrArg some (by kernel_rfl))
  f165 := Tryz.func62.trans (congrArg some (by kernel_rfl))
  f166 := Tryz.func31.trans (congrArg some (by kernel_rfl))
  f169 := Tryz.func34.trans (congrArg some (by kernel_rfl))
  f170 := Tryz.func63.trans (congrArg some (by kernel_rfl))
  f206 := Tryz.func89.trans (congrArg some (by kernel_rfl))
  f212 := Tryz.func60.trans (congrArg some (by kernel_rfl))
  f240 := Tryz.func58.trans (congrArg some (by kernel_rfl))
  f241 := Tryz.func90.trans (congrArg some (by kernel_rfl))
  f263 := Tryz.func87.trans (congrArg some (by kernel_rfl))
  f264 := Tryz.func88.trans (congrArg some (by kernel_rfl))
  f276 := Tryz.func82.trans (congrArg some (by kernel_rfl))
  f277 := Tryz.func103.trans (congrArg some (by kernel_rfl))
  t0 := Tryz.underlying0
  a0 := Tryz.isAgg0
  z0 := Tryz.sizeOf0
  v0 := Tryz.zeroValue0
  t3 := Tryz.underlying3
  a3 := Tryz.isAgg3
  z3 := Tryz.sizeOf3
  v3 := Tryz.zeroValue3
  t4 := Tryz.underlying4
  a4 := Tryz.isAgg4
  z4 := Tryz.sizeOf4
  v4 := Tryz.zeroValue4
  t5 := Tryz.underlying5
  a5 := Tryz.isAgg5
  z5 := Tryz.sizeOf5
  v5 := Tryz.zeroValue5
  t9 := Tryz.underlying9
  a9 := Tryz.isAgg9
  z9 := Tryz.sizeOf9
  v9 := Tryz.zeroValue9
  t20 := Tryz.underlying20
  a20 := Tryz.isAgg20
  z20 := Tryz.sizeOf20
  v20 := Tryz.zeroValue20
  t37 := Tryz.underlying23
  a37 := Tryz.isAgg23
  z37 := Tryz.sizeOf23
  v37 := Tryz.zeroValue23
  t46 := Tryz.underlying106
  a46 := Tryz.isAgg106
  z46 := Tryz.sizeOf106
  v46 := Tryz.zeroValue106
  t51 := Tryz.underlying140
  a51 := Tryz.isAgg140
  z51 := Tryz.sizeOf140
  v51 := Tryz.zeroValue140
  t53 := Tryz.underlying69
  a53 := Tryz.isAgg69
  z53 := Tryz.sizeOf69
  v53 := Tryz.zeroValue69
  t70 := Tryz.underlying73
  a70 := Tryz.isAgg73
  z70 := Tryz.sizeOf73
  v70 := Tryz.zeroValue73
  t72 := Tryz.underlying75
  a72 := Tryz.isAgg75
  z72 := Tryz.sizeOf75
  v72 := Tryz.zeroValue75
  t75 := Tryz.underlying77
  a75 := Tryz.isAgg77
  z75 := Tryz.sizeOf77
  v75 := Tryz.zeroValue77
  t76 := Tryz.underlying78
  a76 := Tryz.isAgg78
  z76 := Tryz.sizeOf78
  v76 := Tryz.zeroValue78
  t109 := Tryz.underlying107
  a109 := Tryz.isAgg107
  z109 := Tryz.sizeOf107
  v109 := Tryz.zeroValue107
  t127 := Tryz.underlying111
  a127 := Tryz.isAgg111
  z127 := Tryz.sizeOf111
  v127 := Tryz.zeroValue111
  t146 := Tryz.underlying141
  a146 := Tryz.isAgg141
  z146 := Tryz.sizeOf141
  v146 := Tryz.zeroValue141
  t148 := Tryz.underlying143
  a148 := Tryz.isAgg143
  z148 := Tryz.sizeOf143
  v148 := Tryz.zeroValue143
  t164 := Tryz.underlying132
  a164 := Tryz.isAgg132
  z164 := Tryz.sizeOf132
  v164 := Tryz.zeroValue132 }
theorem Tryz.Builder_Extra_105 : Builder.Extra Tryz.prog Tryz.lays105_ren := {
  sizeBuilder := by kernel_rfl
  liesBuilder := by kernel_rfl
  t5 := Tryz.underlying5
  a5 := Tryz.isAgg5
  z5 := Tryz.sizeOf5
  v5 := Tryz.zeroValue5
  infoByte := by kernel_rfl
  cellsByte := by kernel_rfl
  sizeByte := by kernel_rfl
  neB5 := by decide }
open Go.RowKit Go.Lib in
/-- THE MAIN CASE: at least two copies of a string that is not empty. (LAID: no walk: one application.) -/
theorem Tryz.strings_Repeat_main (s : ByteArray) (c : Nat) (w : World) (hc2 : 2 ≤ c) (hc : c ≤ 9223372036854775807) (hlen : s.size * c ≤ 140737488355328) (h0 : 0 < s.size) :
    Calls Tryz.prog 33 #[.string s, .int .i64 c] w fun e w' => e = .returned (.string ⟨(Lib.repeatL s.data.toList c).toArray⟩) ∧ Below w.heap.size w w' := Any.strings_Repeat_main Tryz.lays105 Tryz.Builder_Extra_105 s c w hc2 hc hlen h0
open Go.RowKit Go.Lib in
theorem Tryz.strings_Repeat_zero (s : ByteArray) (w : World) :
    Calls Tryz.prog 33 #[.string s, .int .i64 0] w fun e w' => e = .returned (.string ⟨#[]⟩) ∧ w' = w := Any.strings_Repeat_zero Tryz.lays105 s w
open Go.RowKit Go.Lib in
theorem Tryz.strings_Repeat_one (s : ByteArray) (w : World) :
    Calls Tryz.prog 33 #[.string s, .int .i64 1] w fun e w' => e = .returned (.string s) ∧ w' = w := Any.strings_Repeat_one Tryz.lays105 s w
open Go.RowKit Go.Lib in
/-- Copies of the empty string. (LAID: no walk: one application.) -/
theorem Tryz.strings_Repeat_empty (s : ByteArray) (c : Nat) (w : World) (hc2 : 2 ≤ c) (hc : c ≤ 9223372036854775807) (h0 : s.size = 0) :
    Calls Tryz.prog 33 #[.string s, .int .i64 c] w fun e w' => e = .returned (.string ⟨#[]⟩) ∧ w' = w := Any.strings_Repeat_empty Tryz.lays105 s c w hc2 hc h0
open Go.RowKit Go.Lib in
/-- count < 0: "It panics if count is negative". (LAID: no walk: one application.) -/
theorem Tryz.strings_Repeat_negative (s : ByteArray) (c : Int) (w : World) (hc : c < 0) :
    Calls Tryz.prog 33 #[.string s, .int .i64 c] w fun e w' => e = .panicked [{ v := repeatPanic Tryz.lays105_ren "strings: negative Repeat count", recovered := false }] ∧ w' = w := Any.strings_Repeat_negative Tryz.lays105 s c w hc
open Go.RowKit Go.Lib in
/-- len(s) * count is no int: ".. or if the result of (len(s) * count) overflows". (LAID: no walk: one application.) -/
theorem Tryz.strings_Repeat_overflow (s : ByteArray) (c : Nat) (w : World) (hc : c ≤ 9223372036854775807) (hs : s.size ≤ 9223372036854775807) (hbig : 9223372036854775807 < s.size * c) :
    Calls Tryz.prog 33 #[.string s, .int .i64 c] w fun e w' => e = .panicked [{ v := repeatPanic Tryz.lays105_ren "strings: Repeat output length overflow", recovered := false }] ∧ w' = w := Any.strings_Repeat_overflow Tryz.lays105 s c w hc hs hbig
open Go.RowKit Go.Lib in
/-- **strings.Repeat: count ≥ 0, the result within one allocation: count copies of s.** (LAID: no walk: one application.) -/
theorem Tryz.strings_Repeat (s : ByteArray) (c : Nat) (w : World) (hc : c ≤ 9223372036854775807) (hlen : s.size * c ≤ 140737488355328) :
    Calls Tryz.prog 33 #[.string s, .int .i64 c] w fun e w' => e = .returned (.string ⟨(Lib.repeatL s.data.toList c).toArray⟩) ∧ Below w.heap.size w w' := Any.strings_Repeat Tryz.lays105 Tryz.Builder_Extra_105 s c w hc hlen
end Go.Proofs
namespace Go.By
open Go.RowKit
/-- which is greater -/
def cmpN (M N : Nat) : Int := if M < N then -1 else if N < M then 1 else 0
theorem cmpN_lt {M N : Nat} (h : M < N) : cmpN M N = -1 := by unfold cmpN; rw [if_pos h]
theorem cmpN_gt {M N : Nat} (h : N < M) : cmpN M N = 1 := by unfold cmpN; rw [if_neg (by omega), if_pos h]
theorem cmpN_eq {M N : Nat} (h : M = N) : cmpN M N = 0 := by unfold cmpN; rw [if_neg (by omega), if_neg (by omega)]
theorem valW_shorter {xs ys : List UInt64} (h : NormW ys) (hl : xs.length < ys.length) : valW xs < valW ys :=
  val_len (by decide) (words_lt xs) (by
    rw [List.getLast?_map]
    cases e : ys.getLast? with
    | none => simp
    | some x =>
      intro hx
      have : x.toNat = 0 := by simpa using hx
      have : x = 0 := UInt64.toNat_inj.1 (by simpa using this)
      exact h (by rw [e, this])) (by simpa using hl)
theorem drop_cons {α : Type} {xs : List α} {j : Nat} {x : α} (h : xs[j]? = some x) : xs.drop j = x :: xs.drop (j + 1) := by
  obtain ⟨hj, e⟩ := List.getElem?_eq_some_iff.1 h
  rw [← e, List.getElem_cons_drop hj]
/-- the highest unlike word decides -/
theorem valW_top {xs ys : List UInt64} {j : Nat} {x y : UInt64} (hl : xs.length = ys.length) (hx : xs[j]? = some x) (hy : ys[j]? = some y) (hs : xs.drop (j + 1) = ys.drop (j + 1)) (h : x.toNat < y.toNat) : valW xs < valW ys := by
  have hj := (List.getElem?_eq_some_iff.1 hx).1
  have hj' := (List.getElem?_eq_some_iff.1 hy).1
  have e1 : xs = xs.take j ++ x :: xs.drop (j + 1) := by rw [← drop_cons hx, List.take_append_drop]
  have e2 : ys = ys.take j ++ y :: xs.drop (j + 1) := by rw [hs, ← drop_cons hy, List.take_append_drop]
  rw [e1, e2]
  unfold valW
  rw [List.map_append, List.map_append, List.map_cons, List.map_cons]
  refine val_top (by decide) (fun a ha => ?_) (by simp; omega) h
  exact words_lt (xs.take j) a ha
theorem W64_eq {n : Int} {x : UInt64} (h : n = (x.toNat : Int)) : Value.int .u64 n = W64 x := by rw [h]
theorem bdn {B : Nat} {a w : World} (h : Below B a w) {n : Nat} : Below B a (w.drewN n) := ⟨h.os, h.tape, h.output, h.size, h.block⟩
end Go.By
namespace Go.Proofs.YtbfmdfbnhakolaaGreatDoor
open Go.RowKit Go.By
theorem add64_run (x y c : Int) (hx : 0 ≤ x) (hy : 0 ≤ y) (hc0 : 0 ≤ c) (hc : c ≤ 1) (w : World) : (callFunc 97 #[.int .u64 x, .int .u64 y, .int .u64 c]).run Tryz.prog w =
    .ok (.value (.tuple #[.int .u64 ((x + y + c) % 18446744073709551616), .int .u64 ((x + y + c) / 18446744073709551616)])) w := by
  obtain ⟨x, rfl⟩ := Int.eq_ofNat_of_zero_le hx
  obtain ⟨y, rfl⟩ := Int.eq_ofNat_of_zero_le hy
  obtain ⟨c, rfl⟩ := Int.eq_ofNat_of_zero_le hc0
  rw [run_callFunc_extern Tryz.func97 (by kernel_rfl) (by kernel_rfl) (by kernel_rfl) (e := add64Entry) (by kernel_rfl), run_add64 x y c (by omega) (by omega) (by omega) (by omega)]
  simp only [Result.andThen]
/-- one word of a sum, its parts known -/
theorem add64_ex (x y c : Nat) (hc : c ≤ 1) (hx : x < 18446744073709551616) (hy : y < 18446744073709551616) : ∃ (s : UInt64) (c' : Nat), (∀ w, (callFunc 97 #[.int .u64 x, .int .u64 y, .int .u64 c]).run Tryz.prog w = .ok (.value (.tuple #[W64 s, .int .u64 c'])) w) ∧ c' ≤ 1 ∧ Hid (s.toNat = (x + y + c) % 18446744073709551616 ∧ c' = (x + y + c) / 18446744073709551616) := by
  have e : (UInt64.ofNat ((x + y + c) % 18446744073709551616)).toNat = (x + y + c) % 18446744073709551616 := by
    simp
  refine ⟨UInt64.ofNat ((x + y + c) % 18446744073709551616), (x + y + c) / 18446744073709551616, fun w => ?_, by omega, e, rfl⟩
  rw [add64_run _ _ _ (by omega) (by omega) (by omega) (by omega)]
  have e2 : W64 (UInt64.ofNat ((x + y + c) % 18446744073709551616)) = .int .u64 (((x + y + c) % 18446744073709551616 : Nat) : Int) := by show Value.int .u64 _ = _; rw [e]
  rw [e2]
  congr 5
end Go.Proofs.YtbfmdfbnhakolaaGreatDoor
namespace Go.By
open Go.RowKit
theorem idx_hex {P : Program} (t : TypeId) (ht : P.underlying t = some .string) (z : Int) (d : Nat) (hz : z = (d : Int)) (hd : d < 16) (w : World) :
    (Instr.index t (.string Lib.digits36) (.int .u64 z)).run P w = .ok (B8 (hexc d)) w := by
  subst hz
  rw [run_index_string w t Lib.digits36 _ _ ht, dif_pos ⟨by omega, by rw [Lib.digits36_size]; omega⟩]
  have e : ((d : Int)).toNat = d := by omega
  simp only [e]
  have key : ∀ d : Fin 16, Lib.digits36.data.toList[d.val]? = some (hexc d.val) := by decide +kernel
  have k := key ⟨d, hd⟩
  have hsz : d < Lib.digits36.size := by rw [Lib.digits36_size]; omega
  have : Lib.digits36[d]'hsz = hexc d := by
    rw [Array.getElem?_toList] at k
    have h2 : Lib.digits36.data[d]? = some (Lib.digits36[d]'hsz) := Array.getElem?_eq_getElem hsz
    rw [h2] at k
    exact Option.some.inj k
  rw [this]
theorem hexText_small {u : Nat} (h : u < 16) : hexText u = [hexc u] := by
  unfold hexText
  by_cases h0 : u = 0
  · subst h0; rfl
  · rw [if_neg h0, digs_pos (by decide) (by omega), Nat.div_eq_of_lt h, digs_zero, Nat.mod_eq_of_lt h]; rfl
theorem hexText_big {u : Nat} (h : 16 ≤ u) : hexText u = hexText (u / 16) ++ [hexc (u % 16)] := by
  have h1 : u / 16 ≠ 0 := by omega
  unfold hexText
  rw [if_neg (by omega), if_neg h1, digs_pos (by decide) (by omega), List.reverse_cons, List.map_append]; rfl
theorem hexText_pos (u : Nat) : 1 ≤ (hexText u).length := by
  have := hexText_ne u
  cases h : hexText u with
  | nil => exact absurd h this
  | cons _ _ => simp
theorem wr_u64 (n : Int) (h0 : 0 ≤ n) (h1 : n < 2 ^ 64) : IntKind.u64.wrap n = n := by
  rw [IntKind.wrap_u64]
  have : (2 : Int) ^ 64 = 18446744073709551616 := by decide
  omega
theorem and15 (u : Nat) (h : u < 18446744073709551616) : bits .and .u64 (u : Int) 15 = ((u % 16 : Nat) : Int) := by
  have h1 := (bits_nat .u64 64 (by decide) wr_u64 u 15 (by simpa using h) (by decide)).1
  rw [show ((15 : Int)) = ((15 : Nat) : Int) from rfl, h1]
  congr 1
  exact Nat.and_two_pow_sub_one_eq_mod u 4
end Go.By
namespace Go.Proofs.YtbfmdfbnhakolaaGreatDoor
open Go.RowKit Go.By
/-- the one cell of the table that is read -/
def Tab (w : World) : Prop := w.cell? ⟨3, 15, none⟩ = some (.int .u8 4)
theorem Tab.keep {w w' : World} (h : Tab w) (hb : Below w.heap.size w w') : Tab w' := (hb.cell (p := ⟨3, 15, none⟩) (lt_of_cell h)).trans h
theorem Tz64 (w : World) (h : Tab w) : Calls Tryz.prog 107 #[.int .u64 16] w fun e w' => e = .returned (.int .i64 4) ∧ w' = w := by
  have hc : w.cell? ⟨3, 15, none⟩ = some (.int .u8 4) := h
  have key : IntKind.u64.wrap (bits BinOp.and IntKind.u64 16 (IntKind.u64.wrap (-16)) * 285870213051353865) / 288230376151711744 = 15 := by decide
  clear h
  go_enter Tryz.func107, Tryz.ntmps107
  go_wp2_with (simp only [key])
  go_ret
  exact ⟨rfl, rfl⟩
theorem Tz (w : World) (h : Tab w) : Calls Tryz.prog 102 #[.int .u64 16] w fun e w' => e = .returned (.int .i64 4) ∧ w' = w := by
  go_enter Tryz.func102, Tryz.ntmps102
  go_wp2_with fail
  refine Calls.mono (Tz64 w h) ?_
  rintro e w' ⟨rfl, rfl⟩
  go_wp2
  go_ret
  exact ⟨rfl, rfl⟩
theorem Pow2 (w : World) : Calls Tryz.prog 101 #[.int .i64 16] w fun e w' => e = .returned (.bool true) ∧ w' = w := by
  have key : bits BinOp.and IntKind.i64 16 15 = 0 := by decide
  go_enter Tryz.func101, Tryz.ntmps101
  go_wp2_with (simp only [key])
  go_ret
  exact ⟨rfl, rfl⟩
set_option maxRecDepth 100000 in
set_option maxHeartbeats 4000000 in
theorem formatBits_16 (n : UInt64) (w : World) (hT : Tab w) :
    Calls Tryz.prog 86 #[.slice none 0 0, W64 n, .int .i64 16, .bool false, .bool false] w fun e w' => e = .returned (.tuple #[.slice none 0 0, .string ⟨(hexText n.toNat).toArray⟩]) ∧ Below w.heap.size w w' := by
  have hA : ∀ o, Below w.heap.size w (w.alloc o) := fun o => al (Below.refl _ _) (Nat.le_refl _)
  have T1 : Hid (∀ o, Tab (w.alloc o)) := fun o => hT.keep (hA o)
  have HA := Lib.hid hA; clear hA
  have hn16 : Hid ((hexText n.toNat).length ≤ 16) := (hex_pad (k := 16) (by decide) (by have := n.toNat_lt; simpa using this)).2
  go_enter Tryz.func86, Tryz.ntmps86
  go_name_bytes_deep 40 PM hPM
  clear hPM
  go_name_bytes_deep 30 DG hDG
  have eDG : DG = Lib.digits36 := by rw [← hDG]; decide +kernel
  subst eDG
  clear hDG
  go_wp2_with fail
  refine Calls.mono (Pow2 _) ?_
  rintro e w' ⟨rfl, rfl⟩
  go_wp2_with fail
  refine Calls.mono (Tz _ (T1.out _)) ?_
  rintro e w' ⟨rfl, rfl⟩
  go_wp2
  go_loopw [1, 13] (fun uv iv wr => ∃ (u i : Nat) (L : List UInt8) (C : Array Value), uv = .int .u64 u ∧ iv = .int .i64 i ∧ u < 18446744073709551616 ∧ Hid (L.length + i = 65 ∧ C.size = 65 ∧ C.toList.drop i = L.map B8 ∧ hexText n.toNat = hexText u ++ L) ∧ Hid (wr.heap[w.heap.size]? = some (.cells C 155 (0, 0))) ∧ Hid (Below w.heap.size w wr)) (fun uv _ _ => (intOf uv).toNat)
  case atStart =>
    have h65 : Tryz.zeroCells155.size = 65 := by kernel_rfl
    exact ⟨n.toNat, 65, [], Tryz.zeroCells155, rfl, rfl, n.toNat_lt, ⟨rfl, h65, List.drop_of_length_le (by simp [h65]), by simp⟩, hnew rfl, HA.out _⟩
  case round =>
    obtain ⟨u, i, L, C, rfl, rfl, hu, hL, hh, hB⟩ := hrel
    obtain ⟨j, rfl⟩ : ∃ j, i = j + 1 := ⟨i - 1, by
      have h1 := hL.out.1; have h2 := congrArg List.length hL.out.2.2.2; have h3 := hexText_pos u; have h4 := hn16.out
      rw [List.length_append] at h2; omega⟩
    have hj65 : (j : Int) < 65 := by have := hL.out.1; omega
    have hjn : j < C.size := by have := hL.out.1; have := hL.out.2.1; omega
    obtain ⟨z, hz⟩ : ∃ z, wr.cell? ⟨w.heap.size, j, none⟩ = some z := ⟨_, by rw [cell_of_row _ _ j _ _ _ hh.out, Array.getElem?_eq_getElem hjn]⟩
    have hzf : wr.frozen? ⟨w.heap.size, j, none⟩ = false := frozen_of_row _ _ j _ _ hh.out
    have fin : Hid (∀ c : UInt8, (C.setIfInBounds j (B8 c)).size = 65 ∧ (C.setIfInBounds j (B8 c)).toList.drop j = (c :: L).map B8) := fun c => by
      refine ⟨by rw [Array.size_setIfInBounds]; exact hL.out.2.1, ?_⟩
      rw [Array.toList_setIfInBounds, List.drop_eq_getElem_cons (by simpa using hjn)]
      rw [List.getElem_set_self, List.drop_set_of_lt (by omega), hL.out.2.2.1]; rfl
    clear hjn
    by_cases h16 : 16 ≤ u
    · have hd := and15 u hu
      have hx : ∀ w, (Instr.index 9 (.string Lib.digits36) (.int .u64 ((u % 16 : Nat) : Int))).run Tryz.prog w = .ok (B8 (hexc (u % 16))) w := fun w => idx_hex _ Tryz.underlying9 _ (u % 16) rfl (Nat.mod_lt _ (by decide)) w
      have h16' : (16 : Int) ≤ (u : Int) := by omega
      obtain ⟨m, hm⟩ : ∃ m, m = u % 16 := ⟨_, rfl⟩
      rw [← hm] at hd hx
      have F : Hid ((hexc m :: L).length + j = 65 ∧ hexText n.toNat = hexText (u / 16) ++ (hexc m :: L)) := ⟨by have := hL.out.1; rw [List.length_cons]; omega, by rw [hL.out.2.2.2, hexText_big h16, hm, List.append_assoc]; rfl⟩
      obtain ⟨C', hC'⟩ : ∃ C', C' = C.setIfInBounds j (B8 (hexc m)) := ⟨_, rfl⟩
      have F2 : Hid (C'.size = 65 ∧ C'.toList.drop j = (hexc m :: L).map B8 ∧ (wr.setCell ⟨w.heap.size, j, none⟩ (B8 (hexc m))).heap[w.heap.size]? = some (.cells C' 155 (0, 0)) ∧ Below w.heap.size w (wr.setCell ⟨w.heap.size, j, none⟩ (B8 (hexc m)))) := ⟨by rw [hC']; exact (fin.out _).1, by rw [hC']; exact (fin.out _).2, by rw [hC']; exact hss hh.out, hB.out.setCell (Nat.le_refl _) _⟩
      clear hL hh hB hm h16 hC' fin
      go_wp2_with (first | simp only [hd] | simp only [hx])
      go_roundw
      case rel => exact ⟨u / 16, j, _, _, by go_num, rfl, by omega, ⟨F.out.1, F2.out.1, F2.out.2.1, F.out.2⟩, F2.out.2.2.1, F2.out.2.2.2⟩
      case measure => simp [intOf]; omega
    · have hx : ∀ w, (Instr.index 9 (.string Lib.digits36) (.int .u64 (u : Int))).run Tryz.prog w = .ok (B8 (hexc u)) w := fun w => idx_hex _ Tryz.underlying9 _ u rfl (by omega) w
      have h16' : ¬ (16 : Int) ≤ (u : Int) := by omega
      have hText : Hid (hexText n.toNat = hexc u :: L) := by show _ = _; rw [hL.out.2.2.2, hexText_small (by omega)]; rfl
      have hlen : j + (L.length + 1) = 65 := by have := hL.out.1; omega
      obtain ⟨C', hC'⟩ : ∃ C', C' = C.setIfInBounds j (B8 (hexc u)) := ⟨_, rfl⟩
      have hal : Tryz.prog.arrayLen 155 = 65 := by simp [Program.arrayLen, Tryz.underlying155]
      have hsl : ∀ W, (Instr.sliceAt 155 (.pointer (some ⟨w.heap.size, 0, none⟩)) (some (.int .i64 (j : Int))) none none).run Tryz.prog W = .ok (.slice (some ⟨w.heap.size, j, none⟩) (hexc u :: L).length (65 - j)) W := fun W => by
        rw [run_sliceAt_array_l W 155 ⟨w.heap.size, 0, none⟩ (by simp [Program.arrayLen, Program.elem, Tryz.underlying155]) .i64 (j : Int) (by omega) (by rw [hal]; omega)]
        go_simp
        omega
      have hcv : (convert 23 9 (.slice (some ⟨w.heap.size, j, none⟩) (hexc u :: L).length (65 - j))).run Tryz.prog (wr.setCell ⟨w.heap.size, j, none⟩ (B8 (hexc u))) = .ok (.string ⟨(hexc u :: L).toArray⟩) (wr.setCell ⟨w.heap.size, j, none⟩ (B8 (hexc u))) :=
        run_convert_bytes_back _ 23 9 5 ⟨w.heap.size, j, none⟩ (65 - j) (hexc u :: L) Tryz.underlying23 Tryz.underlying5 Tryz.underlying9 (fun t ht => by
          rw [Addr.add_lit, cell_of_row _ _ _ _ _ _ (hss hh.out)]
          have h2 := (fin.out (hexc u)).2
          have h3 := congrArg (fun l => l[t]?) h2
          simp only [List.getElem?_drop, List.getElem?_map] at h3
          rw [Array.getElem?_toList] at h3
          rw [h3, List.getElem?_eq_getElem ht]; rfl)
      have F2 : Hid (Below w.heap.size w (wr.setCell ⟨w.heap.size, j, none⟩ (B8 (hexc u)))) := hB.out.setCell (Nat.le_refl _) _
      obtain ⟨m, hm⟩ : ∃ m, (hexc u :: L).length = m := ⟨_, rfl⟩
      rw [hm] at hsl hcv
      obtain ⟨Z, hZ⟩ : ∃ Z, (hexc u :: L).toArray = Z := ⟨_, rfl⟩
      rw [hZ] at hcv
      have HZ : Hid ((hexText n.toNat).toArray = Z) := by show _ = _; rw [hText.out]; exact hZ
      clear hL hh hB h16 hC' fin hal hlen hm hZ hText
      go_wp2_with (first | simp only [hx] | simp only [hsl] | simp only [hcv])
      go_ret2
      exact ⟨by rw [HZ.out]; rfl, F2.out⟩
theorem FormatUint_in (n : UInt64) (w : World) (hT : Tab w) :
    Calls Tryz.prog 59 #[W64 n, .int .i64 16] w fun e w' => e = .returned (.string ⟨(hexText n.toNat).toArray⟩) ∧ Below w.heap.size w w' := by
  obtain ⟨Z, hZ⟩ : ∃ Z, (hexText n.toNat).toArray = Z := ⟨_, rfl⟩
  have HF := formatBits_16 n w hT
  rw [hZ] at HF ⊢
  clear hZ
  have HF := Lib.hid HF
  go_enter Tryz.func59, Tryz.ntmps59
  go_wp2_with fail
  refine Calls.mono HF.out ?_
  rintro e w' ⟨rfl, hb⟩
  have HB := Lib.hid hb; clear hb
  go_wp2
  go_ret
  exact ⟨rfl, HB.out⟩
theorem FormatUint_16 (n : UInt64) (w : World) (hT : Tab w) :
    Calls Tryz.prog 32 #[W64 n, .int .i64 16] w fun e w' => e = .returned (.string ⟨(hexText n.toNat).toArray⟩) ∧ Below w.heap.size w w' := by
  have HF := FormatUint_in n w hT
  obtain ⟨Z, hZ⟩ : ∃ Z, (hexText n.toNat).toArray = Z := ⟨_, rfl⟩
  rw [hZ] at HF ⊢
  clear hZ
  have HF := Lib.hid HF
  go_enter Tryz.func32, Tryz.ntmps32
  go_wp2_with fail
  refine Calls.mono HF.out ?_
  rintro e w' ⟨rfl, hb⟩
  have HB := Lib.hid hb; clear hb
  go_wp2
  go_ret
  exact ⟨rfl, HB.out⟩
end Go.Proofs.YtbfmdfbnhakolaaGreatDoor
