/- Contracts alike to those of other seats: IndexFunc and ContainsFunc of bytes and rows, Same and Zero of the reference, Zero of the kernel and of vectors. -/
import Derived.Test.YtnlfohbmdmeodaaDoorProg
import Derived.Test.YtnlfohbmdmeodaaDoorB4
import Derived.BigQuiet
import Derived.Deep.QuietTactic
import Derived.WalkKit
import Derived.WalkLawsBesides
import Derived.WalkSpells
import Derived.Lib.Hide
import Derived.Shelf.Abstract
namespace Go.Proofs.YtnlfohbmdmeodaaDoor
open Go.RowKit Go.By
theorem info_u8 : (Tryd.prog.info? 5).map (fun i => (i.zero, i.size, i.bytes)) = some (some (.int .u8 0), 1, 1) := by kernel_rfl
def lenNe (n : Nat) : Value → Bool
  | .slice _ m _ => (m : Int) != n
  | _ => false
theorem any_vals {w : World} {n : Nat} {vs : List Value} {xss : List (List UInt8)} (hl : vs.length = xss.length)
    (hv : ∀ (i : Nat) (v : Value), vs[i]? = some v → ∃ xs q c', xss[i]? = some xs ∧ v = Value.slice q xs.length c' ∧ Sl B8 w q xs.length c' xs) :
    vs.any (lenNe n) = !(xss.all (fun y => decide (y.length = n))) := by
  rw [List.all_eq_not_any_not, Bool.not_not, Bool.eq_iff_iff]
  simp only [List.any_eq_true]
  constructor
  · rintro ⟨v, hm, h⟩
    obtain ⟨i, hi, e⟩ := List.getElem_of_mem hm
    obtain ⟨xs, q, c', hx, rfl, _⟩ := hv i v (by rw [List.getElem?_eq_getElem hi, e])
    refine ⟨xs, List.mem_of_getElem? hx, ?_⟩
    simp [lenNe] at h ⊢; omega
  · rintro ⟨xs, hm, h⟩
    obtain ⟨i, hi, e⟩ := List.getElem_of_mem hm
    have hi' : i < vs.length := by omega
    obtain ⟨ys, q, c', hx, hv', _⟩ := hv i _ (List.getElem?_eq_getElem hi')
    refine ⟨_, List.getElem_mem hi', ?_⟩
    rw [hv']
    rw [List.getElem?_eq_getElem hi, e] at hx
    cases hx
    simp [lenNe] at h ⊢; omega
def zeroS (xs : List UInt8) : Bool := xs.all (fun x => decide (x = 0))
theorem eq_of_pref {xs ys : List UInt8} {k : Nat} (h1 : xs.length = k) (h2 : ys.length = k) (h : ∀ j : Nat, j < k → xs[j]? = ys[j]?) : xs = ys := by
  apply List.ext_getElem?
  intro j
  by_cases hj : j < k
  · exact h j hj
  · rw [List.getElem?_eq_none (by omega), List.getElem?_eq_none (by omega)]
theorem u8_ne {x y : UInt8} (h : x ≠ y) : (((x.toNat : Int) != (y.toNat : Int)) = true) := by
  rw [bne_iff_ne]; intro e; exact h (UInt8.toNat_inj.1 (by omega))
theorem u8_eq (x : UInt8) : (((x.toNat : Int) != (x.toNat : Int)) = false) := by simp
theorem below_drewN (w : World) (q : Nat) : Below w.heap.size w (w.drewN q) := ⟨rfl, rfl, rfl, Nat.le_refl _, fun _ _ => rfl⟩
theorem dr {α : Type} {enc : α → Value} {w : World} {p : Option Addr} {n c : Nat} {xs : List α} (h : Sl enc w p n c xs) (k : Nat) : Sl enc (w.drewN k) p n c xs := h.keep (below_drewN w k)
theorem bdn {B : Nat} {a w : World} (h : Below B a w) {n : Nat} : Below B a (w.drewN n) := ⟨h.os, h.tape, h.output, h.size, h.block⟩
end Go.Proofs.YtnlfohbmdmeodaaDoor
