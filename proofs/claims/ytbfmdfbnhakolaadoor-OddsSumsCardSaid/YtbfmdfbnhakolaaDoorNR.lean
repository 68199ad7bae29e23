/- Numbers: Parse. -/
import Derived.Test.YtbfmdfbnhakolaaDoorNQ
namespace Go.By
open Go.RowKit
theorem idx_strB {P : Program} (t : TypeId) (ht : P.underlying t = some .string) {l : List UInt8} {k : Nat} {c : UInt8} (h : l[k]? = some c) (K : IntKind) (z : Int) (hz : z = (k : Int)) (w : World) :
    (Instr.index t (.string (strB l)) (.int K z)).run P w = .ok (B8 c) w := by
  subst hz
  obtain ⟨hk, e⟩ := List.getElem?_eq_some_iff.1 h
  rw [run_index_string w t (strB l) _ _ ht, dif_pos ⟨by omega, by rw [strB_size]; omega⟩]
  have e1 : ((k : Int)).toNat = k := by omega
  simp only [e1]
  have hsz : k < (strB l).size := by rw [strB_size]; exact hk
  have h2 : (strB l).data[k]? = some ((strB l)[k]'hsz) := Array.getElem?_eq_getElem hsz
  rw [← Array.getElem?_toList, strB_data, h] at h2
  rw [← Option.some.inj h2]
theorem extract_strB (l : List UInt8) (i j : Nat) : (strB l).extract i j = strB ((l.take j).drop i) := by
  rw [strB_of ((strB l).extract _ _)]
  congr 1
  rw [Lib.extract_data, strB_data]
  simp [List.extract_eq_take_drop, List.drop_take]
theorem empty_strB {l : List UInt8} : (strB l).toList.isEmpty = l.isEmpty := by
  rw [← decide_eq_emptyBytes]
  cases l with
  | nil => exact decide_eq_true rfl
  | cons c r => exact decide_eq_false (fun h => by have := congrArg (fun s : ByteArray => s.data.toList) h; rw [show (strB (c :: r)).data.toList = c :: r from strB_data _] at this; cases this)
/-- is a text a number's? -/
def goodT (l : List UInt8) : Bool := match l with
  | [] => false
  | c :: r => (decide (c ≠ 48) || r.isEmpty) && (c :: r).all isHex
theorem one_cell {w : World} {v : Value} {T g : Nat} (hg : g = w.heap.size) : ∀ (j : Nat) (u : Value), [v][j]? = some u → (w.alloc (.cells #[v] T)).cell? ((⟨g, 0, none⟩ : Addr).add j) = some u := by
  intro j u hj
  rw [Addr.add_lit, Nat.zero_add, cell_of_row _ _ j _ _ _ (hnew hg)]
  match j with
  | 0 => simpa using hj
  | j + 1 => simp at hj
end Go.By
namespace Go.Proofs.YtbfmdfbnhakolaaDoor
open Go.RowKit Go.By
/-- what Parse says of a text whose beginning is in order -/
def RetT (w : World) (l : List UInt8) (e : Ending) (w' : World) : Prop := (l.all isHex = true ∧ RetN 34 w (valT l) e w') ∨ (l.all isHex = false ∧ Ret0 w 14 e w')
/-- what Parse says of any text that isn't too long -/
def RetParse (w : World) (l : List UInt8) (e : Ending) (w' : World) : Prop := (goodT l = true ∧ RetN 34 w (valT l) e w') ∨ (goodT l = false ∧ Ret0 w 14 e w')
theorem goodT_hexText (n : Nat) : goodT (hexText n) = true := by
  cases h : hexText n with
  | nil => exact absurd h (hexText_ne n)
  | cons c r =>
    show ((decide (c ≠ 48) || r.isEmpty) && (c :: r).all isHex) = true
    have h1 : (c :: r).all isHex = true := by rw [← h, List.all_eq_true]; exact hexText_hex n
    rw [h1, Bool.and_true]
    rcases hexText_head h with hc | hr
    · rw [decide_eq_true hc]; rfl
    · rw [hr]; simp
end Go.Proofs.YtbfmdfbnhakolaaDoor
