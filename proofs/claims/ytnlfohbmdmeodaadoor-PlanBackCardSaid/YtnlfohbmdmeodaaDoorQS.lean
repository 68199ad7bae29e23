/- Texts as lists of bytes; builders. -/
import Derived.Test.YtnlfohbmdmeodaaDoorB2
import Derived.Lib.Strings
import Derived.Lib.UnsafeStr
import Derived.Lib.AppendStr
import Derived.Lib.Builder
namespace Go.By
open Go.RowKit
/-- bytes as a text -/
def strB (l : List UInt8) : ByteArray := ⟨l.toArray⟩
theorem strB_size (l : List UInt8) : (strB l).size = l.length := by simp [strB, ByteArray.size]
theorem strB_data (l : List UInt8) : (strB l).data.toList = l := by simp [strB]
theorem strB_cells (l : List UInt8) : Lib.strCells (strB l) = Lib.byteCells l := by rw [Lib.strCells_eq, strB_data]
theorem strB_inj {a b : List UInt8} (h : strB a = strB b) : a = b := by rw [← strB_data a, h, strB_data]
theorem strB_of (s : ByteArray) : s = strB s.data.toList := by cases s; simp [strB]
theorem BuilderAt.keep {T e : TypeId} {B b : Nat} {p : Value} {bs : List Value} {w w' : World} (h : Lib.BuilderAt T e B b p bs w) (hb : Below w.heap.size w w') : Lib.BuilderAt T e B b p bs w' := by
  obtain ⟨h1, v, h2, h3, h4⟩ := h
  obtain ⟨q, c, rfl⟩ := owns_shape h3
  exact ⟨h1, _, (hb.block _ (lt_of_block h2)).trans h2, owns_keep h3 hb, h4⟩
theorem bytes_append (a b : List UInt8) : Lib.byteCells a ++ Lib.byteCells b = Lib.byteCells (a ++ b) := by simp [Lib.byteCells]
theorem txt_app (a b : List UInt8) : strB a ++ strB b = strB (a ++ b) := by
  rw [strB_of (strB a ++ strB b)]
  congr 1
theorem txt_ext (l : List UInt8) (i j : Nat) : (strB l).extract i j = strB ((l.take j).drop i) := by
  rw [strB_of ((strB l).extract _ _)]
  rw [Lib.extract_data, strB_data]
  simp [List.extract_eq_take_drop, List.drop_take]
theorem txt_idx {P : Program} (t : TypeId) (ht : P.underlying t = some .string) {l : List UInt8} {k : Nat} {c : UInt8} (h : l[k]? = some c) (K : IntKind) (z : Int) (hz : z = (k : Int)) (w : World) :
    (Instr.index t (.string (strB l)) (.int K z)).run P w = .ok (B8 c) w := by
  subst hz
  have hk : k < l.length := (List.getElem?_eq_some_iff.1 h).1
  rw [run_index_string w t (strB l) _ _ ht, dif_pos ⟨by omega, by rw [strB_size]; omega⟩]
  have e : ((k : Int)).toNat = k := by omega
  simp only [e]
  have hsz : k < (strB l).size := by rw [strB_size]; exact hk
  have h2 : (strB l)[k]'hsz = c := by
    have h3 : (strB l).data[k]? = some ((strB l)[k]'hsz) := Array.getElem?_eq_getElem hsz
    have h4 : (strB l).data[k]? = some c := by rw [← Array.getElem?_toList, strB_data]; exact h
    rw [h3] at h4; exact Option.some.inj h4
  rw [h2]
theorem txt_emp (l : List UInt8) : (strB l).toList.isEmpty = decide (l = []) := by
  rw [← decide_eq_emptyBytes]
  by_cases h : l = []
  · subst h; rfl
  · have : ¬ strB l = ByteArray.empty := fun e => h (by have := congrArg (fun s : ByteArray => s.data.toList) e; simpa [strB_data] using this)
    rw [decide_eq_false h]; exact decide_eq_false this
end Go.By
