/- The table of the sum, out of the row's condition. -/
import Derived.Test.YtfbmdlfkipipfaaGreatDoorZd9
import Derived.Test.YtfbmdlfkipipfaaGreatDoorRows
import Derived.Lib.LaidTab
namespace Go.Proofs.YtfbmdlfkipipfaaGreatDoor
open Go.RowKit Go.By
theorem halves_of {rest : List (String × DataW Unit)} {W : World} (h : laidMet Tryz.prog (("wellspring/sum.halves", Rows.laid_wellspring_sum_halves) :: rest) W) : HalfT W := by
  obtain ⟨zs, hz, hzl, hzc⟩ : ∃ zs : List Int, (Rows.laid_wellspring_sum_halves : DataW Unit) = Lib.tabData .u32 zs ∧ zs.length = 16 ∧ ∀ i, i < 16 → zs.getD i 0 = ((crcTab.getD i 0 : Nat) : Int) := ⟨[0, 498536548, 997073096, 651767980, 1994146192, 1802195444, 1303535960, 1342533948, 3988292384, 4027552580, 3604390888, 3412177804, 2607071920, 2262029012, 2685067896, 3183342108], rfl, rfl, by decide⟩
  rw [hz] at h
  have h3 := Lib.tabIs_of_head (g := 0) (t := 291) (e := 23) (n := 16) (by kernel_rfl) (by kernel_rfl) (by kernel_rfl) (by kernel_rfl) (by kernel_rfl) (by kernel_rfl) h
  intro i hi
  have := h3.cell (g := 0) (by kernel_rfl) i (by omega)
  rw [hzc i hi] at this
  exact this
end Go.Proofs.YtfbmdlfkipipfaaGreatDoor
