/- The library's table of powers of ten, out of the row's condition. -/
import Derived.Test.YtnlfohbmdmeodaaDoorRows
import Derived.Test.YtnlfohbmdmeodaaDoorQB
import Derived.Lib.LaidTab
import Derived.Stop.LaidErr
namespace Go.Proofs.YtnlfohbmdmeodaaDoor
open Go.RowKit Go.By
theorem tab10_of {d32 d64 : DataW Unit} {rest : List (String × DataW Unit)} {W : World} (h : laidMet Tryd.prog (("math/bits.deBruijn32tab", d32) :: ("math/bits.deBruijn64tab", d64) :: ("internal/strconv.uint64pow10", Rows.laid_internal_strconv_uint64pow10) :: rest) W) : Tab10 W := by
  have hz : (Rows.laid_internal_strconv_uint64pow10 : DataW Unit) = Lib.tabData .u64 Lib.pow10Tab := rfl
  have h2 := laidMet.tail (laidMet.tail h)
  rw [hz] at h2
  exact Lib.tabIs_of_head (g := 0) (t := 85) (e := 45) (n := 20) (by kernel_rfl) (by kernel_rfl) (by kernel_rfl) (by kernel_rfl) (by kernel_rfl) (by kernel_rfl) h2
end Go.Proofs.YtnlfohbmdmeodaaDoor
