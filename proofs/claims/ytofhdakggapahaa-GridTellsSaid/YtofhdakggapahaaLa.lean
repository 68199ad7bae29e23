/- The walk of the law KernPairs. -/
import Derived.Test.YtofhdakggapahaaWb
import Derived.Test.YtofhdakggapahaaB4
namespace Go.Proofs.Ytofhdakggapahaa
open Go.RowKit Go.By
theorem axpy_comb (c : UInt8) (xs ys : List UInt8) : combS [c, 1] [xs, ys] = axpyS c xs ys := by
  unfold combS axpyS
  rw [if_pos (show [c, 1].length = [xs, ys].length from rfl)]
  by_cases h : xs.length = ys.length
  · rw [if_pos h, noughtS_of (x0 := xs) (m := xs.length) rfl rfl (by intro zs hz; simp at hz; rcases hz with rfl | rfl <;> simp [h])]
    simp only [if_true]
    congr 1
    have e1 : axpy c xs (List.replicate xs.length 0) = xs.map (Gf.gmul c) := by
      apply List.ext_getElem?
      intro j
      simp only [axpy, List.getElem?_zipWith, List.getElem?_map]
      by_cases hj : j < xs.length
      · simp [hj]
      · simp [show xs.length ≤ j by omega]
    simp only [combF, List.zip, List.zipWith, List.foldl, e1]
    apply List.ext_getElem?
    intro j
    simp only [axpy, List.getElem?_zipWith, List.getElem?_map]
    by_cases hj : j < xs.length
    · simp [hj, show j < ys.length by omega, Gf.one_gmul, Gf.xor_comm]
    · simp [show xs.length ≤ j by omega, show ys.length ≤ j by omega]
  · rw [if_neg h, noughtS_not (x0 := xs) (x := ys) rfl (by simp) (by simpa using fun e => h e.symm)]
    simp
end Go.Proofs.Ytofhdakggapahaa
