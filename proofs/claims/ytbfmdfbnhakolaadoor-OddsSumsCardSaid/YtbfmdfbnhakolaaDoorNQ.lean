/- The library: ParseUint of base 16, of texts that are numbers of at most sixteen letters. -/
import Derived.Test.YtbfmdfbnhakolaaDoorNP
import Derived.Lib.AtoiAllMem
import Derived.Lib.ConvBytes
import Derived.Lib.Walk
import Derived.Laws.Strings3
import Derived.Laws.Closers25
import Derived.Laws.Closers25b
import Derived.BigCall
import Derived.BigGuard
namespace Go.By
open Go.RowKit
theorem low_or : ∀ x : Fin 256, 97 ≤ x.val → x.val ≤ 102 → bits .or .u8 (x.val : Int) 32 = (x.val : Int) := by decide +kernel
theorem valT_take {l : List UInt8} {k : Nat} {c : UInt8} (h : l[k]? = some c) : valT (l.take (k + 1)) = hexd c + 16 * valT (l.take k) := by
  rw [List.take_add_one, h]; exact valT_snoc _ _
theorem isHex_iff {c : UInt8} : isHex c = true ↔ (48 ≤ c.toNat ∧ c.toNat ≤ 57) ∨ (97 ≤ c.toNat ∧ c.toNat ≤ 102) := by
  unfold isHex; rw [Bool.or_eq_true, decide_eq_true_eq, decide_eq_true_eq]
end Go.By
namespace Go.Proofs.YtbfmdfbnhakolaaDoor
open Go.RowKit Go.By
end Go.Proofs.YtbfmdfbnhakolaaDoor
