/- Counts of grids: what their functions carry along. -/
import Derived.Test.YtbfmdfbnhakolaaDoorRN
import Derived.Test.YtbfmdfbnhakolaaDoorOP
import Derived.IntWalk
namespace Go.By
open Go.RowKit
/-- a block holds this -/
def BlkIs (b : Nat) (o : Obj) (W : World) : Prop := W.heap[b]? = some o
theorem BlkIs.keep {b : Nat} {o : Obj} {W W' : World} (h : BlkIs b o W) (hb : Below W.heap.size W W') : BlkIs b o W' := (hb.block _ (blk_lt h)).trans h
structure Bel (w0 W : World) : Prop where
  out : Below w0.heap.size w0 W
theorem Bel.keep {w0 W W' : World} (h : Bel w0 W) (hb : Below W.heap.size W W') : Bel w0 W' := ⟨bl h.out hb h.out.size⟩
/-- a number is what a function gives: its cell is written last -/
theorem ret_num {T U : TypeId} {w0 w : World} {q : Option Addr} {n c N g : Nat} {u : Value} (K : w.heap[g]? = some (.cells #[u] T (0, 0))) (hg : w0.heap.size ≤ g) (hB : Below w0.heap.size w0 w) (hw : Ws U w q n c N) (hne : T ≠ U) :
    Ws U (w.setCell ⟨g, 0, none⟩ (.slice q n c)) q n c N ∧ Below w0.heap.size w0 (w.setCell ⟨g, 0, none⟩ (.slice q n c)) ∧ (w.setCell ⟨g, 0, none⟩ (.slice q n c)).heap[g]? = some (.cells #[.slice q n c] T (0, 0)) :=
  ⟨hw.set K hne, hB.setCell hg _, hss K⟩
end Go.By
namespace Go.Proofs.YtbfmdfbnhakolaaDoor
open Go.RowKit Go.By
theorem Of_k (k : Nat) (hk : k < 18446744073709551616) (W : World) : Calls Tryd.prog 10 #[.int .u64 k] W (RetN1 34 W k) := by
  have := Of_any (UInt64.ofNat k) W
  have e : (UInt64.ofNat k).toNat = k := by simp; omega
  rwa [e, show W64 (UInt64.ofNat k) = .int .u64 k by unfold W64; rw [e]] at this
theorem pow256 {j : Nat} (h : j ≤ 4095) : 256 ^ j < capN := lt_cap (k := j + 1) (Nat.pow_lt_pow_right (by decide) (by omega)) (by omega)
end Go.Proofs.YtbfmdfbnhakolaaDoor
