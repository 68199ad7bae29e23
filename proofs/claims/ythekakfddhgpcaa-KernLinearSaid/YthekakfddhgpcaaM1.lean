/- Plain mathematics of combinations. -/
import Derived.Test.YthekakfddhgpcaaWb
namespace Go.Proofs.Ythekakfddhgpcaa
open Go.By
def xadd (a b : List UInt8) : List UInt8 := List.zipWith (· ^^^ ·) a b
theorem xadd_length (a b : List UInt8) (h : a.length = b.length) : (xadd a b).length = a.length := by simp [xadd, h]
theorem col_xadd : ∀ (xss : List (List UInt8)) (a b : List UInt8) (i : Nat) (s t : UInt8), a.length = xss.length → b.length = xss.length → col (xadd a b) xss i (s ^^^ t) = col a xss i s ^^^ col b xss i t := by
  intro xss
  induction xss with
  | nil => intro a b i s t _ _; simp [col]
  | cons x l ih =>
    intro a b i s t ha hb
    cases a with
    | nil => simp at ha
    | cons a0 a =>
      cases b with
      | nil => simp at hb
      | cons b0 b =>
        have := ih a b i (s ^^^ Gf.gmul a0 (x.getD i 0)) (t ^^^ Gf.gmul b0 (x.getD i 0)) (by simpa using ha) (by simpa using hb)
        rw [Gf.xor4, ← Gf.gmul_xor_left] at this
        simpa [col, xadd] using this
theorem col_scale (c : UInt8) : ∀ (xss : List (List UInt8)) (a : List UInt8) (i : Nat) (s : UInt8), col (a.map (Gf.gmul c)) xss i (Gf.gmul c s) = Gf.gmul c (col a xss i s) := by
  intro xss
  induction xss with
  | nil => intro a i s; simp [col]
  | cons x l ih =>
    intro a i s
    cases a with
    | nil => simp [col]
    | cons a0 a =>
      have := ih a i (s ^^^ Gf.gmul a0 (x.getD i 0))
      rw [Gf.gmul_xor_right, ← Gf.gmul_assoc] at this
      simpa [col] using this
theorem ext_of_get {xs ys : List UInt8} (m : Nat) (h1 : xs.length = m) (h2 : ys.length = m) (h : ∀ i, i < m → xs[i]? = ys[i]?) : xs = ys := eq_of_pref h1 h2 h
theorem combF_xadd {a b : List UInt8} {xss : List (List UInt8)} {m : Nat} (h : ∀ xs, xs ∈ xss → xs.length = m) (ha : a.length = xss.length) (hb : b.length = xss.length) :
    combF (List.replicate m 0) (xadd a b) xss = xadd (combF (List.replicate m 0) a xss) (combF (List.replicate m 0) b xss) := by
  have l : ∀ cs, (combF (List.replicate m 0) cs xss).length = m := fun cs => combF_len cs xss m h _ (by simp)
  refine ext_of_get m (l _) (by rw [xadd_length _ _ ((l _).trans (l _).symm)]; exact l _) ?_
  intro i hi
  rw [combF_get i m hi xss h _ _ (by simp)]
  simp only [xadd, List.getElem?_zipWith]
  rw [combF_get i m hi xss h _ _ (by simp), combF_get i m hi xss h _ _ (by simp)]
  have := col_xadd xss a b i 0 0 ha hb
  simp only [Gf.xor_self, xadd] at this
  have e : (List.replicate m (0 : UInt8)).getD i 0 = 0 := by simp [List.getD, hi]
  simp only [e, this, Option.map]
theorem combF_scale {c : UInt8} {a : List UInt8} {xss : List (List UInt8)} {m : Nat} (h : ∀ xs, xs ∈ xss → xs.length = m) :
    combF (List.replicate m 0) (a.map (Gf.gmul c)) xss = (combF (List.replicate m 0) a xss).map (Gf.gmul c) := by
  have l : ∀ cs, (combF (List.replicate m 0) cs xss).length = m := fun cs => combF_len cs xss m h _ (by simp)
  refine ext_of_get m (l _) (by rw [List.length_map]; exact l _) ?_
  intro i hi
  rw [combF_get i m hi xss h _ _ (by simp), List.getElem?_map, combF_get i m hi xss h _ _ (by simp)]
  have := col_scale c xss a i 0
  rw [Gf.gmul_zero] at this
  have e : (List.replicate m (0 : UInt8)).getD i 0 = 0 := by simp [List.getD, hi]
  simp only [e, this, Option.map]
theorem sumS_pair {a b : List UInt8} (h : a.length = b.length) : sumS [a, b] = (xadd a b, 0) := by
  have hn : noughtS [a, b] = (List.replicate a.length 0, 0) := noughtS_of (x0 := a) rfl rfl (by intro zs hz; simp at hz; rcases hz with rfl | rfl <;> simp [h])
  unfold sumS
  rw [hn]
  simp only [if_true]
  congr 1
  have e1 : axpy 1 a (List.replicate a.length 0) = a := by
    apply List.ext_getElem?
    intro j
    simp only [axpy, List.getElem?_zipWith]
    by_cases hj : j < a.length
    · simp [hj, Gf.one_gmul]
    · simp [show a.length ≤ j by omega]
  simp only [combF, List.length_cons, List.length_nil, List.replicate, List.zip, List.zipWith, List.foldl, e1]
  apply List.ext_getElem?
  intro j
  simp only [axpy, xadd, List.getElem?_zipWith]
  by_cases hj : j < a.length
  · simp [hj, show j < b.length by omega, Gf.one_gmul]
  · simp [show a.length ≤ j by omega]
theorem scale_inv {c : UInt8} (hc : c ≠ 0) (xs : List UInt8) : (xs.map (Gf.gmul c)).map (Gf.gmul (Gf.ginv c)) = xs := by
  rw [List.map_map]
  have : (Gf.gmul (Gf.ginv c) ∘ Gf.gmul c) = id := by
    funext x
    simp [Function.comp, ← Gf.gmul_assoc, Gf.ginv_gmul c hc, Gf.one_gmul]
  rw [this, List.map_id]
end Go.Proofs.Ythekakfddhgpcaa
