/- The contracts of the kernel's functions: Scale, Axpy, Dot, Zero. -/
import Derived.Test.YtofhdakggapahaaW4
import Derived.Test.YtofhdakggapahaaW5
import Derived.Test.YtofhdakggapahaaB3
import Derived.Deep.QuietTactic
import Derived.BigQuiet
import Derived.Deep.RegionHeld3
namespace Go.Proofs.Ytofhdakggapahaa
open Go.RowKit Go.By
def axpyS (c : UInt8) (xs ys : List UInt8) : List UInt8 × Int := if xs.length = ys.length then (axpy c xs ys, 0) else ([], 4)
set_option maxHeartbeats 400000 in
theorem Axpy_any (c : UInt8) (p1 p2 : Option Addr) (n1 n2 c1 c2 : Nat) (xs ys : List UInt8) (w : World) (h1 : Sl B8 w p1 n1 c1 xs) (h2 : Sl B8 w p2 n2 c2 ys) (hn : Room n2) :
    Calls Try.prog 85 #[B8 c, .slice p1 n1 c1, .slice p2 n2 c2] w (RetB 5 w (axpyS c xs ys).1 (axpyS c xs ys).2) := by
  by_cases he : n1 = n2
  · obtain rfl := he
    have HR := Lib.hid (show axpyS c xs ys = (axpy c xs ys, 0) by simp [axpyS, h1.len, h2.len])
    have H1 := Lib.hid h1; have H2 := Lib.hid h2; clear h1 h2
    go_enter Try.func85, Try.ntmps85
    go_wp2_with fail
    refine (CloneB_any _ _ _ ys _ H2.out hn).mono ?_; rintro e w1 ⟨q, c', rfl, ho, hb⟩
    have HO := Lib.hid ho; clear ho
    go_wp2_with fail
    refine (put_any w.heap.size n1 q p1 c' c1 c xs ys w1 H1.out.len H2.out.len H1.out.bound HO.out (H1.out.keep hb).rs (fun h0 a ha a' ha' => by
      obtain ⟨b, o, hp, hlt⟩ := H1.out.rs.lt (by rw [H1.out.len]; exact h0)
      have := (owns_new HO.out a' ha').1
      rw [hp] at ha; cases ha; show b ≠ a'.block; omega)).mono ?_
    rintro e w2 ⟨rfl, ho2, hg⟩
    have HO2 := Lib.hid ho2; clear ho2
    go_wp2
    go_ret2
    rw [HR.out]
    exact ⟨q, n1, c', by rw [axpy_length _ _ _ (H1.out.len.trans H2.out.len.symm)]; exact H2.out.len, rfl, HO2.out, hb.grown hg hb.size (fun k hk => by
      cases q with
      | none => simp at hk
      | some a => simp at hk; have := (owns_new HO.out a rfl).1; omega)⟩
  · have HR := Lib.hid (show axpyS c xs ys = ([], 4) by simp [axpyS, h1.len, h2.len, he])
    have b1 := h1.bound; have b2 := h2.bound
    have hne : ((n1 : Int) != (n2 : Int)) = true := by simp; omega
    clear h1 h2
    go_enter Try.func85, Try.ntmps85
    go_wp2
    go_ret2
    rw [HR.out]
    exact RetB.nil _ _ _ _ (Below.refl _ _)
def dotF (a b : List UInt8) : UInt8 := (List.zipWith Gf.gmul a b).foldl (· ^^^ ·) 0
def dotS (a b : List UInt8) : UInt8 × Int := if a.length = b.length then (dotF a b, 0) else (0, 4)
theorem rs_pair' {W : World} {g : Nat} {u v : Value} {T : TypeId} {fr : Nat × Nat} {x y : UInt8} (hW : W.heap[g]? = some (.cells #[u, v] T fr)) (hu : u = B8 x) (hv : v = B8 y) : Rs B8 W (some ⟨g, 0, none⟩) [x, y] := by
  intro i hi
  refine ⟨g, 0, rfl, ?_⟩
  rw [Nat.zero_add, cell_of_row _ _ _ _ _ _ hW]
  match i, hi with
  | 0, _ => simp [hu]
  | 1, _ => simp [hv]
theorem Mul2 (g : Nat) (W : World) (u v : Value) (T : TypeId) (x y : UInt8) (hW : W.heap[g]? = some (.cells #[u, v] T (0, 0))) (hu : u = B8 x) (hv : v = B8 y) :
    Calls Try.prog 104 #[.slice (some ⟨g, 0, none⟩) 2 2] W fun e w' => e = .returned (B8 (Gf.gmul x y)) ∧ W = w' :=
  (Mul_any _ 2 [x, y] _ (rs_pair' hW hu hv) (by simp)).mono fun e w' ⟨he, hw⟩ => ⟨by rw [he]; simp [Gf.one_gmul], hw⟩
theorem zip_step {a b : List UInt8} {k : Nat} {x y : UInt8} (hx : a[k]? = some x) (hy : b[k]? = some y) :
    ((List.zipWith Gf.gmul a b).take (k + 1)).foldl (· ^^^ ·) 0 = ((List.zipWith Gf.gmul a b).take k).foldl (· ^^^ ·) 0 ^^^ Gf.gmul x y := by
  have hz : (List.zipWith Gf.gmul a b)[k]? = some (Gf.gmul x y) := by simp [List.getElem?_zipWith, hx, hy]
  obtain ⟨hk, hz⟩ := List.getElem?_eq_some_iff.1 hz
  rw [foldl_take_succ _ _ _ _ hk, hz]
theorem enters_zero : Enters Try.prog 98 := enters_of Try.func98 (by kernel_rfl) rfl
set_option maxHeartbeats 400000 in
theorem Zero1_any (x : UInt8) (w : World) : Calls Try.prog 98 #[B8 x] w fun e w' => e = .returned (.bool (decide (x ≠ 0))) ∧ w = w' := by
  have hz := nat_ne_zero x
  generalize decide (x ≠ 0) = d at *
  go_enter Try.func98, Try.ntmps98
  go_wp2
  go_ret
  exact ⟨rfl, rfl⟩
def zeroS (xs : List UInt8) : Bool := xs.all (fun x => decide (x = 0))
set_option maxHeartbeats 400000 in
theorem Zero_any (p : Option Addr) (n c : Nat) (xs : List UInt8) (w : World) (h : Sl B8 w p n c xs) :
    Calls Try.prog 88 #[.slice p n c] w fun e w' => e = .returned (.bool (zeroS xs)) ∧ w = w' := by
  have HR := Lib.hid (show (!(xs.any fun x => decide (x ≠ 0))) = zeroS xs by simp [zeroS, List.any_eq_not_all_not])
  have H := Lib.hid h; clear h
  go_enter Try.func88, Try.ntmps88
  go_wp2_with fail
  refine (ContainsFuncB_any B8 (fun x => decide (x ≠ 0)) 98 #[] enters_zero p n c xs w H.out (fun x _ => Zero1_any x w)).mono ?_; rintro e w' ⟨rfl, rfl⟩
  generalize (xs.any fun x => decide (x ≠ 0)) = d at HR
  go_wp2
  go_ret
  exact ⟨by rw [← HR.out]; rfl, rfl⟩
theorem info_make : True := trivial
set_option maxHeartbeats 400000 in
theorem Scale_any (c : UInt8) (p : Option Addr) (n cc : Nat) (xs : List UInt8) (w : World) (h : Sl B8 w p n cc xs) (hn : Room n) :
    Calls Try.prog 90 #[B8 c, .slice p n cc] w (RetB1 5 w (xs.map (Gf.gmul c))) := by
  obtain ⟨i0, hi, hz0, hz1, hz2⟩ := info_parts info_u8
  have hmap : axpy c xs (List.replicate n 0) = xs.map (Gf.gmul c) := by
    have := h.len
    apply List.ext_getElem?
    intro j
    simp only [axpy, List.getElem?_zipWith, List.getElem?_map]
    by_cases hj : j < n
    · simp [hj, this]
    · simp [show xs.length ≤ j by omega]
  have HM := Lib.hid hmap; clear hmap
  have hm1 : n ≤ maxLen := by have := h.le; have := h.max; omega
  have H := Lib.hid h; clear h
  have hm2 : 1 * n ≤ 281474976710656 := by unfold Room at hn; omega
  have HM1 := Lib.hid hm1; have HM2 := Lib.hid hm2; clear hm1 hm2
  go_enter Try.func90, Try.ntmps90
  go_wp2_with (at_make; refine wpList_make_full _ rfl _ _ 25 rfl w.heap.size 5 i0 (.int .u8 0) 1 Try.underlying25 hi hz0 hz1 .i64 .i64 _ _ n rfl rfl rfl rfl (by rw [hz2]; exact HM2.out) HM1.out (Nat.le_refl _) ?_)
  intro w1 ho hg
  have ho' : w1.ownsRow w.heap.size 5 1 (.slice (some ⟨w.heap.size, 0, none⟩) n n) n ((List.replicate n (0 : UInt8)).map B8) := by
    have e : (madeCells #[Value.int .u8 0] n).toList = (List.replicate n (0 : UInt8)).map B8 := by
      rw [List.map_replicate]; exact toList_madeCells_one _ _
    rw [← e]; exact ho
  have HO := Lib.hid ho'; clear ho ho'
  have hb : Below w.heap.size w w1 := (Below.refl _ _).grown hg (Nat.le_refl _) (by simp)
  have HB := Lib.hid hb; clear hb hg
  go_wp2_with fail
  refine (put_any w.heap.size n (some ⟨w.heap.size, 0, none⟩) p n cc c xs (List.replicate n 0) w1 H.out.len (by simp) H.out.bound HO.out (H.out.keep HB.out).rs (fun h0 a ha a' ha' => by
      obtain ⟨b, o, hp, hlt⟩ := H.out.rs.lt (by rw [H.out.len]; exact h0)
      rw [hp] at ha; cases ha; cases ha'; show b ≠ _; simp; omega)).mono ?_
  rintro e w2 ⟨rfl, ho2, hg⟩
  have HO2 := Lib.hid ho2; clear ho2
  go_wp2
  go_ret
  exact ⟨_, n, n, by rw [List.length_map]; exact H.out.len, rfl, HM.out ▸ HO2.out, HB.out.grown hg HB.out.size (fun k hk => by simp at hk; omega)⟩
end Go.Proofs.Ytofhdakggapahaa
