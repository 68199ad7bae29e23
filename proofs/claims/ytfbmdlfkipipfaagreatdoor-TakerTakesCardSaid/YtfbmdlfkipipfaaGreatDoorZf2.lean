/- The contracts of slices.Clone,IndexFunc,ContainsFunc at bytes and rows. The contracts of the kernel's functions: Scale,Axpy,Dot,Zero. The contracts of the kernel's functions: nought,Sum,Comb. The contracts of the kernel's functions: Sum,Comb. The contracts of the vectors' functions: Lead,At,Zero,Unit,Of,Clone. Plain mathematics: the reference's product of two bytes is the field's. The contract of the reference's product. The contracts of the reference's functions of layer 2. The contracts of the rows' functions: Clone,Norm,Less. The contracts of the rows' functions: Less. The contracts of slices.Equal and of the rows' Same. What the packet layers and the plan share with the rows: IndexFunc and ContainsFunc of bytes and rows,Same and Zero of the reference,Zero of the kernel and of vectors. Chapter 4: sum.Put,Start,Sum (under way). Chapter 4: sum.Start,With,Sum,Of,Get. Chapter 4: sum.Of,Get. Small laws for packets: parts of slices,literal slices of slices,results that read. Bytes made,and copied into a block known whole. Chapter 5: bytes out of a seed: New,Next,Bytes,Row; a seed as eight bytes. Chapter 5: mix.New,Row; a seed as eight bytes,and of eight bytes. -/
import Derived.Test.YtfbmdlfkipipfaaGreatDoorZf1
import Derived.Test.YtfbmdlfkipipfaaGreatDoorProg
import Derived.WalkKit
import Derived.WalkLawsBesides
import Derived.WalkSpells
import Derived.Lib.Hide
import Derived.Shelf.Abstract
import Derived.Deep.QuietTactic
import Derived.BigQuiet
import Derived.Deep.RegionHeld3
import Derived.Deep.RegionWith
import Derived.Lib.AppendZeros
import Derived.BigFrame
namespace Go.Proofs.YtfbmdlfkipipfaaGreatDoor
open Go.RowKit Go.By
theorem info_u8 : (Tryz.prog.info? 5).map (fun i => (i.zero,i.size,i.bytes)) = some (some (.int .u8 0),1,1) := by kernel_rfl
set_option maxHeartbeats 400000 in
theorem CloneB_any (p : Option Addr) (n c : Nat) (xs : List UInt8) (w : World) (h : Sl B8 w p n c xs) (hn : Room n) :
  Calls Tryz.prog 78 #[.slice p n c] w fun e w' => ∃ q c',e = .returned (.slice q n c') ∧ w'.ownsRow w.heap.size 5 1 (.slice q n c') n (xs.map B8) ∧ Below w.heap.size w w' := by
 obtain ⟨i0,hi,hz0,hz1,hz2⟩ := info_parts info_u8
 cases hp : p with
 | none =>
  subst hp
  obtain ⟨rfl,rfl⟩ := h.nil rfl
  have : xs = [] := List.eq_nil_of_length_eq_zero h.len
  subst this
  have hq := fun w => Lib.run_eql_slice_nil (P := Tryz.prog) w 22 5 none 0 0 0 0 Tryz.underlying22
  go_enter Tryz.func78,Tryz.ntmps78
  go_wp2
  go_ret
  exact ⟨none,0,rfl,World.ownsRow_nil _ _ _ _,Below.refl _ _⟩
 | some ad =>
  subst hp
  have hq := fun w => Lib.run_eql_slice_nil (P := Tryz.prog) w 22 5 (some ad) n c 0 0 Tryz.underlying22
  have H := Lib.hid h
  clear h
  go_enter Tryz.func78,Tryz.ntmps78
  go_wp2_with (at_builtin; refine wpList_append_rs _ rfl _ _ 22 rfl w.heap.size 5 i0 (.int .u8 0) 1 Tryz.underlying22 hi hz0 hz1 hz2 rfl _ 0 [] rfl (World.ownsRow_lit w #[] 0 (Nat.le_refl _) (by simp [maxLen]) rfl) B8 _ _ _ xs (fun _ _ => rfl) rfl (H.out.keep ((Below.refl _ _).alloc (Nat.le_refl _) _)) ?c1 ?c2 ?c3 ?_)
  case c1 => have := H.out.le; have := H.out.max; omega
  case c2 => unfold Room at hn; omega
  case c3 => simp
  intro v' w' ho hg
  obtain ⟨q,c',rfl⟩ := owns_shape ho
  go_wp2
  go_ret
  exact ⟨q,c',rfl,ho,((Below.refl _ _).alloc (Nat.le_refl _) _).grown hg (by simp) (by simp [Value.ownBlock])⟩
set_option maxHeartbeats 400000 in
theorem IndexFuncB_any {α : Type} (enc : α → Value) (f : α → Bool) (g : Nat) (lb : Array Value) (eg : Enters Tryz.prog g) (p : Option Addr) (n c : Nat) (xs : List α) (w : World) (h : Sl enc w p n c xs)
  (hf : ∀ (x : α),x ∈ xs → Calls Tryz.prog g (#[enc x] ++ lb) w fun e w' => e = .returned (.bool (f x)) ∧ w = w') :
  Calls Tryz.prog 201 #[.slice p n c,.func (.func g) #[] lb] w fun e w' => e = .returned (.int .i64 (idxf f xs)) ∧ w = w' := by
 have hn := h.bound
 have H := Lib.hid h; clear h
 have HF := Lib.hid hf; clear hf
 have eg' : ∀ args w,(callFunc g args).run Tryz.prog w = .ok (.enter g args) w := eg
 clear eg
 go_enter Tryz.func201,Tryz.ntmps201
 go_wp2
 go_loop [8] (fun i => ∃ k : Nat,k ≤ n ∧ i = .int .i64 k ∧ Hid (∀ j y,j < k → xs[j]? = some y → f y = false)) (fun i => n - (intOf i).toNat)
 case atStart => exact ⟨0,Nat.zero_le _,rfl,fun j y hj => by omega⟩
 case round =>
  obtain ⟨k,hk,rfl,hr⟩ := hrel
  by_cases hlt : k < n
  ·obtain ⟨b,o,x,rfl,hc,hx⟩ := H.out.at k hlt
   have hm : x ∈ xs := List.mem_of_getElem? hx.out
   cases hfx : f x with
   | false =>
    have HQ := Lib.hid hfx; clear hfx
    go_wp2_with fail
    refine (HF.out x hm).mono ?_; rintro e w' ⟨rfl,rfl⟩
    rw [HQ.out]
    go_wp2
    go_round
    case rel =>
     refine ⟨k + 1,by omega,by go_num,fun j y hj hy => ?_⟩
     by_cases e : j = k
     ·subst e; have := hx.out.symm.trans hy; cases this; exact HQ.out
     ·exact hr.out j y (by omega) hy
    case measure => simp [intOf]; omega
   | true =>
    have HQ := Lib.hid hfx; clear hfx
    go_wp2_with fail
    refine (HF.out x hm).mono ?_; rintro e w' ⟨rfl,rfl⟩
    rw [HQ.out]
    go_wp2
    go_ret
    exact ⟨by rw [idxf_found hx.out HQ.out hr.out]; rfl,rfl⟩
  ·go_wp2
   go_ret
   exact ⟨by rw [idxf_none (k := k) (by have := H.out.len; omega) hr.out]; rfl,rfl⟩
set_option maxHeartbeats 400000 in
theorem ContainsFuncB_any {α : Type} (enc : α → Value) (f : α → Bool) (g : Nat) (lb : Array Value) (eg : Enters Tryz.prog g) (p : Option Addr) (n c : Nat) (xs : List α) (w : World) (h : Sl enc w p n c xs)
  (hf : ∀ (x : α),x ∈ xs → Calls Tryz.prog g (#[enc x] ++ lb) w fun e w' => e = .returned (.bool (f x)) ∧ w = w') :
  Calls Tryz.prog 184 #[.slice p n c,.func (.func g) #[] lb] w fun e w' => e = .returned (.bool (xs.any f)) ∧ w = w' := by
 have H := Lib.hid h; clear h
 have HF := Lib.hid hf; clear hf
 have HE := Lib.hid eg; clear eg
 go_enter Tryz.func184,Tryz.ntmps184
 go_wp2_with fail
 refine (IndexFuncB_any enc f g lb HE.out p n c xs w H.out HF.out).mono ?_; rintro e w' ⟨rfl,rfl⟩
 go_wp2
 go_ret
 exact ⟨by rw [← idxf_ge]; rfl,rfl⟩
set_option maxHeartbeats 400000 in
theorem IndexFuncBB_any {α : Type} (enc : α → Value) (f : α → Bool) (g : Nat) (lb : Array Value) (eg : Enters Tryz.prog g) (p : Option Addr) (n c : Nat) (xs : List α) (w : World) (h : Sl enc w p n c xs)
  (hf : ∀ (x : α),x ∈ xs → Calls Tryz.prog g (#[enc x] ++ lb) w fun e w' => e = .returned (.bool (f x)) ∧ w = w') :
  Calls Tryz.prog 133 #[.slice p n c,.func (.func g) #[] lb] w fun e w' => e = .returned (.int .i64 (idxf f xs)) ∧ w = w' := by
 have hn := h.bound
 have H := Lib.hid h; clear h
 have HF := Lib.hid hf; clear hf
 have eg' : ∀ args w,(callFunc g args).run Tryz.prog w = .ok (.enter g args) w := eg
 clear eg
 go_enter Tryz.func133,Tryz.ntmps133
 go_wp2
 go_loop [8] (fun i => ∃ k : Nat,k ≤ n ∧ i = .int .i64 k ∧ Hid (∀ j y,j < k → xs[j]? = some y → f y = false)) (fun i => n - (intOf i).toNat)
 case atStart => exact ⟨0,Nat.zero_le _,rfl,fun j y hj => by omega⟩
 case round =>
  obtain ⟨k,hk,rfl,hr⟩ := hrel
  by_cases hlt : k < n
  ·obtain ⟨b,o,x,rfl,hc,hx⟩ := H.out.at k hlt
   have hm : x ∈ xs := List.mem_of_getElem? hx.out
   cases hfx : f x with
   | false =>
    have HQ := Lib.hid hfx; clear hfx
    go_wp2_with fail
    refine (HF.out x hm).mono ?_; rintro e w' ⟨rfl,rfl⟩
    rw [HQ.out]
    go_wp2
    go_round
    case rel =>
     refine ⟨k + 1,by omega,by go_num,fun j y hj hy => ?_⟩
     by_cases e : j = k
     ·subst e; have := hx.out.symm.trans hy; cases this; exact HQ.out
     ·exact hr.out j y (by omega) hy
    case measure => simp [intOf]; omega
   | true =>
    have HQ := Lib.hid hfx; clear hfx
    go_wp2_with fail
    refine (HF.out x hm).mono ?_; rintro e w' ⟨rfl,rfl⟩
    rw [HQ.out]
    go_wp2
    go_ret
    exact ⟨by rw [idxf_found hx.out HQ.out hr.out]; rfl,rfl⟩
  ·go_wp2
   go_ret
   exact ⟨by rw [idxf_none (k := k) (by have := H.out.len; omega) hr.out]; rfl,rfl⟩
set_option maxHeartbeats 400000 in
theorem ContainsFuncBB_any {α : Type} (enc : α → Value) (f : α → Bool) (g : Nat) (lb : Array Value) (eg : Enters Tryz.prog g) (p : Option Addr) (n c : Nat) (xs : List α) (w : World) (h : Sl enc w p n c xs)
  (hf : ∀ (x : α),x ∈ xs → Calls Tryz.prog g (#[enc x] ++ lb) w fun e w' => e = .returned (.bool (f x)) ∧ w = w') :
  Calls Tryz.prog 81 #[.slice p n c,.func (.func g) #[] lb] w fun e w' => e = .returned (.bool (xs.any f)) ∧ w = w' := by
 have H := Lib.hid h; clear h
 have HF := Lib.hid hf; clear hf
 have HE := Lib.hid eg; clear eg
 go_enter Tryz.func81,Tryz.ntmps81
 go_wp2_with fail
 refine (IndexFuncBB_any enc f g lb HE.out p n c xs w H.out HF.out).mono ?_; rintro e w' ⟨rfl,rfl⟩
 go_wp2
 go_ret
 exact ⟨by rw [← idxf_ge]; rfl,rfl⟩
end Go.Proofs.YtfbmdlfkipipfaaGreatDoor
namespace Go.Proofs.YtfbmdlfkipipfaaGreatDoor
open Go.RowKit Go.By
def axpyS (c : UInt8) (xs ys : List UInt8) : List UInt8 × Int := if xs.length = ys.length then (axpy c xs ys,0) else ([],4)
set_option maxHeartbeats 400000 in
theorem Axpy_any (c : UInt8) (p1 p2 : Option Addr) (n1 n2 c1 c2 : Nat) (xs ys : List UInt8) (w : World) (h1 : Sl B8 w p1 n1 c1 xs) (h2 : Sl B8 w p2 n2 c2 ys) (hn : Room n2) :
  Calls Tryz.prog 136 #[B8 c,.slice p1 n1 c1,.slice p2 n2 c2] w (RetB 5 w (axpyS c xs ys).1 (axpyS c xs ys).2) := by
 by_cases he : n1 = n2
 ·obtain rfl := he
  have HR := Lib.hid (show axpyS c xs ys = (axpy c xs ys,0) by simp [axpyS,h1.len,h2.len])
  have H1 := Lib.hid h1; have H2 := Lib.hid h2; clear h1 h2
  go_enter Tryz.func136,Tryz.ntmps136
  go_wp2_with fail
  refine (CloneB_any _ _ _ ys _ H2.out hn).mono ?_; rintro e w1 ⟨q,c',rfl,ho,hb⟩
  have HO := Lib.hid ho; clear ho
  go_wp2_with fail
  refine (put_any w.heap.size n1 q p1 c' c1 c xs ys w1 H1.out.len H2.out.len H1.out.bound HO.out (H1.out.keep hb).rs (fun h0 a ha a' ha' => by
   obtain ⟨b,o,hp,hlt⟩ := H1.out.rs.lt (by rw [H1.out.len]; exact h0)
   have := (owns_new HO.out a' ha').1
   rw [hp] at ha; cases ha; show b ≠ a'.block; omega)).mono ?_
  rintro e w2 ⟨rfl,ho2,hg⟩
  have HO2 := Lib.hid ho2; clear ho2
  go_wp2
  go_ret2
  rw [HR.out]
  exact ⟨q,n1,c',by rw [axpy_length _ _ _ (H1.out.len.trans H2.out.len.symm)]; exact H2.out.len,rfl,HO2.out,hb.grown hg hb.size (fun k hk => by
   cases q with
   | none => simp at hk
   | some a => simp at hk; have := (owns_new HO.out a rfl).1; omega)⟩
 ·have HR := Lib.hid (show axpyS c xs ys = ([],4) by simp [axpyS,h1.len,h2.len,he])
  have b1 := h1.bound; have b2 := h2.bound
  have hne : ((n1 : Int) != (n2 : Int)) = true := by simp; omega
  clear h1 h2
  go_enter Tryz.func136,Tryz.ntmps136
  go_wp2
  go_ret2
  rw [HR.out]
  exact RetB.nil _ _ _ _ (Below.refl _ _)
theorem enters_zero : Enters Tryz.prog 183 := enters_of Tryz.func183 (by kernel_rfl) rfl
set_option maxHeartbeats 400000 in
theorem Zero1_any (x : UInt8) (w : World) : Calls Tryz.prog 183 #[B8 x] w fun e w' => e = .returned (.bool (decide (x ≠ 0))) ∧ w = w' := by
 have hz := nat_ne_zero x
 generalize decide (x ≠ 0) = d at *
 go_enter Tryz.func183,Tryz.ntmps183
 go_wp2
 go_ret
 exact ⟨rfl,rfl⟩
def zeroS (xs : List UInt8) : Bool := xs.all (fun x => decide (x = 0))
set_option maxHeartbeats 400000 in
theorem Zero_any (p : Option Addr) (n c : Nat) (xs : List UInt8) (w : World) (h : Sl B8 w p n c xs) :
  Calls Tryz.prog 139 #[.slice p n c] w fun e w' => e = .returned (.bool (zeroS xs)) ∧ w = w' := by
 have HR := Lib.hid (show (!(xs.any fun x => decide (x ≠ 0))) = zeroS xs by simp [zeroS,List.any_eq_not_all_not])
 have H := Lib.hid h; clear h
 go_enter Tryz.func139,Tryz.ntmps139
 go_wp2_with fail
 refine (ContainsFuncB_any B8 (fun x => decide (x ≠ 0)) 183 #[] enters_zero p n c xs w H.out (fun x _ => Zero1_any x w)).mono ?_; rintro e w' ⟨rfl,rfl⟩
 generalize (xs.any fun x => decide (x ≠ 0)) = d at HR
 go_wp2
 go_ret
 exact ⟨by rw [← HR.out]; rfl,rfl⟩
set_option maxHeartbeats 400000 in
theorem Scale_any (c : UInt8) (p : Option Addr) (n cc : Nat) (xs : List UInt8) (w : World) (h : Sl B8 w p n cc xs) (hn : Room n) :
  Calls Tryz.prog 141 #[B8 c,.slice p n cc] w (RetB1 5 w (xs.map (Gf.gmul c))) := by
 obtain ⟨i0,hi,hz0,hz1,hz2⟩ := info_parts info_u8
 have hmap : axpy c xs (List.replicate n 0) = xs.map (Gf.gmul c) := by
  have := h.len
  apply List.ext_getElem?
  intro j
  simp only [axpy,List.getElem?_zipWith,List.getElem?_map]
  by_cases hj : j < n
  ·simp [hj,this]
  ·simp [show xs.length ≤ j by omega]
 have HM := Lib.hid hmap; clear hmap
 have hm1 : n ≤ maxLen := by have := h.le; have := h.max; omega
 have H := Lib.hid h; clear h
 have hm2 : 1 * n ≤ 281474976710656 := by unfold Room at hn; omega
 have HM1 := Lib.hid hm1; have HM2 := Lib.hid hm2; clear hm1 hm2
 go_enter Tryz.func141,Tryz.ntmps141
 go_wp2_with (at_make; refine wpList_make_full _ rfl _ _ 22 rfl w.heap.size 5 i0 (.int .u8 0) 1 Tryz.underlying22 hi hz0 hz1 .i64 .i64 _ _ n rfl rfl rfl rfl (by rw [hz2]; exact HM2.out) HM1.out (Nat.le_refl _) ?_)
 intro w1 ho hg
 have ho' : w1.ownsRow w.heap.size 5 1 (.slice (some ⟨w.heap.size,0,none⟩) n n) n ((List.replicate n (0 : UInt8)).map B8) := by
  have e : (madeCells #[Value.int .u8 0] n).toList = (List.replicate n (0 : UInt8)).map B8 := by
   rw [List.map_replicate]; exact toList_madeCells_one _ _
  rw [← e]; exact ho
 have HO := Lib.hid ho'; clear ho ho'
 have hb : Below w.heap.size w w1 := (Below.refl _ _).grown hg (Nat.le_refl _) (by simp)
 have HB := Lib.hid hb; clear hb hg
 go_wp2_with fail
 refine (put_any w.heap.size n (some ⟨w.heap.size,0,none⟩) p n cc c xs (List.replicate n 0) w1 H.out.len (by simp) H.out.bound HO.out (H.out.keep HB.out).rs (fun h0 a ha a' ha' => by
   obtain ⟨b,o,hp,hlt⟩ := H.out.rs.lt (by rw [H.out.len]; exact h0)
   rw [hp] at ha; cases ha; cases ha'; show b ≠ _; simp; omega)).mono ?_
 rintro e w2 ⟨rfl,ho2,hg⟩
 have HO2 := Lib.hid ho2; clear ho2
 go_wp2
 go_ret
 exact ⟨_,n,n,by rw [List.length_map]; exact H.out.len,rfl,HM.out ▸ HO2.out,HB.out.grown hg HB.out.size (fun k hk => by simp at hk; omega)⟩
end Go.Proofs.YtfbmdlfkipipfaaGreatDoor
namespace Go.Proofs.YtfbmdlfkipipfaaGreatDoor
open Go.RowKit Go.By
theorem enters_nought : Enters Tryz.prog 176 := enters_of Tryz.func176 (by kernel_rfl) rfl
set_option maxHeartbeats 400000 in
theorem nought1_any (q : Option Addr) (m c B n : Nat) (w : World) (hB : w.cell? ⟨B,0,none⟩ = some (.int .i64 n)) :
  Calls Tryz.prog 176 #[.slice q m c,.pointer (some ⟨B,0,none⟩)] w fun e w' => e = .returned (.bool ((m : Int) != n)) ∧ w = w' := by
 go_enter Tryz.func176,Tryz.ntmps176
 go_wp2
 go_ret
 exact ⟨rfl,rfl⟩
def noughtS : List (List UInt8) → List UInt8 × Int
 | [] => ([],0)
 | x :: l => if (x :: l).all (fun y => decide (y.length = x.length)) then (List.replicate x.length 0,0) else ([],4)
theorem noughtS_len {xss : List (List UInt8)} (h : (noughtS xss).2 = 0) : ∀ xs,xs ∈ xss → xs.length = (noughtS xss).1.length := by
 cases xss with
 | nil => intro xs hx; simp at hx
 | cons x l =>
  intro xs hx
  simp only [noughtS] at h ⊢
  by_cases ha : (x :: l).all (fun y => decide (y.length = x.length)) = true
  ·rw [if_pos ha]
   have := List.all_eq_true.1 ha xs hx
   simpa using this
  ·rw [if_neg ha] at h; simp at h
theorem noughtS_code (xss : List (List UInt8)) : (noughtS xss).2 = 0 ∨ ((noughtS xss).2 = 4 ∧ (noughtS xss).1 = []) := by
 cases xss with
 | nil => exact .inl rfl
 | cons x l =>
  simp only [noughtS]
  by_cases ha : (x :: l).all (fun y => decide (y.length = x.length)) = true
  ·rw [if_pos ha]; exact .inl rfl
  ·rw [if_neg ha]; exact .inr ⟨rfl,rfl⟩
def lenNe (n : Nat) : Value → Bool
 | .slice _ m _ => (m : Int) != n
 | _ => false
theorem any_vals {w : World} {n : Nat} {vs : List Value} {xss : List (List UInt8)} (hl : vs.length = xss.length)
  (hv : ∀ (i : Nat) (v : Value),vs[i]? = some v → ∃ xs q c',xss[i]? = some xs ∧ v = Value.slice q xs.length c' ∧ Sl B8 w q xs.length c' xs) :
  vs.any (lenNe n) = !(xss.all (fun y => decide (y.length = n))) := by
 rw [List.all_eq_not_any_not,Bool.not_not,Bool.eq_iff_iff]
 simp only [List.any_eq_true]
 constructor
 ·rintro ⟨v,hm,h⟩
  obtain ⟨i,hi,e⟩ := List.getElem_of_mem hm
  obtain ⟨xs,q,c',hx,rfl,_⟩ := hv i v (by rw [List.getElem?_eq_getElem hi,e])
  refine ⟨xs,List.mem_of_getElem? hx,?_⟩
  simp [lenNe] at h ⊢; omega
 ·rintro ⟨xs,hm,h⟩
  obtain ⟨i,hi,e⟩ := List.getElem_of_mem hm
  have hi' : i < vs.length := by omega
  obtain ⟨ys,q,c',hx,hv',_⟩ := hv i _ (List.getElem?_eq_getElem hi')
  refine ⟨_,List.getElem_mem hi',?_⟩
  rw [hv']
  rw [List.getElem?_eq_getElem hi,e] at hx
  cases hx
  simp [lenNe] at h ⊢; omega
set_option maxRecDepth 100000 in
set_option maxHeartbeats 400000 in
theorem nought_any (p : Option Addr) (n c : Nat) (xss : List (List UInt8)) (w : World) (h : Sl2 w p n c xss) (hr : ∀ xs,xs ∈ xss → Room xs.length) :
  Calls Tryz.prog 124 #[.slice p n c] w (RetB 5 w (noughtS xss).1 (noughtS xss).2) := by
 obtain ⟨i0,hi,hz0,hz1,hz2⟩ := info_parts info_u8
 have hb := h.bound
 by_cases h0 : n = 0
 ·subst h0
  have : xss = [] := List.eq_nil_of_length_eq_zero h.len
  subst this
  clear h hr
  go_enter Tryz.func124,Tryz.ntmps124
  go_wp2
  go_ret2
  exact RetB.nil _ _ _ _ (Below.refl _ _)
 ·have hn0 : ((n : Int) == 0) = false := by simp; omega
  obtain ⟨b,o,q,m,c',xs,rfl,hc,hs,hx⟩ := h.at 0 (by omega)
  obtain ⟨vs,hvs,hvv⟩ := h.vals
  have hax := any_vals (n := m) (hvs.len.trans h.len.symm) hvv
  have hmem := List.mem_of_getElem? hx.out
  have hrm := hr xs hmem
  have hml := hs.len
  have HS : Hid (noughtS xss = if xss.all (fun y => decide (y.length = m)) then (List.replicate m 0,0) else ([],4)) := by
   cases xss with
   | nil => simp at hmem
   | cons x l => have := hx.out; simp at this; subst this; rw [← hml]; rfl
  generalize xss.all (fun y => decide (y.length = m)) = ok at hax HS
  rw [Nat.add_zero] at hc
  have HV := Lib.hid hvs; have HW := Lib.hid hvv; have HX := Lib.hid hax; have HRm := Lib.hid hrm; have HM := Lib.hid hs
  have hlt := lt_of_cell hc
  have hnp : (0 : Int) < (n : Int) := by omega
  clear hvs hvv hax hr hx hrm h h0 hmem hml hs
  go_enter Tryz.func124,Tryz.ntmps124
  go_wp2_with fail
  have HC := fun (W : World) (hW : W.cell? ⟨w.heap.size,0,none⟩ = some (.int .i64 m)) (hV : Sl id W (some ⟨b,o,none⟩) n c vs) =>
   ContainsFuncBB_any id (lenNe m) 176 #[.pointer (some ⟨w.heap.size,0,none⟩)] enters_nought (some ⟨b,o,none⟩) n c vs W hV (fun v hv => by
    obtain ⟨i,hi,e⟩ := List.getElem_of_mem hv
    obtain ⟨ys,q',c'',_,rfl,_⟩ := HW.out i v (by rw [List.getElem?_eq_getElem hi,e])
    exact nought1_any q' _ c'' w.heap.size m W hW)
  refine (HC _ ?_ ?_).mono ?_
  ·exact cell_of_row _ _ 0 #[.int .i64 m] _ _ (hnew rfl)
  ·exact HV.out.keep ((Below.refl _ _).alloc (Nat.le_refl _) _)
  rintro e w' ⟨rfl,rfl⟩
  rw [HX.out]
  cases ok with
  | false =>
   go_wp2
   go_ret2
   rw [HS.out]
   exact RetB.nil _ _ _ _ ((Below.refl _ _).alloc (Nat.le_refl _) _)
  | true =>
   have hm1 : m ≤ maxLen := by have := HM.out.le; have := HM.out.max; omega
   have hm2 : 1 * m ≤ 281474976710656 := by have := HRm.out; rw [HM.out.len] at this; unfold Room at this; omega
   have HM1 := Lib.hid hm1; have HM2 := Lib.hid hm2; clear hm1 hm2
   go_wp2_with (at_make; refine wpList_make_full _ rfl _ _ 22 rfl w.heap.size 5 i0 (.int .u8 0) 1 Tryz.underlying22 hi hz0 hz1 .i64 .i64 _ _ m rfl rfl rfl rfl (by rw [hz2]; exact HM2.out) HM1.out (by simp) ?_)
   intro w1 ho hg
   have ho' : w1.ownsRow w.heap.size 5 1 (.slice (some ⟨w.heap.size + 1,0,none⟩) m m) m ((List.replicate m (0 : UInt8)).map B8) := by
    have e : (madeCells #[Value.int .u8 0] m).toList = (List.replicate m (0 : UInt8)).map B8 := by
     rw [List.map_replicate]; exact toList_madeCells_one _ _
    rw [← e]; exact ho
   have HO := Lib.hid ho'; clear ho ho'
   have HB := Lib.hid (((Below.refl w.heap.size w).alloc (Nat.le_refl _) _).grown hg (by simp) (by simp))
   clear hg
   go_wp2
   go_ret2
   rw [HS.out]
   exact ⟨_,m,m,by simp [Hid],rfl,HO.out,HB.out⟩
end Go.Proofs.YtfbmdlfkipipfaaGreatDoor
namespace Go.Proofs.YtfbmdlfkipipfaaGreatDoor
open Go.RowKit Go.By
def combF (z : List UInt8) (cs : List UInt8) (xss : List (List UInt8)) : List UInt8 := (List.zip cs xss).foldl (fun s r => axpy r.1 r.2 s) z
def combS (cs : List UInt8) (xss : List (List UInt8)) : List UInt8 × Int :=
 if cs.length = xss.length then (if (noughtS xss).2 = 0 then (combF (noughtS xss).1 cs xss,0) else ([],4)) else ([],4)
theorem combF_len (cs : List UInt8) (xss : List (List UInt8)) (m : Nat) (h : ∀ xs,xs ∈ xss → xs.length = m) : ∀ z : List UInt8,z.length = m → (combF z cs xss).length = m := by
 induction xss generalizing cs with
 | nil => intro z hz; simpa [combF] using hz
 | cons x l ih =>
  intro z hz
  cases cs with
  | nil => simpa [combF] using hz
  | cons c cs =>
   have := ih cs (fun xs hx => h xs (List.mem_cons_of_mem _ hx)) (axpy c x z) (by rw [axpy_length _ _ _ ((h x List.mem_cons_self).trans hz.symm)]; exact hz)
   simpa [combF] using this
theorem combF_step {z : List UInt8} {cs : List UInt8} {xss : List (List UInt8)} {k : Nat} {c : UInt8} {x : List UInt8} (hc : cs[k]? = some c) (hx : xss[k]? = some x) :
  combF z (cs.take (k + 1)) (xss.take (k + 1)) = axpy c x (combF z (cs.take k) (xss.take k)) := by
 have e : ∀ j,List.zip (cs.take j) (xss.take j) = (List.zip cs xss).take j := fun j => by simp [List.zip,List.take_zipWith]
 have hz : (List.zip cs xss)[k]? = some (c,x) := by simp [List.zip,List.getElem?_zipWith,hc,hx]
 obtain ⟨hk,hz⟩ := List.getElem?_eq_some_iff.1 hz
 simp only [combF,e]
 rw [foldl_take_succ _ _ _ _ hk,hz]
set_option maxRecDepth 100000 in
set_option maxHeartbeats 400000 in
theorem Comb_any (p1 p2 : Option Addr) (n1 n2 c1 c2 : Nat) (cs : List UInt8) (xss : List (List UInt8)) (w : World) (h1 : Sl B8 w p1 n1 c1 cs) (h2 : Sl2 w p2 n2 c2 xss) (hr : ∀ xs,xs ∈ xss → Room xs.length) :
  Calls Tryz.prog 75 #[.slice p1 n1 c1,.slice p2 n2 c2] w (RetB 5 w (combS cs xss).1 (combS cs xss).2) := by
 have b1 := h1.bound; have b2 := h2.bound
 by_cases he : n1 = n2
 ·obtain rfl := he
  have HC := Lib.hid (noughtS_code xss)
  have HR : Hid (combS cs xss = if (noughtS xss).2 = 0 then (combF (noughtS xss).1 cs xss,0) else ([],4)) := by unfold combS; rw [if_pos (h1.len.trans h2.len.symm)]; rfl
  have H1 := Lib.hid h1; have H2 := Lib.hid h2; have HM := Lib.hid hr; clear h1 h2 hr
  go_enter Tryz.func75,Tryz.ntmps75
  go_wp2_with fail
  refine (nought_any _ _ _ xss _ H2.out HM.out).mono ?_; rintro e w1 ⟨q,m,c',hm,rfl,ho,hb⟩
  have HO := Lib.hid ho; clear ho
  rcases HC.out with h0 | ⟨h0,_⟩
  ·have HL := Lib.hid (noughtS_len h0)
   rw [h0]
   rw [if_pos h0] at HR
   have HZ := Lib.hid h0
   clear h0
   go_wp2_with fail
   go_loopw [25] (fun i wr => ∃ k : Nat,k ≤ n1 ∧ i = .int .i64 k ∧ wr.ownsRow w.heap.size 5 1 (.slice q m c') m ((combF (noughtS xss).1 (cs.take k) (xss.take k)).map B8) ∧ Below w.heap.size w wr) (fun i _ => n1 - (intOf i).toNat)
   case atStart => exact ⟨0,Nat.zero_le _,rfl,by simpa [combF] using HO.out,hb⟩
   case round =>
    obtain ⟨k,hk,rfl,ho,hw⟩ := hrel
    have HOk := Lib.hid ho; clear ho
    by_cases hlt : k < n1
    ·obtain ⟨b,o,x,rfl,hc,hx⟩ := (H1.out.keep hw).at k hlt
     obtain ⟨b',o',q',m',c'',row,rfl,hc0,hs',hy⟩ := H2.out.at k hlt
     have hc' := (hw.cell (p := ⟨b',o' + k,none⟩) (lt_of_cell hc0)).trans hc0
     clear hc0
     have hml : m' = m := by rw [← hs'.len,HL.out row (List.mem_of_getElem? hy.out)]; exact hm.out
     subst hml
     have HS' := Lib.hid hs'; clear hs'
     have hold : 0 < m' → ∀ a,q' = some a → a.block < w.heap.size := fun h0 a ha => by
      obtain ⟨b3,o3,hp3,hlt3⟩ := HS'.out.rs.lt (by rw [HS'.out.len]; exact h0)
      rw [hp3] at ha; cases ha; exact hlt3
     go_wp2_with fail
     refine (put_any w.heap.size m' q q' c' c'' x row (combF (noughtS xss).1 (cs.take k) (xss.take k)) wr HS'.out.len (combF_len _ _ m' (fun xs hx => (HL.out xs (List.mem_of_mem_take hx)).trans hm.out) _ hm.out) HS'.out.bound HOk.out (HS'.out.keep hw).rs (fun h0 a ha a' ha' => by
      have := hold h0 a ha
      have := (owns_new HOk.out a' ha').1
      omega)).mono ?_
     rintro e w2 ⟨rfl,ho2,hg⟩
     have HO2 := Lib.hid ho2; clear ho2
     go_wp2
     go_roundw
     case rel =>
      refine ⟨k + 1,by omega,by go_num,?_,hw.grown hg hw.size (fun j hj => ?_)⟩
      ·rw [combF_step hx.out hy.out]; exact HO2.out
      ·cases q with
       | none => simp at hj
       | some a => simp at hj; have := (owns_new HOk.out a rfl).1; omega
     case measure => simp [intOf]; omega
    ·go_wp2
     go_ret2
     rw [HR.out]
     have e1 : cs.take k = cs := List.take_of_length_le (by have := H1.out.len; omega)
     have e2 : xss.take k = xss := List.take_of_length_le (by have := H2.out.len; omega)
     have := HOk.out
     rw [e1,e2] at this
     exact ⟨q,m,c',combF_len _ _ m (fun xs hx => (HL.out xs hx).trans hm.out) _ hm.out,rfl,this,hw⟩
  ·rw [if_neg (by rw [h0]; decide)] at HR
   rw [h0]
   clear h0
   go_wp2
   go_ret2
   rw [HR.out]
   exact RetB.nil _ _ _ _ hb
 ·have HR := Lib.hid (show combS cs xss = ([],4) by simp [combS,h1.len,h2.len,he])
  have hne : ((n1 : Int) != (n2 : Int)) = true := by simp; omega
  clear h1 h2 hr
  go_enter Tryz.func75,Tryz.ntmps75
  go_wp2
  go_ret2
  rw [HR.out]
  exact RetB.nil _ _ _ _ (Below.refl _ _)
end Go.Proofs.YtfbmdlfkipipfaaGreatDoor
namespace Go.Proofs.YtfbmdlfkipipfaaGreatDoor
open Go.RowKit Go.By
set_option maxHeartbeats 400000 in
theorem IndexFuncV_any {α : Type} (enc : α → Value) (f : α → Bool) (g : Nat) (lb : Array Value) (eg : Enters Tryz.prog g) (p : Option Addr) (n c : Nat) (xs : List α) (w : World) (h : Sl enc w p n c xs)
  (hf : ∀ (x : α),x ∈ xs → Calls Tryz.prog g (#[enc x] ++ lb) w fun e w' => e = .returned (.bool (f x)) ∧ w = w') :
  Calls Tryz.prog 137 #[.slice p n c,.func (.func g) #[] lb] w fun e w' => e = .returned (.int .i64 (idxf f xs)) ∧ w = w' := by
 have hn := h.bound
 have H := Lib.hid h; clear h
 have HF := Lib.hid hf; clear hf
 have eg' : ∀ args w,(callFunc g args).run Tryz.prog w = .ok (.enter g args) w := eg
 clear eg
 go_enter Tryz.func137,Tryz.ntmps137
 go_wp2
 go_loop [8] (fun i => ∃ k : Nat,k ≤ n ∧ i = .int .i64 k ∧ Hid (∀ j y,j < k → xs[j]? = some y → f y = false)) (fun i => n - (intOf i).toNat)
 case atStart => exact ⟨0,Nat.zero_le _,rfl,fun j y hj => by omega⟩
 case round =>
  obtain ⟨k,hk,rfl,hr⟩ := hrel
  by_cases hlt : k < n
  ·obtain ⟨b,o,x,rfl,hc,hx⟩ := H.out.at k hlt
   have hm : x ∈ xs := List.mem_of_getElem? hx.out
   cases hfx : f x with
   | false =>
    have HQ := Lib.hid hfx; clear hfx
    go_wp2_with fail
    refine (HF.out x hm).mono ?_; rintro e w' ⟨rfl,rfl⟩
    rw [HQ.out]
    go_wp2
    go_round
    case rel =>
     refine ⟨k + 1,by omega,by go_num,fun j y hj hy => ?_⟩
     by_cases e : j = k
     ·subst e; have := hx.out.symm.trans hy; cases this; exact HQ.out
     ·exact hr.out j y (by omega) hy
    case measure => simp [intOf]; omega
   | true =>
    have HQ := Lib.hid hfx; clear hfx
    go_wp2_with fail
    refine (HF.out x hm).mono ?_; rintro e w' ⟨rfl,rfl⟩
    rw [HQ.out]
    go_wp2
    go_ret
    exact ⟨by rw [idxf_found hx.out HQ.out hr.out]; rfl,rfl⟩
  ·go_wp2
   go_ret
   exact ⟨by rw [idxf_none (k := k) (by have := H.out.len; omega) hr.out]; rfl,rfl⟩
set_option maxHeartbeats 400000 in
theorem CloneV_any (p : Option Addr) (n c : Nat) (xs : List UInt8) (w : World) (h : Sl B8 w p n c xs) (hn : Room n) :
  Calls Tryz.prog 135 #[.slice p n c] w fun e w' => ∃ q c',e = .returned (.slice q n c') ∧ w'.ownsRow w.heap.size 5 1 (.slice q n c') n (xs.map B8) ∧ Below w.heap.size w w' := by
 obtain ⟨i0,hi,hz0,hz1,hz2⟩ := info_parts info_u8
 cases hp : p with
 | none =>
  subst hp
  obtain ⟨rfl,rfl⟩ := h.nil rfl
  have : xs = [] := List.eq_nil_of_length_eq_zero h.len
  subst this
  have hq := fun w => Lib.run_eql_slice_nil (P := Tryz.prog) w 69 5 none 0 0 0 0 Tryz.underlying69
  go_enter Tryz.func135,Tryz.ntmps135
  go_wp2
  go_ret
  exact ⟨none,0,rfl,World.ownsRow_nil _ _ _ _,Below.refl _ _⟩
 | some ad =>
  subst hp
  have hq := fun w => Lib.run_eql_slice_nil (P := Tryz.prog) w 69 5 (some ad) n c 0 0 Tryz.underlying69
  have H := Lib.hid h
  clear h
  go_enter Tryz.func135,Tryz.ntmps135
  go_wp2_with (at_builtin; refine wpList_append_rs _ rfl _ _ 69 rfl w.heap.size 5 i0 (.int .u8 0) 1 Tryz.underlying69 hi hz0 hz1 hz2 rfl _ 0 [] rfl (World.ownsRow_lit w #[] 0 (Nat.le_refl _) (by simp [maxLen]) rfl) B8 _ _ _ xs (fun _ _ => rfl) rfl (H.out.keep ((Below.refl _ _).alloc (Nat.le_refl _) _)) ?c1 ?c2 ?c3 ?_)
  case c1 => have := H.out.le; have := H.out.max; omega
  case c2 => unfold Room at hn; omega
  case c3 => simp
  intro v' w' ho hg
  obtain ⟨q,c',rfl⟩ := owns_shape ho
  go_wp2
  go_ret
  exact ⟨q,c',rfl,ho,((Below.refl _ _).alloc (Nat.le_refl _) _).grown hg (by simp) (by simp [Value.ownBlock])⟩
def leadS (v : List UInt8) : Int := idxf (fun b => decide (b ≠ 0)) v
def atS (v : List UInt8) (i : Int) : UInt8 := if 0 ≤ i then v.getD i.toNat 0 else 0
theorem enters_lead : Enters Tryz.prog 138 := enters_of Tryz.func138 (by kernel_rfl) rfl
set_option maxHeartbeats 400000 in
theorem Lead1_any (x : UInt8) (w : World) : Calls Tryz.prog 138 #[B8 x] w fun e w' => e = .returned (.bool (decide (x ≠ 0))) ∧ w = w' := by
 have hz := nat_ne_zero x
 generalize decide (x ≠ 0) = d at *
 go_enter Tryz.func138,Tryz.ntmps138
 go_wp2
 go_ret
 exact ⟨rfl,rfl⟩
set_option maxHeartbeats 400000 in
theorem Lead_any (p : Option Addr) (n c : Nat) (v : List UInt8) (w : World) (h : Sl B8 w p n c v) :
  Calls Tryz.prog 87 #[.slice p n c] w fun e w' => e = .returned (.int .i64 (leadS v)) ∧ w = w' := by
 have H := Lib.hid h; clear h
 go_enter Tryz.func87,Tryz.ntmps87
 go_wp2_with fail
 refine (IndexFuncV_any B8 (fun x => decide (x ≠ 0)) 138 #[] enters_lead p n c v w H.out (fun x _ => Lead1_any x w)).mono ?_; rintro e w' ⟨rfl,rfl⟩
 generalize hL : idxf (fun x => decide (x ≠ 0)) v = L
 have HL := Lib.hid hL; clear hL
 go_wp2
 go_ret
 exact ⟨by rw [leadS,HL.out]; rfl,rfl⟩
set_option maxHeartbeats 400000 in
theorem At_any (p : Option Addr) (n c : Nat) (v : List UInt8) (i : Int) (w : World) (h : Sl B8 w p n c v) :
  Calls Tryz.prog 86 #[.slice p n c,.int .i64 i] w fun e w' => e = .returned (B8 (atS v i)) ∧ w = w' := by
 have hb := h.bound
 by_cases h0 : 0 ≤ i
 ·by_cases h1 : i < n
  ·obtain ⟨k,rfl⟩ := Int.eq_ofNat_of_zero_le h0
   obtain ⟨b,o,x,rfl,hc,hx⟩ := h.at k (by omega)
   have HR : Hid (atS v (k : Int) = x) := by simp [Hid,atS,List.getD,hx.out]
   have h0' : ¬ ((k : Int) < 0) := by omega
   clear h h0
   go_enter Tryz.func86,Tryz.ntmps86
   go_wp2
   go_ret
   exact ⟨by rw [HR.out]; rfl,rfl⟩
  ·have HR : Hid (atS v i = 0) := by
    simp only [Hid,atS,if_pos h0,List.getD]
    rw [List.getElem?_eq_none (by have := h.len; omega)]; rfl
   have h0' : ¬ (i < 0) := by omega
   have h1' : (n : Int) ≤ i := by omega
   clear h
   go_enter Tryz.func86,Tryz.ntmps86
   go_wp2
   go_ret
   exact ⟨by rw [HR.out]; rfl,rfl⟩
 ·have HR : Hid (atS v i = 0) := by simp only [Hid,atS,if_neg h0]
  have h0' : i < 0 := by omega
  clear h
  go_enter Tryz.func86,Tryz.ntmps86
  go_wp2
  go_ret
  exact ⟨by rw [HR.out]; rfl,rfl⟩
set_option maxHeartbeats 400000 in
theorem VZero_any (p : Option Addr) (n c : Nat) (v : List UInt8) (w : World) (h : Sl B8 w p n c v) :
  Calls Tryz.prog 88 #[.slice p n c] w fun e w' => e = .returned (.bool (zeroS v)) ∧ w = w' := by
 have H := Lib.hid h; clear h
 go_enter Tryz.func88,Tryz.ntmps88
 go_wp2_with fail
 refine (Zero_any p n c v w H.out).mono ?_; rintro e w' ⟨rfl,rfl⟩
 go_wp2
 go_ret
 exact ⟨rfl,rfl⟩
def RetR (T : TypeId) (w : World) (r : List UInt8 × List UInt8) (e : Ending) (w' : World) : Prop :=
 ∃ q1 m1 c1 q2 m2 c2,Hid (r.1.length = m1) ∧ Hid (r.2.length = m2) ∧ e = .returned (.agg #[.slice q1 m1 c1,.slice q2 m2 c2]) ∧
  w'.ownsRow w.heap.size T 1 (.slice q1 m1 c1) m1 (r.1.map B8) ∧ w'.ownsRow w.heap.size T 1 (.slice q2 m2 c2) m2 (r.2.map B8) ∧ Below w.heap.size w w'
set_option maxHeartbeats 400000 in
theorem Of_any (p1 p2 : Option Addr) (n1 c1 n2 c2 : Nat) (v d : List UInt8) (w : World) (h1 : Sl B8 w p1 n1 c1 v) (h2 : Sl B8 w p2 n2 c2 d) (r1 : Room n1) (r2 : Room n2) :
  Calls Tryz.prog 83 #[.slice p1 n1 c1,.slice p2 n2 c2] w (RetR 5 w (v,d)) := by
 have H1 := Lib.hid h1; have H2 := Lib.hid h2; clear h1 h2
 go_enter Tryz.func83,Tryz.ntmps83
 go_wp2_with fail
 refine (CloneV_any _ _ _ v _ (H1.out.keep ((Below.refl _ _).alloc (Nat.le_refl _) _)) r1).mono ?_; rintro e w1 ⟨q1,c1',rfl,ho1,hb1⟩
 have HO1 := Lib.hid ho1; clear ho1
 go_wp2_with fail
 refine Calls.mono (CloneB_any _ _ _ d _ (H2.out.keep (bl (al (Below.refl _ _) (Nat.le_refl _)) hb1 (by simp))) r2) ?_; rintro e w2 ⟨q2,c2',rfl,ho2,hb2⟩
 have HO2 := Lib.hid ho2; clear ho2
 have e2 : w2.heap[w.heap.size]? = some (.cells #[.slice none 0 0,.slice none 0 0] 139 (0,0)) := by
  rw [hb2.block _ (by have := hb1.size; simp at this; omega),hb1.block _ (by simp)]; exact hnew rfl
 have f0 : w2.cell? ⟨w.heap.size,0,none⟩ = some (.slice none 0 0) := cell_of_row _ _ 0 _ _ _ e2
 have f1 : w2.cell? ⟨w.heap.size,1,none⟩ = some (.slice none 0 0) := cell_of_row _ _ 1 _ _ _ e2
 have g0 : w2.frozen? ⟨w.heap.size,0,none⟩ = false := frozen_of_row _ _ 0 _ _ e2
 have g1 : w2.frozen? ⟨w.heap.size,1,none⟩ = false := frozen_of_row _ _ 1 _ _ e2
 have E2 := Lib.hid e2; clear e2
 have hi : (Tryz.prog.info? 139).map (·.size) = some 2 := by kernel_rfl
 go_wp2
 have k2 : Below w.heap.size w w2 := bl (bl (al (Below.refl _ _) (Nat.le_refl _)) hb1 (by simp)) hb2 (by have := hb1.size; simp at this; omega)
 refine bodyPost_ret (results_cell_row rfl _ _ _ 139 #[.slice q1 n1 c1',.slice q2 n2 c2'] (0,0) _ rfl (hss (hss E2.out)) Tryz.underlying139 rfl hi) rfl ⟨q1,n1,c1',q2,n2,c2',H1.out.len,H2.out.len,rfl,?_,?_,(k2.setCell (Nat.le_refl _) _).setCell (Nat.le_refl _) _⟩
 ·exact owns_mono (owns_set (owns_set (owns_keep HO1.out hb2) (by simp)) (by simp)) (by simp)
 ·have hs := hb1.size
  exact owns_mono (owns_set (owns_set HO2.out (by simp at hs; omega)) (by simp at hs; omega)) (by simp at hs; omega)
end Go.Proofs.YtfbmdlfkipipfaaGreatDoor
namespace Gf
def rm1 (a b : Nat) : Nat → Nat
 | 0 => 0
 | k + 1 => rm1 a b k ^^^ (if b.testBit k then a <<< k else 0)
def rm2 (s : Nat) : Nat → Nat
 | 0 => s
 | j + 1 => rm2 s j ^^^ (if (rm2 s j).testBit (14 - j) then 285 <<< (6 - j) else 0)
def refmul (a b : UInt8) : UInt8 := UInt8.ofNat (rm2 (rm1 a.toNat b.toNat 8) 7)
theorem nxor4 (a b c d : Nat) : (a ^^^ b) ^^^ (c ^^^ d) = (a ^^^ c) ^^^ (b ^^^ d) := by
 rw [Nat.xor_assoc,← Nat.xor_assoc b c d,Nat.xor_comm b c,Nat.xor_assoc c b d,← Nat.xor_assoc]
theorem sel_nxor (p q : Bool) (v : Nat) : (if (p ^^ q) then v else 0) = (if p then v else 0) ^^^ (if q then v else 0) := by
 cases p <;> cases q <;> simp
theorem rm1_left (a a' b : Nat) : ∀ k,rm1 (a ^^^ a') b k = rm1 a b k ^^^ rm1 a' b k := by
 intro k
 induction k with
 | zero => simp [rm1]
 | succ k ih =>
  simp only [rm1,ih,Nat.shiftLeft_xor_distrib]
  by_cases h : b.testBit k = true
  ·simp only [if_pos h]; rw [nxor4]
  ·simp [h]
theorem rm1_right (a b b' : Nat) : ∀ k,rm1 a (b ^^^ b') k = rm1 a b k ^^^ rm1 a b' k := by
 intro k
 induction k with
 | zero => simp [rm1]
 | succ k ih => simp only [rm1,ih,Nat.testBit_xor,sel_nxor]; rw [nxor4]
theorem rm2_lin (s t : Nat) : ∀ j,rm2 (s ^^^ t) j = rm2 s j ^^^ rm2 t j := by
 intro j
 induction j with
 | zero => simp [rm2]
 | succ j ih => simp only [rm2,ih,Nat.testBit_xor,sel_nxor]; rw [nxor4]
theorem ofNat_xor (m n : Nat) : UInt8.ofNat (m ^^^ n) = UInt8.ofNat m ^^^ UInt8.ofNat n := by
 apply UInt8.eq_of_toBitVec_eq
 simp
theorem refmul_left (a a' b : UInt8) : refmul (a ^^^ a') b = refmul a b ^^^ refmul a' b := by
 unfold refmul; rw [UInt8.toNat_xor,rm1_left,rm2_lin,ofNat_xor]
theorem refmul_right (a b b' : UInt8) : refmul a (b ^^^ b') = refmul a b ^^^ refmul a b' := by
 unfold refmul; rw [UInt8.toNat_xor,rm1_right,rm2_lin,ofNat_xor]
theorem refmul_eq (a b : UInt8) : refmul a b = gmul a b := by
 refine lin_ext (f := fun a => refmul a b) (g := fun a => gmul a b) (fun x y => refmul_left x y b) (fun x y => gmul_xor_left x y b) (fun k hk => ?_) a
 refine lin_ext (f := fun b => refmul (1 <<< UInt8.ofNat k) b) (g := fun b => gmul (1 <<< UInt8.ofNat k) b) (fun x y => refmul_right _ x y) (fun x y => gmul_xor_right _ x y) (fun j hj => ?_) b
 revert j k; decide +kernel
theorem rm1_lt (a b : Nat) (ha : a < 256) : ∀ k,k ≤ 8 → rm1 a b k < 2 ^ 15 := by
 intro k
 induction k with
 | zero => intro _; simp [rm1]
 | succ k ih =>
  intro hk
  simp only [rm1]
  refine Nat.xor_lt_two_pow (ih (by omega)) ?_
  split
  ·rw [Nat.shiftLeft_eq]
   have : 2 ^ k ≤ 2 ^ 7 := Nat.pow_le_pow_right (by decide) (by omega)
   calc a * 2 ^ k ≤ 255 * 2 ^ 7 := Nat.mul_le_mul (by omega) this
    _ < 2 ^ 15 := by decide
  ·decide
theorem rm2_lt (s : Nat) (hs : s < 2 ^ 15) : ∀ j,j ≤ 7 → rm2 s j < 2 ^ 15 := by
 intro j
 induction j with
 | zero => intro _; simpa [rm2] using hs
 | succ j ih =>
  intro hj
  simp only [rm2]
  refine Nat.xor_lt_two_pow (ih (by omega)) ?_
  split
  ·rw [Nat.shiftLeft_eq]
   have : 2 ^ (6 - j) ≤ 2 ^ 6 := Nat.pow_le_pow_right (by decide) (by omega)
   calc 285 * 2 ^ (6 - j) ≤ 285 * 2 ^ 6 := Nat.mul_le_mul (by omega) this
    _ < 2 ^ 15 := by decide
  ·decide
theorem testBit_div (n k : Nat) : ((n : Int) / 2 ^ k % 2 == 1) = n.testBit k := by
 have e : ((n : Int) / 2 ^ k % 2) = ((n / 2 ^ k % 2 : Nat) : Int) := by simp
 rw [e,Nat.testBit_eq_decide_div_mod_eq]
 by_cases h : n / 2 ^ k % 2 = 1
 ·simp [h]
 ·simp only [h,decide_false]
  exact beq_eq_false_iff_ne.2 (by omega)
theorem testBit_tmod (n k : Nat) : (((n : Int) / 2 ^ k).tmod 2 == 1) = n.testBit k := by
 rw [← testBit_div,Int.tmod_eq_emod_of_nonneg]
 exact Int.ediv_nonneg (by omega) (Int.le_of_lt (Int.pow_pos (by decide)))
end Gf
namespace Go.Proofs.YtfbmdlfkipipfaaGreatDoor
open Go.RowKit Go.By
theorem wraps_u64 (n : Int) (h₀ : 0 ≤ n) (h₁ : n < 2 ^ 64) : IntKind.u64.wrap n = n := by
 simp [IntKind.wrap,IntKind.bits,IntKind.signed]; omega
theorem shl_bound {a k : Nat} (ha : a < 256) (hk : k < 8) : a * 2 ^ k < 2 ^ 15 := by
 have : 2 ^ k ≤ 2 ^ 7 := Nat.pow_le_pow_right (by decide) (by omega)
 calc a * 2 ^ k ≤ 255 * 2 ^ 7 := Nat.mul_le_mul (by omega) this
  _ < 2 ^ 15 := by decide
theorem xor_shl64 {q a k c : Nat} (hq : q < 2 ^ 15) (hb : a * 2 ^ k < 2 ^ 15) (hc : c = a) :
  bits .xor .u64 (q : Int) (IntKind.u64.wrap (IntKind.u64.wrap (c : Int) * 2 ^ k)) = ((q ^^^ (a <<< k) : Nat) : Int) := by
 subst hc
 have ha : c ≤ c * 2 ^ k := Nat.le_mul_of_pos_right _ (Nat.two_pow_pos k)
 have e : ((c : Int) * 2 ^ k) = ((c * 2 ^ k : Nat) : Int) := by simp
 rw [wraps_u64 (c : Int) (by omega) (by omega),e,wraps_u64 _ (by omega) (by omega),Nat.shiftLeft_eq]
 exact bits_xor_nat .u64 64 (by decide) wraps_u64 _ _ (by omega) (by omega)
theorem xor_shl64' {q a k : Nat} (hq : q < 2 ^ 15) (hb : a * 2 ^ k < 2 ^ 15) :
  bits .xor .u64 (q : Int) (IntKind.u64.wrap ((a : Int) * 2 ^ k)) = ((q ^^^ (a <<< k) : Nat) : Int) := by
 have := xor_shl64 hq hb rfl
 have ha : a ≤ a * 2 ^ k := Nat.le_mul_of_pos_right _ (Nat.two_pow_pos k)
 rwa [wraps_u64 (a : Int) (by omega) (by omega)] at this
theorem ret_int {k : IntKind} {a b : Int} (h : a = b) : Ending.returned (.int k a) = .returned (.int k b) := by rw [h]
set_option maxHeartbeats 400000 in
theorem RefMul_any (a b : UInt8) (w : World) :
  Calls Tryz.prog 193 #[B8 a,B8 b] w fun e w' => e = .returned (B8 (Gf.gmul a b)) ∧ w = w' := by
 go_enter Tryz.func193,Tryz.ntmps193
 go_wp2
 go_loop [5,6] (fun s i => ∃ k : Nat,k ≤ 8 ∧ i = .int .i64 k ∧ s = .int .u64 (Gf.rm1 a.toNat b.toNat k)) (fun _ i => 8 - (intOf i).toNat)
 case atStart => exact ⟨0,Nat.zero_le _,rfl,rfl⟩
 case round =>
  obtain ⟨k,hk,rfl,rfl⟩ := hrel
  have hql := Gf.rm1_lt a.toNat b.toNat a.toNat_lt k hk
  by_cases hlt : k < 8
  ·have HS := Lib.hid (show Gf.rm1 a.toNat b.toNat (k + 1) = Gf.rm1 a.toNat b.toNat k ^^^ (if b.toNat.testBit k then a.toNat <<< k else 0) from rfl)
   generalize Gf.rm1 a.toNat b.toNat k = q at HS hql
   have hx := Lib.hid (xor_shl64 hql (shl_bound a.toNat_lt hlt) rfl)
   have hbt := Gf.testBit_tmod b.toNat k
   cases hb : b.toNat.testBit k
   all_goals
    rw [hb] at hbt HS
    clear hb
    go_wp2
    go_round
    case rel => exact ⟨k + 1,by omega,by go_num,by rw [HS.out]; simp [← hx.out]⟩
    case measure => simp [intOf]; omega
  ·obtain rfl : k = 8 := by omega
   generalize hq : Gf.rm1 a.toNat b.toNat 8 = q at hql
   have Hq := Lib.hid hq
   clear hq hk hlt
   go_wp2
   go_loop [5,7] (fun s i => ∃ j m : Nat,j + m = 14 ∧ 7 ≤ m ∧ i = .int .i64 m ∧ s = .int .u64 (Gf.rm2 q j)) (fun _ i => (intOf i).toNat)
   case atStart => exact ⟨0,14,rfl,by omega,rfl,rfl⟩
   case round =>
    obtain ⟨j,m,hjm,hm,rfl,rfl⟩ := hrel
    have hsl := Gf.rm2_lt q hql j (by omega)
    have HJ := Lib.hid hjm
    by_cases hlt : 8 ≤ m
    ·have HS := Lib.hid (show Gf.rm2 q (j + 1) = Gf.rm2 q j ^^^ (if (Gf.rm2 q j).testBit (14 - j) then 285 <<< (6 - j) else 0) from rfl)
     generalize Gf.rm2 q j = s at HS hsl
     have hx := Lib.hid (xor_shl64' (q := s) (a := 285) (k := m - 8) hsl (by
      have : 2 ^ (m - 8) ≤ 2 ^ 6 := Nat.pow_le_pow_right (by decide) (by omega)
      calc 285 * 2 ^ (m - 8) ≤ 285 * 2 ^ 6 := Nat.mul_le_mul (by omega) this
       _ < 2 ^ 15 := by decide))
     have hbt := Gf.testBit_tmod s m
     have hbt' := Gf.testBit_div s m
     rw [show 14 - j = m by omega,show 6 - j = m - 8 by omega] at HS
     have e1 : ((m : Int) - 8).toNat = m - 8 := by omega
     have hm14 : m ≤ 14 := by omega
     clear hjm
     cases hb : s.testBit m
     all_goals
      rw [hb] at hbt hbt' HS
      clear hb
      go_wp2
      go_round
      case rel => exact ⟨j + 1,m - 1,by have := HJ.out; omega,by omega,by go_num,by rw [HS.out]; simp [← hx.out]⟩
      case measure => simp [intOf]; omega
    ·go_wp2
     go_ret
     refine ⟨ret_int ?_,rfl⟩
     have hj7 : j = 7 := by omega
     rw [hj7,← Gf.refmul_eq,Gf.refmul,Hq.out]
     simp
end Go.Proofs.YtfbmdlfkipipfaaGreatDoor
namespace Go.Proofs.YtfbmdlfkipipfaaGreatDoor
open Go.RowKit Go.By
theorem eq_of_pref {xs ys : List UInt8} {k : Nat} (h1 : xs.length = k) (h2 : ys.length = k) (h : ∀ j : Nat,j < k → xs[j]? = ys[j]?) : xs = ys := by
 apply List.ext_getElem?
 intro j
 by_cases hj : j < k
 ·exact h j hj
 ·rw [List.getElem?_eq_none (by omega),List.getElem?_eq_none (by omega)]
theorem u8_ne {x y : UInt8} (h : x ≠ y) : (((x.toNat : Int) != (y.toNat : Int)) = true) := by
 rw [bne_iff_ne]; intro e; exact h (UInt8.toNat_inj.1 (by omega))
theorem u8_eq (x : UInt8) : (((x.toNat : Int) != (x.toNat : Int)) = false) := by simp
set_option maxHeartbeats 400000 in
theorem Same_d (p1 p2 : Option Addr) (n1 n2 c1 c2 : Nat) (xs ys : List UInt8) (w : World) (h1 : Sl B8 w p1 n1 c1 xs) (h2 : Sl B8 w p2 n2 c2 ys) :
  Calls Tryz.prog 36 #[.slice p1 n1 c1,.slice p2 n2 c2] w fun e w' => e = .returned (.bool (decide (xs = ys))) ∧ ∃ q,w' = w.drewN q := by
 have b1 := h1.bound; have b2 := h2.bound
 by_cases he : n1 = n2
 ·obtain rfl := he
  have H1 := Lib.hid h1; have H2 := Lib.hid h2; clear h1 h2
  go_enter Tryz.func36,Tryz.ntmps36
  go_wp2
  go_loopw [5] (fun i wr => ∃ k q : Nat,k ≤ n1 ∧ i = .int .i64 k ∧ wr = w.drewN q ∧ Hid (∀ j : Nat,j < k → xs[j]? = ys[j]?)) (fun i _ => n1 - (intOf i).toNat)
  case atStart => exact ⟨0,0,Nat.zero_le _,rfl,rfl,fun j hj => by omega⟩
  case round =>
   obtain ⟨k,q,hk,rfl,rfl,hj⟩ := hrel
   by_cases hlt : k < n1
   ·obtain ⟨b,o,x,rfl,hc,hx⟩ := H1.out.at k hlt
    obtain ⟨b',o',y,rfl,hc',hy⟩ := H2.out.at k hlt
    have i1 : (k : Int) < (n1 : Int) := by omega
    by_cases hxy : x = y
    ·subst hxy
     have ht := u8_eq x
     go_wp2
     go_quiet (fail)
     go_wp2
     go_roundw
     case rel => exact ⟨k + 1,_,by omega,by go_num,rfl,fun j hj' => by
      by_cases e : j = k
      ·subst e; exact hx.out.trans hy.out.symm
      ·exact hj.out j (by omega)⟩
     case measure => simp [intOf]; omega
    ·have ht := u8_ne hxy
     have HN := Lib.hid hxy; clear hxy
     go_wp2
     go_quiet (fail)
     go_wp2
     go_ret
     refine ⟨?_,_,by rw [World.drewN_drewN]⟩
     have : ¬ xs = ys := by rintro rfl; exact HN.out (Option.some.inj (hx.out.symm.trans hy.out))
     simp [this]
   ·go_wp2
    go_ret
    refine ⟨?_,q,rfl⟩
    have : xs = ys := eq_of_pref (k := k) (by have := H1.out.len; omega) (by have := H2.out.len; omega) hj.out
    simp [this]
 ·have hne : ((n1 : Int) != (n2 : Int)) = true := by simp; omega
  have HN : Hid (decide (xs = ys) = false) := by
   simp only [Hid,decide_eq_false_iff_not]; rintro rfl; exact he (h1.len.symm.trans h2.len)
  clear h1 h2
  go_enter Tryz.func36,Tryz.ntmps36
  go_wp2
  go_ret
  exact ⟨by rw [HN.out]; rfl,0,rfl⟩
theorem below_drewN (w : World) (q : Nat) : Below w.heap.size w (w.drewN q) := ⟨rfl,rfl,rfl,Nat.le_refl _,fun _ _ => rfl⟩
theorem Same_any (p1 p2 : Option Addr) (n1 n2 c1 c2 : Nat) (xs ys : List UInt8) (w : World) (h1 : Sl B8 w p1 n1 c1 xs) (h2 : Sl B8 w p2 n2 c2 ys) :
  Calls Tryz.prog 36 #[.slice p1 n1 c1,.slice p2 n2 c2] w fun e w' => e = .returned (.bool (decide (xs = ys))) ∧ Below w.heap.size w w' :=
 (Same_d p1 p2 n1 n2 c1 c2 xs ys w h1 h2).mono fun e w' ⟨he,q,hq⟩ => ⟨he,by rw [hq]; exact below_drewN _ _⟩
end Go.Proofs.YtfbmdlfkipipfaaGreatDoor
namespace Go.Proofs.YtfbmdlfkipipfaaGreatDoor
open Go.RowKit Go.By
theorem qs {f : FuncId} {args : Array Value} {w : World} {n : Nat} {v : Value} (h : Calls Tryz.prog f args (w.drewN n) fun e w' => e = .returned v ∧ w.drewN n = w') :
  Calls Tryz.prog f args (w.drewN n) fun e w'' => e = .returned v ∧ ∃ m,w'' = w.drewN m :=
 Calls.quiet_of_same (h.mono fun _ _ ⟨a,b⟩ => ⟨a,b.symm⟩)
theorem dr {α : Type} {enc : α → Value} {w : World} {p : Option Addr} {n c : Nat} {xs : List α} (h : Sl enc w p n c xs) (k : Nat) : Sl enc (w.drewN k) p n c xs := h.keep (below_drewN w k)
theorem info_row : (Tryz.prog.info? 139).map (·.size) = some 2 := by kernel_rfl
set_option maxHeartbeats 400000 in
theorem RClone_any (p1 p2 : Option Addr) (n1 c1 n2 c2 : Nat) (v d : List UInt8) (w : World) (h1 : Sl B8 w p1 n1 c1 v) (h2 : Sl B8 w p2 n2 c2 d) (r1 : Room n1) (r2 : Room n2) :
  Calls Tryz.prog 116 #[.agg #[.slice p1 n1 c1,.slice p2 n2 c2]] w (RetR 5 w (v,d)) := by
 have hi := info_row
 have H1 := Lib.hid h1; have H2 := Lib.hid h2; clear h1 h2
 go_enter Tryz.func116,Tryz.ntmps116
 go_wp2_with fail
 have hB : ∀ o1 o2,Below w.heap.size w ((w.alloc o1).alloc o2) := fun o1 o2 => al (al (Below.refl _ _) (Nat.le_refl _)) (by simp)
 refine (Of_any _ _ _ _ _ _ v d _ (H1.out.keep (hB _ _)) (H2.out.keep (hB _ _)) r1 r2).mono ?_; rintro e w1 ⟨q1,m1,c1',q2,m2,c2',g1,g2,rfl,ho1,ho2,hb⟩
 have HO1 := Lib.hid ho1; have HO2 := Lib.hid ho2; clear ho1 ho2
 have e2 : w1.heap[w.heap.size + 1]? = some (.cells #[.slice none 0 0,.slice none 0 0] 139 (0,0)) := by
  rw [hb.block _ (by simp)]; exact hnew (by simp)
 have f0 : w1.cell? ⟨w.heap.size + 1,0,none⟩ = some (.slice none 0 0) := cell_of_row _ _ 0 _ _ _ e2
 have f1 : w1.cell? ⟨w.heap.size + 1,1,none⟩ = some (.slice none 0 0) := cell_of_row _ _ 1 _ _ _ e2
 have z0 : w1.frozen? ⟨w.heap.size + 1,0,none⟩ = false := frozen_of_row _ _ 0 _ _ e2
 have z1 : w1.frozen? ⟨w.heap.size + 1,1,none⟩ = false := frozen_of_row _ _ 1 _ _ e2
 have E2 := Lib.hid e2; clear e2
 go_wp2
 refine bodyPost_ret (results_cell_row rfl _ _ _ 139 #[.slice q1 m1 c1',.slice q2 m2 c2'] (0,0) _ rfl (hss (hss E2.out)) Tryz.underlying139 rfl hi) rfl ⟨q1,m1,c1',q2,m2,c2',g1,g2,rfl,?_,?_,((bl (hB _ _) hb (by simp; omega)).setCell (by simp) _).setCell (by simp) _⟩
 ·exact owns_mono (owns_set (owns_set HO1.out (by simp)) (by simp)) (by simp; omega)
 ·exact owns_mono (owns_set (owns_set HO2.out (by simp)) (by simp)) (by simp; omega)
def normS (r : List UInt8 × List UInt8) : List UInt8 × List UInt8 :=
 if atS r.1 (leadS r.1) = 0 then r else (r.1.map (Gf.gmul (Gf.ginv (atS r.1 (leadS r.1)))),r.2.map (Gf.gmul (Gf.ginv (atS r.1 (leadS r.1)))))
set_option maxRecDepth 100000 in
set_option maxHeartbeats 1000000 in
theorem Norm_any (p1 p2 : Option Addr) (n1 c1 n2 c2 : Nat) (v d : List UInt8) (w : World) (h1 : Sl B8 w p1 n1 c1 v) (h2 : Sl B8 w p2 n2 c2 d) (r1 : Room n1) (r2 : Room n2) :
  Calls Tryz.prog 89 #[.agg #[.slice p1 n1 c1,.slice p2 n2 c2]] w (RetR 5 w (normS (v,d))) := by
 have hi := info_row
 have H1 := Lib.hid h1; have H2 := Lib.hid h2; clear h1 h2
 obtain ⟨L,hL⟩ : ∃ L,L = leadS v := ⟨_,rfl⟩
 obtain ⟨a,ha⟩ : ∃ a,a = atS v L := ⟨_,rfl⟩
 have HL := Lib.hid hL; have HA := Lib.hid ha
 have CL : ∀ W,Below w.heap.size w W → Calls Tryz.prog 87 #[.slice p1 n1 c1] W fun e w' => e = .returned (.int .i64 L) ∧ W = w' := fun W hW => by rw [hL]; exact Lead_any _ _ _ v W (H1.out.keep hW)
 have CA : ∀ W,Below w.heap.size w W → Calls Tryz.prog 86 #[.slice p1 n1 c1,.int .i64 L] W fun e w' => e = .returned (B8 a) ∧ W = w' := fun W hW => by rw [ha]; exact At_any _ _ _ v L W (H1.out.keep hW)
 have HCL := Lib.hid CL; have HCA := Lib.hid CA
 clear CL CA hL ha
 have HN : Hid (normS (v,d) = if a = 0 then (v,d) else (v.map (Gf.gmul (Gf.ginv a)),d.map (Gf.gmul (Gf.ginv a)))) := by
  show _ = _
  simp only [normS,← HL.out,← HA.out]
 have hB : ∀ o1 o2 n,Below w.heap.size w (((w.alloc o1).alloc o2).drewN n) := fun o1 o2 n => (al (al (Below.refl _ _) (Nat.le_refl _)) (by simp) : Below w.heap.size w ((w.alloc o1).alloc o2)).trans ⟨rfl,rfl,rfl,Nat.le_refl _,fun _ _ => rfl⟩
 by_cases ha0 : a = 0
 ·have hN := HN.out
  rw [if_pos ha0] at hN
  have HNN := Lib.hid hN
  have HI : Hid (∀ W,Calls Tryz.prog 140 #[B8 a] W fun e w' => e = .returned (.tuple #[B8 0,.int .i64 3]) ∧ W = w') := fun W => by
   have := Inv_any a W
   rwa [show invRes a = (B8 0,3) by simp [invRes,ha0]] at this
  clear ha0 hN HN
  go_enter Tryz.func89,Tryz.ntmps89
  go_wp2_with fail
  go_quiet ((first
   | (go_at_call 87; exact qs (HCL.out _ (hB _ _ _)))
   | (go_at_call 86; exact qs (HCA.out _ (hB _ _ _)))
   | (go_at_call 140; exact qs (HI.out _))))
  have hB' := Lib.hid (hB (.cells #[.slice p1 n1 c1,.slice p2 n2 c2] 139) (.cells #[.slice none 0 0,.slice none 0 0] 139) nq)
  clear hB
  go_wp2_with fail
  refine (RClone_any _ _ _ _ _ _ v d _ (H1.out.keep hB'.out) (H2.out.keep hB'.out) r1 r2).mono ?_; rintro e w1 ⟨q1,m1,c1',q2,m2,c2',g1,g2,rfl,ho1,ho2,hb⟩
  have HO1 := Lib.hid ho1; have HO2 := Lib.hid ho2; clear ho1 ho2
  have e2 : w1.heap[w.heap.size + 1]? = some (.cells #[.slice none 0 0,.slice none 0 0] 139 (0,0)) := by
   rw [hb.block _ (by simp)]; exact hnew (w := w.alloc _) (by simp)
  have f0 : w1.cell? ⟨w.heap.size + 1,0,none⟩ = some (.slice none 0 0) := cell_of_row _ _ 0 _ _ _ e2
  have f1 : w1.cell? ⟨w.heap.size + 1,1,none⟩ = some (.slice none 0 0) := cell_of_row _ _ 1 _ _ _ e2
  have z0 : w1.frozen? ⟨w.heap.size + 1,0,none⟩ = false := frozen_of_row _ _ 0 _ _ e2
  have z1 : w1.frozen? ⟨w.heap.size + 1,1,none⟩ = false := frozen_of_row _ _ 1 _ _ e2
  have E2 := Lib.hid e2; clear e2
  go_wp2
  rw [HNN.out]
  refine bodyPost_ret (results_cell_row rfl _ _ _ 139 #[.slice q1 m1 c1',.slice q2 m2 c2'] (0,0) _ rfl (hss (hss E2.out)) Tryz.underlying139 rfl hi) rfl ⟨q1,m1,c1',q2,m2,c2',g1,g2,rfl,?_,?_,((bl hB'.out hb (by simp; omega)).setCell (by simp) _).setCell (by simp) _⟩
  ·exact owns_mono (owns_set (owns_set HO1.out (by simp)) (by simp)) (by simp; omega)
  ·exact owns_mono (owns_set (owns_set HO2.out (by simp)) (by simp)) (by simp; omega)
 ·have hN := HN.out
  rw [if_neg ha0] at hN
  have HNN := Lib.hid hN
  have HI : Hid (∀ W,Calls Tryz.prog 140 #[B8 a] W fun e w' => e = .returned (.tuple #[B8 (Gf.ginv a),.int .i64 0]) ∧ W = w') := fun W => by
   have := Inv_any a W
   rwa [show invRes a = (B8 (Gf.ginv a),0) by simp [invRes,ha0]] at this
  clear ha0 hN HN
  generalize Gf.ginv a = g at *
  go_enter Tryz.func89,Tryz.ntmps89
  go_wp2_with fail
  go_quiet ((first
   | (go_at_call 87; exact qs (HCL.out _ (hB _ _ _)))
   | (go_at_call 86; exact qs (HCA.out _ (hB _ _ _)))
   | (go_at_call 140; exact qs (HI.out _))))
  have hB' := hB (.cells #[.slice p1 n1 c1,.slice p2 n2 c2] 139) (.cells #[.slice none 0 0,.slice none 0 0] 139) nq
  have e1 : (((w.alloc (.cells #[.slice p1 n1 c1,.slice p2 n2 c2] 139)).alloc (.cells #[.slice none 0 0,.slice none 0 0] 139)).drewN nq).heap[w.heap.size]? = some (.cells #[.slice p1 n1 c1,.slice p2 n2 c2] 139 (0,0)) := hal (hnew rfl)
  have e2 : (((w.alloc (.cells #[.slice p1 n1 c1,.slice p2 n2 c2] 139)).alloc (.cells #[.slice none 0 0,.slice none 0 0] 139)).drewN nq).heap[w.heap.size + 1]? = some (.cells #[.slice none 0 0,.slice none 0 0] 139 (0,0)) := hnew (w := w.alloc _) (by simp)
  have esz : w.heap.size + 2 ≤ (((w.alloc (.cells #[.slice p1 n1 c1,.slice p2 n2 c2] 139)).alloc (.cells #[.slice none 0 0,.slice none 0 0] 139)).drewN nq).heap.size := by simp
  clear hB
  go_wp2_with fail
  generalize ((w.alloc (.cells #[.slice p1 n1 c1,.slice p2 n2 c2] 139)).alloc (.cells #[.slice none 0 0,.slice none 0 0] 139)).drewN nq = W at *
  have R0 : ∀ W',Below (w.heap.size + 2) W W' → W'.cell? ⟨w.heap.size,0,none⟩ = some (.slice p1 n1 c1) := fun W' h => cell_of_row _ _ 0 _ _ _ ((h.block _ (by omega)).trans e1)
  have R1 : ∀ W',Below (w.heap.size + 2) W W' → W'.cell? ⟨w.heap.size,1,none⟩ = some (.slice p2 n2 c2) := fun W' h => cell_of_row _ _ 1 _ _ _ ((h.block _ (by omega)).trans e1)
  have R2 : ∀ W',Below (w.heap.size + 2) W W' → W'.cell? ⟨w.heap.size + 1,0,none⟩ = some (.slice none 0 0) := fun W' h => cell_of_row _ _ 0 _ _ _ ((h.block _ (by omega)).trans e2)
  have R3 : ∀ W',Below (w.heap.size + 2) W W' → W'.cell? ⟨w.heap.size + 1,1,none⟩ = some (.slice none 0 0) := fun W' h => cell_of_row _ _ 1 _ _ _ ((h.block _ (by omega)).trans e2)
  have Z2 : ∀ W',Below (w.heap.size + 2) W W' → W'.frozen? ⟨w.heap.size + 1,0,none⟩ = false := fun W' h => frozen_of_row _ _ 0 _ _ ((h.block _ (by omega)).trans e2)
  have Z3 : ∀ W',Below (w.heap.size + 2) W W' → W'.frozen? ⟨w.heap.size + 1,1,none⟩ = false := fun W' h => frozen_of_row _ _ 1 _ _ ((h.block _ (by omega)).trans e2)
  have E2 := Lib.hid e2
  clear e1 e2
  have hd : Below (w.heap.size + 2) W W.drew := (Below.refl _ _).drew
  have C1 : Hid (∀ W',Below (w.heap.size + 2) W W' → Calls Tryz.prog 141 #[B8 g,.slice p1 n1 c1] W' (RetB1 5 W' (v.map (Gf.gmul g)))) := fun W' h => Scale_any g p1 n1 c1 v W' (H1.out.keep (hB'.trans (h.mono (by omega)))) r1
  have C2 : Hid (∀ W',Below (w.heap.size + 2) W W' → Calls Tryz.prog 141 #[B8 g,.slice p2 n2 c2] W' (RetB1 5 W' (d.map (Gf.gmul g)))) := fun W' h => Scale_any g p2 n2 c2 d W' (H2.out.keep (hB'.trans (h.mono (by omega)))) r2
  have hB2 := Lib.hid hB'
  clear hB'
  go_region_with (first
   | (go_at_call 141; (with_reducible refine Calls.mono (C1.out _ (by assumption)) ?_); rintro e w1 ⟨q1,m1,c1',hm1,rfl,ho1,hb1⟩; have hw1 := stp (by assumption) hb1 rfl esz)
   | (go_at_call 141; (with_reducible refine Calls.mono (C2.out _ (by assumption)) ?_); rintro e w2 ⟨q2,m2,c2',hm2,rfl,ho2,hb2⟩; have hw2 := stp (by assumption) hb2 rfl esz))
  all_goals go_wp2
  all_goals rw [HNN.out]
  all_goals first
   | (refine bodyPost_ret (results_cell_row rfl _ _ _ 139 #[.slice q1 m1 c1',.slice q2 m2 c2'] (0,0) _ rfl (hss (hss ((hw2.block _ (by omega)).trans E2.out))) Tryz.underlying139 rfl hi) rfl ⟨q1,m1,c1',q2,m2,c2',hm1,hm2,rfl,owns_mono (owns_set (owns_set (owns_keep ho1 hb2) (show w.heap.size + 1 < _ by have := hw1.size; simp; omega)) (show w.heap.size + 1 < _ by have := hw1.size; simp; omega)) (by have := hw1.size; simp; omega),owns_mono (owns_set (owns_set ho2 (show w.heap.size + 1 < _ by have := hw1.size; simp; omega)) (show w.heap.size + 1 < _ by have := hw1.size; simp; omega)) (by have := hw1.size; simp; omega),((hB2.out.trans (hw2.mono (by omega))).setCell (by simp) _).setCell (by simp) _⟩)
   | (refine bodyPost_ret (results_cell_row rfl _ _ _ 139 #[.slice q1 m1 c1',.slice q2 m2 c2'] (0,0) _ rfl (hss (hss ((hw1.block _ (by omega)).trans E2.out))) Tryz.underlying139 rfl hi) rfl ⟨q1,m1,c1',q2,m2,c2',hm1,hm2,rfl,owns_mono (owns_set (owns_set ho1 (show w.heap.size + 1 < _ by have := hw2.size; simp; omega)) (show w.heap.size + 1 < _ by have := hw2.size; simp; omega)) (by have := hw2.size; simp; omega),owns_mono (owns_set (owns_set (owns_keep ho2 hb1) (show w.heap.size + 1 < _ by have := hw2.size; simp; omega)) (show w.heap.size + 1 < _ by have := hw2.size; simp; omega)) (by have := hw2.size; simp; omega),((hB2.out.trans (hw1.mono (by omega))).setCell (by simp) _).setCell (by simp) _⟩)
end Go.Proofs.YtfbmdlfkipipfaaGreatDoor
namespace Go.Proofs.YtfbmdlfkipipfaaGreatDoor
open Go.RowKit Go.By
theorem results_cell_tmp {P : Program} {fn : Func} {p u : Tmp} {ty : TypeId} (h : fn.results = #[.cell p ty,.tmp u]) (tmps : Array Value) (w : World) (g : Nat) (t : TypeId) (cs : Array Value) (fr : Nat × Nat) (d : TypeDesc) (v : Value)
  (hp : tmps.getD p undef = .pointer (some ⟨g,0,none⟩)) (hg : w.heap[g]? = some (.cells cs t fr)) (hv : tmps.getD u undef = v)
  (hu : P.underlying ty = some d) (hd : (match d with | .struct _ | .array _ _ => true | _ => false) = true) (hi : (P.info? ty).map (·.size) = some cs.size) :
  (results fn tmps).run P w = .ok (.tuple #[.agg cs,v]) w := by
 have hp' : tmps[p]?.getD undef = .pointer (some ⟨g,0,none⟩) := by simpa using hp
 have hv' : tmps[u]?.getD undef = v := by simpa using hv
 simp [results,h,hp',hv',asAddr,run_loadVar_row w g t ty cs fr d hg hu hd hi]
def RetR2 (T : TypeId) (w : World) (r : List UInt8 × List UInt8) (code : Int) (e : Ending) (w' : World) : Prop :=
 ∃ q1 m1 c1 q2 m2 c2,Hid (r.1.length = m1) ∧ Hid (r.2.length = m2) ∧ e = .returned (.tuple #[.agg #[.slice q1 m1 c1,.slice q2 m2 c2],.int .i64 code]) ∧
  w'.ownsRow w.heap.size T 1 (.slice q1 m1 c1) m1 (r.1.map B8) ∧ w'.ownsRow w.heap.size T 1 (.slice q2 m2 c2) m2 (r.2.map B8) ∧ Below w.heap.size w w'
def lessS (r : List UInt8 × List UInt8) (c : UInt8) (o : List UInt8 × List UInt8) : (List UInt8 × List UInt8) × Int :=
 if o.1.length = r.1.length ∧ o.2.length = r.2.length then ((axpy c o.1 r.1,axpy c o.2 r.2),0) else (([],[]),4)
theorem axpyS_yes {c : UInt8} {x y : List UInt8} (h : x.length = y.length) : axpyS c x y = (axpy c x y,0) := by simp [axpyS,h]
theorem axpyS_no {c : UInt8} {x y : List UInt8} (h : x.length ≠ y.length) : axpyS c x y = ([],4) := by simp [axpyS,h]
set_option maxRecDepth 100000 in
set_option maxHeartbeats 1000000 in
theorem Less_any (p1 p2 p3 p4 : Option Addr) (n1 c1 n2 c2 n3 c3 n4 c4 : Nat) (v d x y : List UInt8) (c : UInt8) (w : World) (h1 : Sl B8 w p1 n1 c1 v) (h2 : Sl B8 w p2 n2 c2 d) (h3 : Sl B8 w p3 n3 c3 x) (h4 : Sl B8 w p4 n4 c4 y) (r1 : Room n1) (r2 : Room n2) :
  Calls Tryz.prog 85 #[.agg #[.slice p1 n1 c1,.slice p2 n2 c2],B8 c,.agg #[.slice p3 n3 c3,.slice p4 n4 c4]] w (RetR2 5 w (lessS (v,d) c (x,y)).1 (lessS (v,d) c (x,y)).2) := by
 have hi := info_row
 have H1 := Lib.hid h1; have H2 := Lib.hid h2; have H3 := Lib.hid h3; have H4 := Lib.hid h4
 have hB : ∀ o1 o2 o3,Below w.heap.size w (((w.alloc o1).alloc o2).alloc o3) := fun o1 o2 o3 => al (al (al (Below.refl _ _) (Nat.le_refl _)) (by simp)) (by simp; omega)
 have F : ∀ (w1 : World),(Below (w.heap.size + 3) (((w.alloc (.cells #[.slice p1 n1 c1,.slice p2 n2 c2] 139)).alloc (.cells #[.slice p3 n3 c3,.slice p4 n4 c4] 139)).alloc (.cells #[.slice none 0 0,.slice none 0 0] 139)) w1) →
   w1.heap[w.heap.size]? = some (.cells #[.slice p1 n1 c1,.slice p2 n2 c2] 139 (0,0)) ∧ w1.heap[w.heap.size + 1]? = some (.cells #[.slice p3 n3 c3,.slice p4 n4 c4] 139 (0,0)) ∧ w1.heap[w.heap.size + 1 + 1]? = some (.cells #[.slice none 0 0,.slice none 0 0] 139 (0,0)) := fun w1 h =>
  ⟨(h.block _ (by omega)).trans (hal (hal (hnew rfl))),(h.block _ (by omega)).trans (hal (hnew (by simp))),(h.block _ (by omega)).trans (hnew (by simp))⟩
 have C1 := Lib.hid (fun W a b => Axpy_any c p3 p1 n3 n1 c3 c1 x v W a b r1)
 have C2 := Lib.hid (fun W a b => Axpy_any c p4 p2 n4 n2 c4 c2 y d W a b r2)
 by_cases e1 : n3 = n1
 ·have E1 : Hid (axpyS c x v = (axpy c x v,0)) := axpyS_yes (h3.len.trans (e1.trans h1.len.symm))
  have E1' : Hid (x.length = v.length) := h3.len.trans (e1.trans h1.len.symm)
  have HF := Lib.hid F
  clear F h1 h2 h3 h4 e1
  go_enter Tryz.func85,Tryz.ntmps85
  go_wp2_with fail
  refine (C1.out _ (H3.out.keep (hB _ _ _)) (H1.out.keep (hB _ _ _))).mono ?_; rintro e w1 ⟨q1,m1,c1',g1,rfl,ho1,hb1⟩
  rw [E1.out] at ho1 g1 ⊢
  have HO1 := Lib.hid ho1; clear ho1
  have k1 := hb1.mono (show w.heap.size + 3 ≤ _ by simp)
  obtain ⟨f0,f1,f2⟩ := HF.out w1 k1
  have l0 : w1.cell? ⟨w.heap.size,1,none⟩ = some (.slice p2 n2 c2) := cell_of_row _ _ 1 _ _ _ f0
  have l1 : w1.cell? ⟨w.heap.size + 1,1,none⟩ = some (.slice p4 n4 c4) := cell_of_row _ _ 1 _ _ _ f1
  have hw1 := bl (hB _ _ _) hb1 (by simp; omega)
  have hs1 := hb1.size
  have f0 := trivial; have f1 := trivial
  clear f2
  go_wp2_with fail
  refine (C2.out w1 (H4.out.keep hw1) (H2.out.keep hw1)).mono ?_; rintro e w2 ⟨q2,m2,c2',g2,rfl,ho2,hb2⟩
  have k2 := k1.trans (hb2.mono (by simp at hs1; omega))
  obtain ⟨_,_,f2⟩ := HF.out w2 k2
  have t0 : w2.cell? ⟨w.heap.size + 1 + 1,0,none⟩ = some (.slice none 0 0) := cell_of_row _ _ 0 _ _ _ f2
  have t1 : w2.cell? ⟨w.heap.size + 1 + 1,1,none⟩ = some (.slice none 0 0) := cell_of_row _ _ 1 _ _ _ f2
  have z0 : w2.frozen? ⟨w.heap.size + 1 + 1,0,none⟩ = false := frozen_of_row _ _ 0 _ _ f2
  have z1 : w2.frozen? ⟨w.heap.size + 1 + 1,1,none⟩ = false := frozen_of_row _ _ 1 _ _ f2
  have E2 := Lib.hid f2; clear f2
  by_cases e2 : n4 = n2
  ·have E3 : Hid (axpyS c y d = (axpy c y d,0)) := axpyS_yes (H4.out.len.trans (e2.trans H2.out.len.symm))
   have HR : Hid (lessS (v,d) c (x,y) = ((axpy c x v,axpy c y d),0)) := if_pos ⟨E1'.out,H4.out.len.trans (e2.trans H2.out.len.symm)⟩
   rw [E3.out] at ho2 g2 ⊢
   have HO2 := Lib.hid ho2; clear ho2
   clear e2
   go_wp2
   rw [HR.out]
   refine bodyPost_ret (results_cell_tmp rfl _ _ _ 139 #[.slice q1 m1 c1',.slice q2 m2 c2'] (0,0) _ (.int .i64 0) rfl (hss (hss E2.out)) rfl Tryz.underlying139 rfl hi) rfl ⟨q1,m1,c1',q2,m2,c2',g1,g2,rfl,?_,?_,((bl hw1 hb2 hw1.size).setCell (by simp; omega) _).setCell (by simp; omega) _⟩
   ·exact owns_mono (owns_set (owns_set (owns_keep HO1.out hb2) (by simp)) (by simp)) (by simp; omega)
   ·exact owns_mono (owns_set (owns_set HO2.out (by simp at hs1; omega)) (by simp at hs1; omega)) hw1.size
  ·have E3 : Hid (axpyS c y d = ([],4)) := axpyS_no (by rw [H4.out.len,H2.out.len]; exact e2)
   have HR : Hid (lessS (v,d) c (x,y) = (([],[]),4)) := if_neg (fun h => e2 (H4.out.len.symm.trans (h.2.trans H2.out.len)))
   rw [E3.out] at ho2 g2 ⊢
   clear e2 ho2
   go_wp2
   rw [HR.out]
   refine bodyPost_ret (results_cell_tmp rfl _ _ _ 139 #[.slice none 0 0,.slice none 0 0] (0,0) _ (.int .i64 4) rfl (hss (hss E2.out)) rfl Tryz.underlying139 rfl hi) rfl ⟨none,0,0,none,0,0,rfl,rfl,rfl,World.ownsRow_nil _ _ _ _,World.ownsRow_nil _ _ _ _,((bl hw1 hb2 hw1.size).setCell (by simp; omega) _).setCell (by simp; omega) _⟩
 ·have E1 : Hid (axpyS c x v = ([],4)) := axpyS_no (by rw [h3.len,h1.len]; exact e1)
  have HR : Hid (lessS (v,d) c (x,y) = (([],[]),4)) := if_neg (fun h => e1 (h3.len.symm.trans (h.1.trans h1.len)))
  have HF := Lib.hid F
  clear F h1 h2 h3 h4 e1
  go_enter Tryz.func85,Tryz.ntmps85
  go_wp2_with fail
  refine (C1.out _ (H3.out.keep (hB _ _ _)) (H1.out.keep (hB _ _ _))).mono ?_; rintro e w1 ⟨q1,m1,c1',g1,rfl,ho1,hb1⟩
  rw [E1.out] at ho1 g1 ⊢
  clear ho1
  have k1 := hb1.mono (show w.heap.size + 3 ≤ _ by simp)
  obtain ⟨_,_,f2⟩ := HF.out w1 k1
  have t0 : w1.cell? ⟨w.heap.size + 1 + 1,0,none⟩ = some (.slice none 0 0) := cell_of_row _ _ 0 _ _ _ f2
  have t1 : w1.cell? ⟨w.heap.size + 1 + 1,1,none⟩ = some (.slice none 0 0) := cell_of_row _ _ 1 _ _ _ f2
  have z0 : w1.frozen? ⟨w.heap.size + 1 + 1,0,none⟩ = false := frozen_of_row _ _ 0 _ _ f2
  have z1 : w1.frozen? ⟨w.heap.size + 1 + 1,1,none⟩ = false := frozen_of_row _ _ 1 _ _ f2
  have E2 := Lib.hid f2; clear f2
  have hw1 := bl (hB _ _ _) hb1 (by simp; omega)
  go_wp2
  rw [HR.out]
  refine bodyPost_ret (results_cell_tmp rfl _ _ _ 139 #[.slice none 0 0,.slice none 0 0] (0,0) _ (.int .i64 4) rfl (hss (hss E2.out)) rfl Tryz.underlying139 rfl hi) rfl ⟨none,0,0,none,0,0,rfl,rfl,rfl,World.ownsRow_nil _ _ _ _,World.ownsRow_nil _ _ _ _,(hw1.setCell (by simp; omega) _).setCell (by simp; omega) _⟩
end Go.Proofs.YtfbmdlfkipipfaaGreatDoor
namespace Go.Proofs.YtfbmdlfkipipfaaGreatDoor
open Go.RowKit Go.By
theorem bdn {B : Nat} {a w : World} (h : Below B a w) {n : Nat} : Below B a (w.drewN n) := ⟨h.os,h.tape,h.output,h.size,h.block⟩
set_option maxHeartbeats 400000 in
theorem EqualV_d (p1 p2 : Option Addr) (n1 n2 c1 c2 : Nat) (xs ys : List UInt8) (w : World) (h1 : Sl B8 w p1 n1 c1 xs) (h2 : Sl B8 w p2 n2 c2 ys) :
  Calls Tryz.prog 166 #[.slice p1 n1 c1,.slice p2 n2 c2] w fun e w' => e = .returned (.bool (decide (xs = ys))) ∧ ∃ q,w' = w.drewN q := by
 have b1 := h1.bound; have b2 := h2.bound
 by_cases he : n1 = n2
 ·obtain rfl := he
  have H1 := Lib.hid h1; have H2 := Lib.hid h2; clear h1 h2
  go_enter Tryz.func166,Tryz.ntmps166
  go_wp2
  go_loopw [13] (fun i wr => ∃ k q : Nat,k ≤ n1 ∧ i = .int .i64 k ∧ wr = w.drewN q ∧ Hid (∀ j : Nat,j < k → xs[j]? = ys[j]?)) (fun i _ => n1 - (intOf i).toNat)
  case atStart => exact ⟨0,0,Nat.zero_le _,rfl,rfl,fun j hj => by omega⟩
  case round =>
   obtain ⟨k,q,hk,rfl,rfl,hj⟩ := hrel
   by_cases hlt : k < n1
   ·obtain ⟨b,o,x,rfl,hc,hx⟩ := H1.out.at k hlt
    obtain ⟨b',o',y,rfl,hc',hy⟩ := H2.out.at k hlt
    have i1 : (k : Int) < (n1 : Int) := by omega
    by_cases hxy : x = y
    ·subst hxy
     have ht := u8_eq x
     go_wp2
     go_quiet (fail)
     go_wp2
     go_roundw
     case rel => exact ⟨k + 1,_,by omega,by go_num,rfl,fun j hj' => by
      by_cases e : j = k
      ·subst e; exact hx.out.trans hy.out.symm
      ·exact hj.out j (by omega)⟩
     case measure => simp [intOf]; omega
    ·have ht := u8_ne hxy
     have HN := Lib.hid hxy; clear hxy
     go_wp2
     go_quiet (fail)
     go_wp2
     go_ret
     refine ⟨?_,_,by rw [World.drewN_drewN]⟩
     have : ¬ xs = ys := by rintro rfl; exact HN.out (Option.some.inj (hx.out.symm.trans hy.out))
     simp [this]
   ·go_wp2
    go_ret
    refine ⟨?_,q,rfl⟩
    have : xs = ys := eq_of_pref (k := k) (by have := H1.out.len; omega) (by have := H2.out.len; omega) hj.out
    simp [this]
 ·have hne : ((n1 : Int) != (n2 : Int)) = true := by simp; omega
  have HN : Hid (decide (xs = ys) = false) := by
   simp only [Hid,decide_eq_false_iff_not]; rintro rfl; exact he (h1.len.symm.trans h2.len)
  clear h1 h2
  go_enter Tryz.func166,Tryz.ntmps166
  go_wp2
  go_ret
  exact ⟨by rw [HN.out]; rfl,0,rfl⟩
end Go.Proofs.YtfbmdlfkipipfaaGreatDoor
namespace Go.Proofs.YtfbmdlfkipipfaaGreatDoor
end Go.Proofs.YtfbmdlfkipipfaaGreatDoor
namespace Go.Proofs.YtfbmdlfkipipfaaGreatDoor
open Go.RowKit Go.By
theorem u8_of (n : Nat) : ((n : Int) % 256) = ((UInt8.ofNat n).toNat : Int) := by
 rw [UInt8.toNat_ofNat']; omega
theorem put4_cells (n : Nat) (h : n < 4294967296) : ([.int .u8 ((n : Int) % 256),.int .u8 ((n : Int) / 256 % 256),.int .u8 ((n : Int) / 65536 % 256),.int .u8 ((n : Int) / 16777216)] : List Value) = (put4 n).map B8 := by
 have e0 := u8_of n
 have e1 := u8_of (n / 256)
 have e2 := u8_of (n / 65536)
 have e3 := u8_of (n / 16777216)
 have f3 : ((n / 16777216 : Nat) : Int) % 256 = (n : Int) / 16777216 := by omega
 rw [f3] at e3
 have f1 : ((n / 256 : Nat) : Int) = (n : Int) / 256 := by omega
 have f2 : ((n / 65536 : Nat) : Int) = (n : Int) / 65536 := by omega
 rw [f1] at e1
 rw [f2] at e2
 rw [e0,e1,e2,e3]
 rfl
set_option maxHeartbeats 1000000 in
theorem SPut_any (n : Nat) (h : n < 4294967296) (w : World) :
  Calls Tryz.prog 128 #[.int .u32 (n : Int)] w fun e w' => ∃ g,e = .returned (.slice (some ⟨g,0,none⟩) 4 4) ∧ w.heap.size ≤ g ∧ w'.heap[g]? = some (.cells ((put4 n).map B8).toArray 5 (0,0)) ∧ Below w.heap.size w w' := by
 have e0 := put4_cells n h
 go_enter Tryz.func128,Tryz.ntmps128
 go_wp2
 rw [← e0]
 go_ret
 exact ⟨w.heap.size,rfl,Nat.le_refl _,hnew rfl,al (Below.refl _ _) (Nat.le_refl _)⟩
end Go.Proofs.YtfbmdlfkipipfaaGreatDoor
namespace Go.By
open Go.RowKit
theorem bits_and32 {a b : Nat} (ha : a < 2 ^ 32) (hb : b < 2 ^ 32) : bits .and .u32 (a : Int) (b : Int) = ((a &&& b : Nat) : Int) :=
 (bits_nat .u32 32 (by decide) (fun n h1 h2 => by rw [IntKind.wrap_u32]; omega) a b ha hb).1
theorem bits_or32 {a b : Nat} (ha : a < 2 ^ 32) (hb : b < 2 ^ 32) : bits .or .u32 (a : Int) (b : Int) = ((a ||| b : Nat) : Int) :=
 (bits_nat .u32 32 (by decide) (fun n h1 h2 => by rw [IntKind.wrap_u32]; omega) a b ha hb).2
theorem bits_xor32 {a b : Nat} (ha : a < 2 ^ 32) (hb : b < 2 ^ 32) : bits .xor .u32 (a : Int) (b : Int) = ((a ^^^ b : Nat) : Int) :=
 bits_xor_nat .u32 32 (by decide) (fun n h1 h2 => by rw [IntKind.wrap_u32]; omega) a b ha hb
theorem or_add {a b k : Nat} (hb : b < 2 ^ k) (ha : a % 2 ^ k = 0) : a ||| b = a + b := by
 obtain ⟨q,rfl⟩ : ∃ q,a = 2 ^ k * q := ⟨a / 2 ^ k,by have := Nat.div_add_mod a (2 ^ k); rw [ha] at this; omega⟩
 exact (Nat.two_pow_add_eq_or_of_lt hb q).symm
theorem not32 {r : Nat} (h : r < 4294967296) : 4294967295 ^^^ r = 4294967295 - r := by
 apply Nat.eq_of_testBit_eq
 intro i
 rw [Nat.testBit_xor]
 have e1 := Nat.testBit_two_pow_sub_one 32 i
 have e2 := Nat.testBit_two_pow_sub_succ (n := 32) (x := r) h i
 rw [show 2 ^ 32 - (r + 1) = 4294967295 - r by omega] at e2
 rw [show 2 ^ 32 - 1 = 4294967295 by rfl] at e1
 rw [e1,e2]
 by_cases hi : i < 32
 ·simp [hi]
 ·have : r.testBit i = false := Nat.testBit_lt_two_pow (Nat.lt_of_lt_of_le h (by rw [show (4294967296 : Nat) = 2 ^ 32 by rfl]; exact Nat.pow_le_pow_right (by decide) (by omega)))
  simp [hi,this]
end Go.By
namespace Go.Proofs.YtfbmdlfkipipfaaGreatDoor
open Go.RowKit Go.By
def HalfT (w : World) : Prop := ∀ i,i < 16 → w.cell? ⟨0,i,none⟩ = some (.int .u32 (crcTab.getD i 0 : Nat))
theorem HalfT.keep {w w' : World} (h : HalfT w) (hb : Below w.heap.size w w') : HalfT w' := fun i hi => (hb.cell (p := ⟨0,i,none⟩) (lt_of_cell (h i hi))).trans (h i hi)
theorem HalfT.pos {w : World} (h : HalfT w) : 0 < w.heap.size := lt_of_cell (h 0 (by decide))
theorem info_run : (Tryz.prog.info? 270).map (·.size) = some 1 := by kernel_rfl
theorem SStart_any (w : World) : Calls Tryz.prog 179 #[] w fun e w' => e = .returned (.agg #[.int .u32 (4294967295 : Nat)]) ∧ Below w.heap.size w w' := by
 have hinfo := info_run
 go_enter Tryz.func179,Tryz.ntmps179
 go_wp2
 exact bodyPost_ret (results_cell_row rfl _ _ _ 270 #[.int .u32 (4294967295 : Nat)] (0,0) _ rfl (hnew rfl) Tryz.underlying270 rfl hinfo) rfl ⟨rfl,((Below.refl _ _).alloc (Nat.le_refl _) _)⟩
theorem SSum_any (r : Nat) (h : r < 4294967296) (w : World) : Calls Tryz.prog 181 #[.agg #[.int .u32 (r : Nat)]] w fun e w' => e = .returned (.int .u32 (4294967295 - r : Nat)) ∧ Below w.heap.size w w' := by
 have e0 : bits BinOp.xor IntKind.u32 IntKind.u32.max (r : Int) = ((4294967295 - r : Nat) : Int) := by
  rw [show IntKind.u32.max = ((4294967295 : Nat) : Int) by decide,bits_xor32 (by omega) (by omega)]
  congr 1
  exact not32 h
 go_enter Tryz.func181,Tryz.ntmps181
 go_wp2
 go_ret
 exact ⟨rfl,(Below.refl _ _).alloc (Nat.le_refl _) _⟩
structure RS (T : TypeId) (w0 : World) (r : Nat) (wr : World) : Prop where
 b : wr.heap[w0.heap.size]? = some (.cells #[.int .u32 (r : Nat)] T (0,0))
 c : wr.heap[w0.heap.size + 1]? = some (.cells #[.int .u32 0] T (0,0))
 below : Below w0.heap.size w0 wr
theorem RS.set {T : TypeId} {w0 wr : World} {r : Nat} (h : RS T w0 r wr) (r' : Nat) : RS T w0 r' (wr.setCell ⟨w0.heap.size,0,none⟩ (.int .u32 (r' : Nat))) :=
 ⟨hss h.b,hsc h.c (by show w0.heap.size + 1 ≠ w0.heap.size; omega),h.below.setCell (Nat.le_refl _) _⟩
theorem RS.cells {T : TypeId} {w0 wr : World} {r : Nat} (h : RS T w0 r wr) : wr.cell? ⟨w0.heap.size,0,none⟩ = some (.int .u32 (r : Nat)) ∧ wr.frozen? ⟨w0.heap.size,0,none⟩ = false ∧ wr.cell? ⟨w0.heap.size + 1,0,none⟩ = some (.int .u32 0) ∧ wr.frozen? ⟨w0.heap.size + 1,0,none⟩ = false :=
 ⟨cell_of_row _ _ 0 _ _ _ h.b,frozen_of_row _ _ 0 _ _ h.b,cell_of_row _ _ 0 _ _ _ h.c,frozen_of_row _ _ 0 _ _ h.c⟩
theorem RS.keep {T : TypeId} {w0 w1 w2 : World} {r : Nat} (h : RS T w0 r w1) (hb : Below w1.heap.size w1 w2) : RS T w0 r w2 :=
 ⟨(hb.block _ (lt_of_block h.b)).trans h.b,(hb.block _ (lt_of_block h.c)).trans h.c,bl h.below hb h.below.size⟩
set_option maxRecDepth 100000 in
set_option maxHeartbeats 4000000 in
theorem SWith_any (r : Nat) (hr : r < 4294967296) (p : Option Addr) (n c : Nat) (xss : List (List UInt8)) (w : World) (h : Sl2 w p n c xss) (hT : HalfT w) :
  Calls Tryz.prog 180 #[.agg #[.int .u32 (r : Nat)],.slice p n c] w fun e w' => e = .returned (.agg #[.int .u32 (crcRun r xss.flatten : Nat)]) ∧ Below w.heap.size w w' := by
 have hn := h.bound
 obtain ⟨F,hF⟩ : ∃ F : Nat → Nat,F = fun k => crcRun r (xss.take k).flatten := ⟨_,rfl⟩
 have HF : Hid (∀ k xs,xss[k]? = some xs → F (k + 1) = crcRun (F k) xs) := fun k xs hx => by
  subst hF
  obtain ⟨hk,hx⟩ := List.getElem?_eq_some_iff.1 hx
  show crcRun r (xss.take (k + 1)).flatten = crcRun (crcRun r (xss.take k).flatten) xs
  rw [← crcRun_append,List.take_succ_eq_append_getElem hk,hx,List.flatten_append]; simp
 have HL : Hid (∀ k,F k < 4294967296) := fun k => by subst hF; exact crcRun_lt hr
 have HN : Hid (F n = crcRun r xss.flatten) := by subst hF; show crcRun r (xss.take n).flatten = _; rw [List.take_of_length_le (by rw [h.len]; omega)]
 have H0 : F 0 = r := by subst hF; rfl
 have H := Lib.hid h
 have HT := Lib.hid hT
 have HP : Hid (0 < w.heap.size) := hT.pos
 clear h hF hT hr
 rw [← HN.out]
 go_enter Tryz.func180,Tryz.ntmps180
 go_wp2
 go_loopw [11] (fun i wr => ∃ k : Nat,k ≤ n ∧ i = .int .i64 k ∧ Hid (RS 270 w (F k) wr)) (fun i _ => n - (intOf i).toNat)
 case atStart =>
  refine ⟨0,Nat.zero_le _,rfl,?_⟩
  rw [H0]
  refine ⟨hal (hnew rfl),hnew (by simp),al (al (Below.refl _ _) (Nat.le_refl _)) (by simp)⟩
 case round =>
  obtain ⟨k,hk,rfl,hS⟩ := hrel
  by_cases hlt : k < n
  ·obtain ⟨b,o,q,m,c',xs,rfl,hc,hs,hx⟩ := H.out.at k hlt
   have hcw := (hS.out.below.cell (p := ⟨b,o + k,none⟩) (lt_of_cell hc)).trans hc
   have hm := hs.bound
   have HS := Lib.hid hs
   have E0 : F (k + 1) = crcRun (F k) xs := HF.out k xs hx.out
   have EL := HL.out k
   obtain ⟨G,hG⟩ : ∃ G : Nat → Nat,G = fun j => crcRun (F k) (xs.take j) := ⟨_,rfl⟩
   have G0 : Hid (G 0 = F k) := by subst hG; rfl
   have GN : Hid (G m = F (k + 1)) := by subst hG; rw [E0]; show crcRun _ (xs.take m) = _; rw [List.take_of_length_le (by rw [hs.len]; omega)]
   have GS : Hid (∀ j x,xs[j]? = some x → G (j + 1) = crcHalf (crcHalf (G j ^^^ x.toNat))) := fun j x hj => by
    subst hG
    obtain ⟨hj1,hj2⟩ := List.getElem?_eq_some_iff.1 hj
    show crcRun (F k) (xs.take (j + 1)) = crcByte (crcRun (F k) (xs.take j)) x
    rw [List.take_succ_eq_append_getElem hj1,hj2,crcRun_append]; rfl
   have GL : Hid (∀ j,G j < 4294967296) := fun j => by subst hG; exact crcRun_lt EL
   clear hs hG E0 EL
   go_wp2
   go_loopw [17] (fun i wr => ∃ j : Nat,j ≤ m ∧ i = .int .i64 j ∧ Hid (RS 270 w (G j) wr)) (fun i _ => m - (intOf i).toNat)
   case atStart => exact ⟨0,Nat.zero_le _,rfl,by rw [G0.out]; exact hS⟩
   case round =>
    obtain ⟨j,hj,rfl,hS2⟩ := hrel
    by_cases hjm : j < m
    ·obtain ⟨bb,oo,x,rfl,hcx,hxx⟩ := HS.out.at j hjm
     have hcx2 := (hS2.out.below.cell (p := ⟨bb,oo + j,none⟩) (lt_of_cell hcx)).trans hcx
     have hx8 := x.toNat_lt
     have g1 := GL.out j
     have hxor := bits_xor32 (a := G j) (b := x.toNat) (by omega) (by omega)
     have hlt2 : G j ^^^ x.toNat < 4294967296 := Nat.xor_lt_two_pow (n := 32) (by omega) (by omega)
     obtain ⟨cb,zb,cr,zr⟩ := hS2.out.cells
     have hsz := hS2.out.below.size
     have HS3 := Lib.hid (hS2.out.set (G j ^^^ x.toNat))
     have GS2 := Lib.hid (GS.out j x hxx.out)
     generalize hV : G j ^^^ x.toNat = V at *
     clear hV
     go_wp2
     clear hxor
     go_loopw [27] (fun i wr => ∃ l v : Nat,l ≤ 2 ∧ i = .int .i64 l ∧ v < 4294967296 ∧ Hid (l = 0 ∧ v = V ∨ l = 1 ∧ v = crcHalf V ∨ l = 2 ∧ v = crcHalf (crcHalf V)) ∧ Hid (RS 270 w v wr)) (fun i _ => 2 - (intOf i).toNat)
     case atStart => exact ⟨0,V,by omega,rfl,hlt2,Or.inl ⟨rfl,rfl⟩,HS3⟩
     case round =>
      obtain ⟨l,v,hl,rfl,hv,hor,hS4⟩ := hrel
      clear cb zb cr zr
      obtain ⟨cb,zb,cr,zr⟩ := hS4.out.cells
      by_cases hl2 : l < 2
      ·have hst := hS4.out.below.size
       have hTc := (HT.out.keep (hS4.out.below)) (v % 16) (Nat.mod_lt _ (by omega))
       have hand : bits .and .u32 (v : Int) (15 : Int) = ((v % 16 : Nat) : Int) := by
        rw [show (15 : Int) = ((15 : Nat) : Int) by rfl,bits_and32 hv (by decide),show (15 : Nat) = 2 ^ 4 - 1 by rfl,Nat.and_two_pow_sub_one_eq_mod]
       have htl : crcTab.getD (v % 16) 0 < 2 ^ 32 := crcTab_lt ⟨v % 16,Nat.mod_lt _ (by omega)⟩
       have hxo : bits .xor .u32 ((v : Int) / 16) (crcTab.getD (v % 16) 0 : Nat) = ((crcHalf v : Nat) : Int) := by
        have := bits_xor32 (a := v / 16) (b := crcTab.getD (v % 16) 0) (by omega) htl
        rw [show ((v / 16 : Nat) : Int) = (v : Int) / 16 by omega] at this
        exact this
       have hvl := crcHalf_lt hv
       have hm16 : ¬ (16 : Int) ≤ ((v % 16 : Nat) : Int) := by omega
       generalize hM : v % 16 = M at *
       generalize hU : crcTab.getD M 0 = U at *
       generalize hX : crcHalf v = X at *
       have hXe := Lib.hid hX
       clear hX hM hU
       go_wp2_with fail
       refine wp_region_last (fun ix => ([.val (.pointer (some ⟨w.heap.size,0,none⟩)),.val (.int .u32 (v : Nat)),.val (.int .u32 ((v : Int) / 16)),.val (.pointer (some ⟨w.heap.size,0,none⟩)),.val (.int .u32 (v : Nat)),.val (.int .u32 (M : Nat)),.val (.pointer (some ⟨0,M,none⟩)),.val (.int .u32 (U : Nat)),.val (.int .u32 (X : Nat)),.val (.pointer (some ⟨w.heap.size,0,none⟩)),.any][ix]?).getD (.any)) 43 10 rfl (by kernel_rfl) (by decide) (by decide) (by decide) (by decide) ?_ ?_
       ·refine ⟨?_,?_,?_,?_,?_,?_,?_,?_,?_,?_,trivial⟩
        ·intro a W hb0 hs hp hi; have hb := undrew hb0; clear hb0
         have t2 : sl a 2 = .pointer (some ⟨w.heap.size,0,none⟩) := hi 2 (by decide)
         refine ite_y rfl (wp_val (.pointer (some ⟨w.heap.size,0,none⟩)) ?_ ?_)
         ·simp only [execOp,eval_tmp,eval_const,t2]; simp [go_sem]
         ·exact ⟨_,rfl,Below.refl _ _,rfl⟩
        ·intro a W hb0 hs hp hi; have hb := undrew hb0; clear hb0
         have tt : sl a 29 = .pointer (some ⟨w.heap.size,0,none⟩) := hp 0 (by decide)
         have dd := (hb.cell (p := ⟨w.heap.size,0,none⟩) (lt_of_cell cb)).trans cb
         refine ite_y rfl (wp_val (.int .u32 (v : Nat)) ?_ ?_)
         ·simp only [execOp,eval_tmp,tt]; simp [go_sem,dd]
         ·exact ⟨_,rfl,Below.refl _ _,rfl⟩
        ·intro a W hb0 hs hp hi; have hb := undrew hb0; clear hb0
         have t30 : sl a 30 = .int .u32 (v : Nat) := hp 1 (by decide)
         refine ite_y rfl (wp_val (.int .u32 ((v : Int) / 16)) ?_ ?_)
         ·simp only [execOp,eval_tmp,eval_const,t30]; simp [go_sem]
         ·exact ⟨_,rfl,Below.refl _ _,rfl⟩
        ·intro a W hb0 hs hp hi; have hb := undrew hb0; clear hb0
         have t2 : sl a 2 = .pointer (some ⟨w.heap.size,0,none⟩) := hi 2 (by decide)
         refine ite_y rfl (wp_val (.pointer (some ⟨w.heap.size,0,none⟩)) ?_ ?_)
         ·simp only [execOp,eval_tmp,eval_const,t2]; simp [go_sem]
         ·exact ⟨_,rfl,Below.refl _ _,rfl⟩
        ·intro a W hb0 hs hp hi; have hb := undrew hb0; clear hb0
         have tt : sl a 32 = .pointer (some ⟨w.heap.size,0,none⟩) := hp 3 (by decide)
         have dd := (hb.cell (p := ⟨w.heap.size,0,none⟩) (lt_of_cell cb)).trans cb
         refine ite_y rfl (wp_val (.int .u32 (v : Nat)) ?_ ?_)
         ·simp only [execOp,eval_tmp,tt]; simp [go_sem,dd]
         ·exact ⟨_,rfl,Below.refl _ _,rfl⟩
        ·intro a W hb0 hs hp hi; have hb := undrew hb0; clear hb0
         have t33 : sl a 33 = .int .u32 (v : Nat) := hp 4 (by decide)
         refine ite_y rfl (wp_val (.int .u32 (M : Nat)) ?_ ?_)
         ·simp only [execOp,eval_tmp,eval_const,t33]; simp [go_sem,hand]
         ·exact ⟨_,rfl,Below.refl _ _,rfl⟩
        ·intro a W hb0 hs hp hi; have hb := undrew hb0; clear hb0
         have tt : sl a 34 = .int .u32 (M : Nat) := hp 5 (by decide)
         refine ite_y rfl (wp_val (.pointer (some ⟨0,M,none⟩)) ?_ ?_)
         ·simp only [execOp,eval_tmp,BigFrame.eval_global,tt]; simp [go_sem,hm16]
         ·exact ⟨_,rfl,Below.refl _ _,rfl⟩
        ·intro a W hb0 hs hp hi; have hb := undrew hb0; clear hb0
         have tt : sl a 35 = .pointer (some ⟨0,M,none⟩) := hp 6 (by decide)
         have dd := (hb.cell (p := ⟨0,M,none⟩) (lt_of_cell hTc)).trans hTc
         refine ite_y rfl (wp_val (.int .u32 (U : Nat)) ?_ ?_)
         ·simp only [execOp,eval_tmp,tt]; simp [go_sem,dd]
         ·exact ⟨_,rfl,Below.refl _ _,rfl⟩
        ·intro a W hb0 hs hp hi; have hb := undrew hb0; clear hb0
         have t31 : sl a 31 = .int .u32 ((v : Int) / 16) := hp 2 (by decide)
         have t36 : sl a 36 = .int .u32 (U : Nat) := hp 7 (by decide)
         refine ite_y rfl (wp_val (.int .u32 (X : Nat)) ?_ ?_)
         ·simp only [execOp,eval_tmp,eval_const,t31,t36]; simp [go_sem,hxo]
         ·exact ⟨_,rfl,Below.refl _ _,rfl⟩
        ·intro a W hb0 hs hp hi; have hb := undrew hb0; clear hb0
         have t2 : sl a 2 = .pointer (some ⟨w.heap.size,0,none⟩) := hi 2 (by decide)
         refine ite_y rfl (wp_val (.pointer (some ⟨w.heap.size,0,none⟩)) ?_ ?_)
         ·simp only [execOp,eval_tmp,eval_const,t2]; simp [go_sem]
         ·exact ⟨_,rfl,Below.refl _ _,rfl⟩
       intro a w9 o ho hb hs hd hI ht
       have ha := act_is [29,30,31,32,33,34,35,36,37,38] hs hd ht (by decide)
       simp at ho; subst ho
       have t37 : sl a 37 = .int .u32 (X : Nat) := hI 8 (by decide)
       have t38 : sl a 38 = .pointer (some ⟨w.heap.size,0,none⟩) := hI 9 (by decide)
       have c9 := (hb.cell (p := ⟨w.heap.size,0,none⟩) (lt_of_cell cb)).trans cb
       have z9 : w9.frozen? ⟨w.heap.size,0,none⟩ = false := frozen_of_row _ _ 0 _ _ ((hb.block _ (lt_of_block hS4.out.b)).trans hS4.out.b)
       have HS5 : Hid (RS 270 w X (w9.setCell ⟨w.heap.size,0,none⟩ (.int .u32 (X : Nat)))) := (hS4.out.keep hb).set X
       refine wp_skip_none rfl (w' := w9.setCell ⟨w.heap.size,0,none⟩ (.int .u32 (X : Nat))) ?_ ?_
       ·simp only [execOp,eval_tmp,t37,t38]; simp [go_sem,c9,z9]
       simp only [List.foldl,t37,t38] at ha
       generalize sl a 29 = u29 at ha
       generalize sl a 30 = u30 at ha
       generalize sl a 31 = u31 at ha
       generalize sl a 32 = u32 at ha
       generalize sl a 33 = u33 at ha
       generalize sl a 34 = u34 at ha
       generalize sl a 35 = u35 at ha
       generalize sl a 36 = u36 at ha
       simp only [Act.put,List.setIfInBounds_toArray,List.set_cons_zero,List.set_cons_succ] at ha
       rw [ha]; clear ha hI ht hs hd t37 t38 c9 z9 hb
       go_wp2
       go_roundw
       case rel => exact ⟨l + 1,X,by omega,by go_num,hvl,by
        rcases hor.out with ⟨rfl,rfl⟩ | ⟨rfl,rfl⟩ | ⟨rfl,rfl⟩
        ·exact Or.inr (Or.inl ⟨rfl,hXe.out.symm⟩)
        ·exact Or.inr (Or.inr ⟨rfl,hXe.out.symm⟩)
        ·omega,HS5⟩
       case measure => simp [intOf]; omega
      ·have hl2' : l = 2 := by omega
       subst hl2'
       have HV : v = G (j + 1) := by
        rcases hor.out with ⟨h1,_⟩ | ⟨h1,_⟩ | ⟨_,h1⟩
        ·omega
        ·omega
        ·rw [GS2.out,h1]
       clear hor
       go_wp2
       go_roundw
       case rel => exact ⟨j + 1,by omega,by go_num,by rw [← HV]; exact hS4⟩
       case measure => simp [intOf]; omega
    ·have hjm' : j = m := by omega
     subst hjm'
     go_wp2
     go_roundw
     case rel => exact ⟨k + 1,by omega,by go_num,by rw [← GN.out]; exact hS2⟩
     case measure => simp [intOf]; omega
  ·have hkn : k = n := by omega
   subst hkn
   obtain ⟨cb,zb,cr,zr⟩ := hS.out.cells
   have hinfo := info_run
   go_wp2
   exact bodyPost_ret (results_cell_row rfl _ _ _ 270 #[.int .u32 (F k : Nat)] (0,0) _ rfl (hss hS.out.c) Tryz.underlying270 rfl hinfo) rfl ⟨rfl,hS.out.below.setCell (Nat.le_succ _) _⟩
end Go.Proofs.YtfbmdlfkipipfaaGreatDoor
namespace Go.Proofs.YtfbmdlfkipipfaaGreatDoor
open Go.RowKit Go.By
set_option maxHeartbeats 1000000 in
theorem SOf_any (p : Option Addr) (n c : Nat) (xss : List (List UInt8)) (w : World) (h : Sl2 w p n c xss) (hT : HalfT w) :
  Calls Tryz.prog 129 #[.slice p n c] w fun e w' => e = .returned (.int .u32 (crcS xss.flatten : Nat)) ∧ Below w.heap.size w w' := by
 have H := Lib.hid h
 have HT := Lib.hid hT
 have HL : Hid (crcRun 4294967295 xss.flatten < 4294967296) := crcRun_lt (by decide)
 clear h hT
 go_enter Tryz.func129,Tryz.ntmps129
 go_wp2_with fail
 refine Calls.mono (SStart_any w) ?_
 rintro e w1 ⟨rfl,hb1⟩
 go_wp2_with fail
 refine Calls.mono (SWith_any 4294967295 (by decide) p n c xss w1 (H.out.keep hb1) (HT.out.keep hb1)) ?_
 rintro e w2 ⟨rfl,hb2⟩
 have HB := Lib.hid (bl hb1 hb2 hb1.size)
 clear hb1 hb2
 go_wp2_with fail
 refine Calls.mono (SSum_any _ HL.out w2) ?_
 rintro e w3 ⟨rfl,hb3⟩
 have HB3 := Lib.hid (bl HB.out hb3 HB.out.size)
 clear hb3
 go_wp2
 go_ret
 exact ⟨rfl,HB3.out⟩
set_option maxRecDepth 100000 in
set_option maxHeartbeats 2000000 in
theorem SGet_any (p : Option Addr) (n c : Nat) (xs : List UInt8) (w : World) (h : Sl B8 w p n c xs) :
  Calls Tryz.prog 171 #[.slice p n c] w fun e w' => e = .returned (.tuple #[.int .u32 (get4 xs : Nat),.int .i64 (if n = 4 then 0 else 4)]) ∧ Below w.heap.size w w' := by
 have hn := h.bound
 by_cases h4 : n = 4
 ·subst h4
  obtain ⟨b,o,x0,rfl,k0,y0⟩ := h.at 0 (by omega)
  obtain ⟨_,_,x1,e1,k1,y1⟩ := h.at 1 (by omega)
  obtain ⟨_,_,x2,e2,k2,y2⟩ := h.at 2 (by omega)
  obtain ⟨_,_,x3,e3,k3,y3⟩ := h.at 3 (by omega)
  cases e1; cases e2; cases e3
  rw [Nat.add_zero] at k0
  have hl := h.len
  have hxs : xs = [x0,x1,x2,x3] := by
   match xs,hl,y0.out,y1.out,y2.out,y3.out with
   | [a,b,c,d],_,h0,h1,h2,h3 => simp at h0 h1 h2 h3; rw [h0,h1,h2,h3]
  subst hxs
  clear h hl y0 y1 y2 y3 hn
  rw [if_pos rfl]
  have l0 := x0.toNat_lt; have l1 := x1.toNat_lt; have l2 := x2.toNat_lt; have l3 := x3.toNat_lt
  have hG : Hid (get4 [x0,x1,x2,x3] = x0.toNat + 256 * x1.toNat + 65536 * x2.toNat + 16777216 * x3.toNat) := rfl
  have s1 : IntKind.u32.wrap ((x1.toNat : Int) * 256) = ((256 * x1.toNat : Nat) : Int) := by rw [IntKind.wrap_u32]; omega
  have s2 : IntKind.u32.wrap ((x2.toNat : Int) * 65536) = ((65536 * x2.toNat : Nat) : Int) := by rw [IntKind.wrap_u32]; omega
  have s3 : IntKind.u32.wrap ((x3.toNat : Int) * 16777216) = ((16777216 * x3.toNat : Nat) : Int) := by rw [IntKind.wrap_u32]; omega
  have o1 : bits .or .u32 (x0.toNat : Int) ((256 * x1.toNat : Nat) : Int) = ((x0.toNat + 256 * x1.toNat : Nat) : Int) := by
   rw [bits_or32 (by omega) (by omega),Nat.or_comm,or_add (k := 8) (by omega) (by omega),Nat.add_comm]
  have o2 : bits .or .u32 ((x0.toNat + 256 * x1.toNat : Nat) : Int) ((65536 * x2.toNat : Nat) : Int) = ((x0.toNat + 256 * x1.toNat + 65536 * x2.toNat : Nat) : Int) := by
   rw [bits_or32 (by omega) (by omega),Nat.or_comm,or_add (k := 16) (by omega) (by omega),Nat.add_comm]
  have o3 : bits .or .u32 ((x0.toNat + 256 * x1.toNat + 65536 * x2.toNat : Nat) : Int) ((16777216 * x3.toNat : Nat) : Int) = ((x0.toNat + 256 * x1.toNat + 65536 * x2.toNat + 16777216 * x3.toNat : Nat) : Int) := by
   rw [bits_or32 (by omega) (by omega),Nat.or_comm,or_add (k := 24) (by omega) (by omega),Nat.add_comm]
  rw [hG.out]
  generalize hA1 : 256 * x1.toNat = a1 at *
  generalize hA2 : 65536 * x2.toNat = a2 at *
  generalize hA3 : 16777216 * x3.toNat = a3 at *
  generalize hB1 : x0.toNat + a1 = b1 at *
  generalize hB2 : b1 + a2 = b2 at *
  generalize hB3 : b2 + a3 = b3 at *
  clear hA1 hA2 hA3 hB1 hB2 hB3 hG
  go_enter Tryz.func171,Tryz.ntmps171
  go_wp2_with fail
  refine wp_region_shapes (fun ix => ([.val (.slice (some ⟨b,o,none⟩) 4 c),.val (.pointer (some ⟨b,o,none⟩)),.val (B8 x0),.val (.int .u32 (x0.toNat : Nat)),.val (.slice (some ⟨b,o,none⟩) 4 c),.val (.pointer (some ⟨b,o + 1,none⟩)),.val (B8 x1),.val (.int .u32 (x1.toNat : Nat)),.val (.int .u32 (a1 : Nat)),.val (.int .u32 (b1 : Nat)),.val (.slice (some ⟨b,o,none⟩) 4 c),.val (.pointer (some ⟨b,o + 2,none⟩)),.val (B8 x2),.val (.int .u32 (x2.toNat : Nat)),.val (.int .u32 (a2 : Nat)),.val (.int .u32 (b2 : Nat)),.val (.slice (some ⟨b,o,none⟩) 4 c),.val (.pointer (some ⟨b,o + 3,none⟩)),.val (B8 x3),.val (.int .u32 (x3.toNat : Nat)),.val (.int .u32 (a3 : Nat)),.val (.int .u32 (b3 : Nat)),.val (.int .u32 (b3 : Nat)),.val (.int .i64 0)][ix]?).getD (.any)) 29 rfl (by kernel_rfl) (by decide) (by decide) (by decide) ?_ ?_
  ·refine ⟨?_,?_,?_,?_,?_,?_,?_,?_,?_,?_,?_,?_,?_,?_,?_,?_,?_,?_,?_,?_,?_,?_,?_,?_,trivial⟩
   ·intro a W hb0 hs hp hi; have hb := undrew hb0; clear hb0
    have t0 : sl a 0 = .slice (some ⟨b,o,none⟩) 4 c := hi 0 (by decide)
    exact ite_y rfl (wp_val (sl a 0) rfl ⟨_,rfl,Below.refl _ _,t0⟩)
   ·intro a W hb0 hs hp hi; have hb := undrew hb0; clear hb0
    have ti0 : sl a 7 = .slice (some ⟨b,o,none⟩) 4 c := hp 0 (by decide)
    refine ite_y rfl (wp_val (.pointer (some ⟨b,o,none⟩)) ?_ ?_)
    ·simp only [execOp,eval_tmp,eval_const,ti0]; simp [go_sem]
    ·exact ⟨_,rfl,Below.refl _ _,rfl⟩
   ·intro a W hb0 hs hp hi; have hb := undrew hb0; clear hb0
    have tt : sl a 8 = .pointer (some ⟨b,o,none⟩) := hp 1 (by decide)
    have dd := (hb.cell (p := ⟨b,o,none⟩) (lt_of_cell k0)).trans k0
    refine ite_y rfl (wp_val (B8 x0) ?_ ?_)
    ·simp only [execOp,eval_tmp,tt]; simp [go_sem,dd]
    ·exact ⟨_,rfl,Below.refl _ _,rfl⟩
   ·intro a W hb0 hs hp hi; have hb := undrew hb0; clear hb0
    have tt : sl a 9 = B8 x0 := hp 2 (by decide)
    refine ite_y rfl (wp_val (.int .u32 (x0.toNat : Nat)) ?_ ?_)
    ·simp only [execOp,eval_tmp,tt]; simp [go_sem,Tryz.underlying5,Tryz.underlying23,show IntKind.u32.wrap (x0.toNat : Int) = x0.toNat by rw [IntKind.wrap_u32]; omega]
    ·exact ⟨_,rfl,Below.refl _ _,rfl⟩
   ·intro a W hb0 hs hp hi; have hb := undrew hb0; clear hb0
    have t0 : sl a 0 = .slice (some ⟨b,o,none⟩) 4 c := hi 0 (by decide)
    exact ite_y rfl (wp_val (sl a 0) rfl ⟨_,rfl,Below.refl _ _,t0⟩)
   ·intro a W hb0 hs hp hi; have hb := undrew hb0; clear hb0
    have ti0 : sl a 11 = .slice (some ⟨b,o,none⟩) 4 c := hp 4 (by decide)
    refine ite_y rfl (wp_val (.pointer (some ⟨b,o + 1,none⟩)) ?_ ?_)
    ·simp only [execOp,eval_tmp,eval_const,ti0]; simp [go_sem]
    ·exact ⟨_,rfl,Below.refl _ _,rfl⟩
   ·intro a W hb0 hs hp hi; have hb := undrew hb0; clear hb0
    have tt : sl a 12 = .pointer (some ⟨b,o + 1,none⟩) := hp 5 (by decide)
    have dd := (hb.cell (p := ⟨b,o + 1,none⟩) (lt_of_cell k1)).trans k1
    refine ite_y rfl (wp_val (B8 x1) ?_ ?_)
    ·simp only [execOp,eval_tmp,tt]; simp [go_sem,dd]
    ·exact ⟨_,rfl,Below.refl _ _,rfl⟩
   ·intro a W hb0 hs hp hi; have hb := undrew hb0; clear hb0
    have tt : sl a 13 = B8 x1 := hp 6 (by decide)
    refine ite_y rfl (wp_val (.int .u32 (x1.toNat : Nat)) ?_ ?_)
    ·simp only [execOp,eval_tmp,tt]; simp [go_sem,Tryz.underlying5,Tryz.underlying23,show IntKind.u32.wrap (x1.toNat : Int) = x1.toNat by rw [IntKind.wrap_u32]; omega]
    ·exact ⟨_,rfl,Below.refl _ _,rfl⟩
   ·intro a W hb0 hs hp hi; have hb := undrew hb0; clear hb0
    have t14 : sl a 14 = .int .u32 (x1.toNat : Nat) := hp 7 (by decide)
    refine ite_y rfl (wp_val (.int .u32 (a1 : Nat)) ?_ ?_)
    ·simp only [execOp,eval_tmp,eval_const,t14]; simp [go_sem,s1]
    ·exact ⟨_,rfl,Below.refl _ _,rfl⟩
   ·intro a W hb0 hs hp hi; have hb := undrew hb0; clear hb0
    have t10 : sl a 10 = .int .u32 (x0.toNat : Nat) := hp 3 (by decide)
    have t15 : sl a 15 = .int .u32 (a1 : Nat) := hp 8 (by decide)
    refine ite_y rfl (wp_val (.int .u32 (b1 : Nat)) ?_ ?_)
    ·simp only [execOp,eval_tmp,eval_const,t10,t15]; simp [go_sem,o1]
    ·exact ⟨_,rfl,Below.refl _ _,rfl⟩
   ·intro a W hb0 hs hp hi; have hb := undrew hb0; clear hb0
    have t0 : sl a 0 = .slice (some ⟨b,o,none⟩) 4 c := hi 0 (by decide)
    exact ite_y rfl (wp_val (sl a 0) rfl ⟨_,rfl,Below.refl _ _,t0⟩)
   ·intro a W hb0 hs hp hi; have hb := undrew hb0; clear hb0
    have ti0 : sl a 17 = .slice (some ⟨b,o,none⟩) 4 c := hp 10 (by decide)
    refine ite_y rfl (wp_val (.pointer (some ⟨b,o + 2,none⟩)) ?_ ?_)
    ·simp only [execOp,eval_tmp,eval_const,ti0]; simp [go_sem]
    ·exact ⟨_,rfl,Below.refl _ _,rfl⟩
   ·intro a W hb0 hs hp hi; have hb := undrew hb0; clear hb0
    have tt : sl a 18 = .pointer (some ⟨b,o + 2,none⟩) := hp 11 (by decide)
    have dd := (hb.cell (p := ⟨b,o + 2,none⟩) (lt_of_cell k2)).trans k2
    refine ite_y rfl (wp_val (B8 x2) ?_ ?_)
    ·simp only [execOp,eval_tmp,tt]; simp [go_sem,dd]
    ·exact ⟨_,rfl,Below.refl _ _,rfl⟩
   ·intro a W hb0 hs hp hi; have hb := undrew hb0; clear hb0
    have tt : sl a 19 = B8 x2 := hp 12 (by decide)
    refine ite_y rfl (wp_val (.int .u32 (x2.toNat : Nat)) ?_ ?_)
    ·simp only [execOp,eval_tmp,tt]; simp [go_sem,Tryz.underlying5,Tryz.underlying23,show IntKind.u32.wrap (x2.toNat : Int) = x2.toNat by rw [IntKind.wrap_u32]; omega]
    ·exact ⟨_,rfl,Below.refl _ _,rfl⟩
   ·intro a W hb0 hs hp hi; have hb := undrew hb0; clear hb0
    have t20 : sl a 20 = .int .u32 (x2.toNat : Nat) := hp 13 (by decide)
    refine ite_y rfl (wp_val (.int .u32 (a2 : Nat)) ?_ ?_)
    ·simp only [execOp,eval_tmp,eval_const,t20]; simp [go_sem,s2]
    ·exact ⟨_,rfl,Below.refl _ _,rfl⟩
   ·intro a W hb0 hs hp hi; have hb := undrew hb0; clear hb0
    have t16 : sl a 16 = .int .u32 (b1 : Nat) := hp 9 (by decide)
    have t21 : sl a 21 = .int .u32 (a2 : Nat) := hp 14 (by decide)
    refine ite_y rfl (wp_val (.int .u32 (b2 : Nat)) ?_ ?_)
    ·simp only [execOp,eval_tmp,eval_const,t16,t21]; simp [go_sem,o2]
    ·exact ⟨_,rfl,Below.refl _ _,rfl⟩
   ·intro a W hb0 hs hp hi; have hb := undrew hb0; clear hb0
    have t0 : sl a 0 = .slice (some ⟨b,o,none⟩) 4 c := hi 0 (by decide)
    exact ite_y rfl (wp_val (sl a 0) rfl ⟨_,rfl,Below.refl _ _,t0⟩)
   ·intro a W hb0 hs hp hi; have hb := undrew hb0; clear hb0
    have ti0 : sl a 23 = .slice (some ⟨b,o,none⟩) 4 c := hp 16 (by decide)
    refine ite_y rfl (wp_val (.pointer (some ⟨b,o + 3,none⟩)) ?_ ?_)
    ·simp only [execOp,eval_tmp,eval_const,ti0]; simp [go_sem]
    ·exact ⟨_,rfl,Below.refl _ _,rfl⟩
   ·intro a W hb0 hs hp hi; have hb := undrew hb0; clear hb0
    have tt : sl a 24 = .pointer (some ⟨b,o + 3,none⟩) := hp 17 (by decide)
    have dd := (hb.cell (p := ⟨b,o + 3,none⟩) (lt_of_cell k3)).trans k3
    refine ite_y rfl (wp_val (B8 x3) ?_ ?_)
    ·simp only [execOp,eval_tmp,tt]; simp [go_sem,dd]
    ·exact ⟨_,rfl,Below.refl _ _,rfl⟩
   ·intro a W hb0 hs hp hi; have hb := undrew hb0; clear hb0
    have tt : sl a 25 = B8 x3 := hp 18 (by decide)
    refine ite_y rfl (wp_val (.int .u32 (x3.toNat : Nat)) ?_ ?_)
    ·simp only [execOp,eval_tmp,tt]; simp [go_sem,Tryz.underlying5,Tryz.underlying23,show IntKind.u32.wrap (x3.toNat : Int) = x3.toNat by rw [IntKind.wrap_u32]; omega]
    ·exact ⟨_,rfl,Below.refl _ _,rfl⟩
   ·intro a W hb0 hs hp hi; have hb := undrew hb0; clear hb0
    have t26 : sl a 26 = .int .u32 (x3.toNat : Nat) := hp 19 (by decide)
    refine ite_y rfl (wp_val (.int .u32 (a3 : Nat)) ?_ ?_)
    ·simp only [execOp,eval_tmp,eval_const,t26]; simp [go_sem,s3]
    ·exact ⟨_,rfl,Below.refl _ _,rfl⟩
   ·intro a W hb0 hs hp hi; have hb := undrew hb0; clear hb0
    have t22 : sl a 22 = .int .u32 (b2 : Nat) := hp 15 (by decide)
    have t27 : sl a 27 = .int .u32 (a3 : Nat) := hp 20 (by decide)
    refine ite_y rfl (wp_val (.int .u32 (b3 : Nat)) ?_ ?_)
    ·simp only [execOp,eval_tmp,eval_const,t22,t27]; simp [go_sem,o3]
    ·exact ⟨_,rfl,Below.refl _ _,rfl⟩
   ·intro a W hb0 hs hp hi; have hb := undrew hb0; clear hb0
    have t28 : sl a 28 = .int .u32 (b3 : Nat) := hp 21 (by decide)
    exact ite_y rfl (wp_val (sl a 28) rfl ⟨_,rfl,Below.refl _ _,t28⟩)
   ·intro a W hb0 hs hp hi; have hb := undrew hb0; clear hb0
    exact ite_y rfl (wp_val (.int .i64 0) rfl ⟨_,rfl,Below.refl _ _,rfl⟩)
  intro a w9 hb hs hd hI ht
  have ha := act_is [7,8,9,10,11,12,13,14,15,16,17,18,19,20,21,22,23,24,25,26,27,28,2,3] hs hd ht (by decide)
  have t2 : sl a 2 = .int .u32 (b3 : Nat) := hI 22 (by decide)
  have t3 : sl a 3 = .int .i64 0 := hI 23 (by decide)
  simp only [List.foldl,t2,t3] at ha
  generalize sl a 7 = u7 at ha
  generalize sl a 8 = u8 at ha
  generalize sl a 9 = u9 at ha
  generalize sl a 10 = u10 at ha
  generalize sl a 11 = u11 at ha
  generalize sl a 12 = u12 at ha
  generalize sl a 13 = u13 at ha
  generalize sl a 14 = u14 at ha
  generalize sl a 15 = u15 at ha
  generalize sl a 16 = u16 at ha
  generalize sl a 17 = u17 at ha
  generalize sl a 18 = u18 at ha
  generalize sl a 19 = u19 at ha
  generalize sl a 20 = u20 at ha
  generalize sl a 21 = u21 at ha
  generalize sl a 22 = u22 at ha
  generalize sl a 23 = u23 at ha
  generalize sl a 24 = u24 at ha
  generalize sl a 25 = u25 at ha
  generalize sl a 26 = u26 at ha
  generalize sl a 27 = u27 at ha
  generalize sl a 28 = u28 at ha
  simp only [Act.put,List.setIfInBounds_toArray,List.set_cons_zero,List.set_cons_succ] at ha
  rw [ha]
  clear ha hI ht
  go_wp2
  go_ret2
  exact ⟨rfl,hb⟩
 ·have hG : get4 xs = 0 := by
   have hl := h.len
   unfold get4; split
   ·simp at hl; omega
   ·rfl
  rw [hG,if_neg h4]
  have h4' : ¬ ((n : Int) = 4) := by omega
  clear hG h
  go_enter Tryz.func171,Tryz.ntmps171
  go_wp2
  go_ret2
  exact ⟨rfl,Below.refl _ _⟩
end Go.Proofs.YtfbmdlfkipipfaaGreatDoor
namespace Go.By
open Go.RowKit
theorem sl2_three {W : World} {g T : Nat} {fr : Nat × Nat} {p1 p2 p3 : Option Addr} {n1 n2 n3 c1 c2 c3 : Nat} {xs ys zs : List UInt8} (hW : W.heap[g]? = some (.cells #[.slice p1 n1 c1,.slice p2 n2 c2,.slice p3 n3 c3] T fr)) (h1 : Sl B8 W p1 n1 c1 xs) (h2 : Sl B8 W p2 n2 c2 ys) (h3 : Sl B8 W p3 n3 c3 zs) :
  Sl2 W (some ⟨g,0,none⟩) 3 3 [xs,ys,zs] := by
 refine sl2_block [xs,ys,zs] 3 hW rfl rfl (by simp [maxLen]) ?_
 intro i u hi
 match i,hi with
 | 0,hi => simp at hi; subst hi; exact ⟨p1,n1,c1,rfl,h1⟩
 | 1,hi => simp at hi; subst hi; exact ⟨p2,n2,c2,rfl,h2⟩
 | 2,hi => simp at hi; subst hi; exact ⟨p3,n3,c3,rfl,h3⟩
theorem sl2_four {W : World} {g T : Nat} {fr : Nat × Nat} {p1 p2 p3 p4 : Option Addr} {n1 n2 n3 n4 c1 c2 c3 c4 : Nat} {xs ys zs us : List UInt8} (hW : W.heap[g]? = some (.cells #[.slice p1 n1 c1,.slice p2 n2 c2,.slice p3 n3 c3,.slice p4 n4 c4] T fr)) (h1 : Sl B8 W p1 n1 c1 xs) (h2 : Sl B8 W p2 n2 c2 ys) (h3 : Sl B8 W p3 n3 c3 zs) (h4 : Sl B8 W p4 n4 c4 us) :
  Sl2 W (some ⟨g,0,none⟩) 4 4 [xs,ys,zs,us] := by
 refine sl2_block [xs,ys,zs,us] 4 hW rfl rfl (by simp [maxLen]) ?_
 intro i u hi
 match i,hi with
 | 0,hi => simp at hi; subst hi; exact ⟨p1,n1,c1,rfl,h1⟩
 | 1,hi => simp at hi; subst hi; exact ⟨p2,n2,c2,rfl,h2⟩
 | 2,hi => simp at hi; subst hi; exact ⟨p3,n3,c3,rfl,h3⟩
 | 3,hi => simp at hi; subst hi; exact ⟨p4,n4,c4,rfl,h4⟩
theorem sl2_one {W : World} {g T : Nat} {fr : Nat × Nat} {p1 : Option Addr} {n1 c1 : Nat} {xs : List UInt8} (hW : W.heap[g]? = some (.cells #[.slice p1 n1 c1] T fr)) (h1 : Sl B8 W p1 n1 c1 xs) :
  Sl2 W (some ⟨g,0,none⟩) 1 1 [xs] := by
 refine sl2_block [xs] 1 hW rfl rfl (by simp [maxLen]) ?_
 intro i u hi
 match i,hi with
 | 0,hi => simp at hi; subst hi; exact ⟨p1,n1,c1,rfl,h1⟩
theorem cells_three {w : World} {b T : Nat} {u v x : Value} (h : w.heap[b]? = some (.cells #[u,v,x] T (0,0))) : w.cell? ⟨b,0,none⟩ = some u ∧ w.cell? ⟨b,1,none⟩ = some v ∧ w.cell? ⟨b,2,none⟩ = some x :=
 ⟨cell_of_row _ _ 0 _ _ _ h,cell_of_row _ _ 1 _ _ _ h,cell_of_row _ _ 2 _ _ _ h⟩
theorem cells_four {w : World} {b T : Nat} {u v x y : Value} (h : w.heap[b]? = some (.cells #[u,v,x,y] T (0,0))) : w.cell? ⟨b,0,none⟩ = some u ∧ w.cell? ⟨b,1,none⟩ = some v ∧ w.cell? ⟨b,2,none⟩ = some x ∧ w.cell? ⟨b,3,none⟩ = some y :=
 ⟨cell_of_row _ _ 0 _ _ _ h,cell_of_row _ _ 1 _ _ _ h,cell_of_row _ _ 2 _ _ _ h,cell_of_row _ _ 3 _ _ _ h⟩
theorem cells_five {w : World} {b T : Nat} {u v x y z : Value} (h : w.heap[b]? = some (.cells #[u,v,x,y,z] T (0,0))) : w.cell? ⟨b,0,none⟩ = some u ∧ w.cell? ⟨b,1,none⟩ = some v ∧ w.cell? ⟨b,2,none⟩ = some x ∧ w.cell? ⟨b,3,none⟩ = some y ∧ w.cell? ⟨b,4,none⟩ = some z :=
 ⟨cell_of_row _ _ 0 _ _ _ h,cell_of_row _ _ 1 _ _ _ h,cell_of_row _ _ 2 _ _ _ h,cell_of_row _ _ 3 _ _ _ h,cell_of_row _ _ 4 _ _ _ h⟩
theorem below_row {B g : Nat} {a w : World} {cs : Array Value} (h : Below B a w) (hg : B ≤ g) : Below B a (w.setRow g cs) := by
 refine ⟨h.os,h.tape,h.output,?_,fun i hi => ?_⟩
 ·have := h.size; simpa [World.setRow] using this
 ·rw [← h.block i hi]
  simp only [World.setRow,Array.getElem?_modify]
  rw [if_neg (by omega)]
theorem cell_setRow {w : World} {b o g : Nat} {v : Value} {cs : Array Value} (h : w.cell? ⟨b,o,none⟩ = some v) (hne : b ≠ g) : (w.setRow g cs).cell? ⟨b,o,none⟩ = some v := by
 refine (World.cell?_of_block (a := ⟨b,o,none⟩) ?_).trans h
 simp only [World.setRow,Array.getElem?_modify]
 rw [if_neg (by omega)]
theorem sl_setRow {α : Type} {enc : α → Value} {w : World} {p : Option Addr} {n c g : Nat} {xs : List α} {cs : Array Value} (h : Sl enc w p n c xs) (hne : ∀ a,p = some a → a.block ≠ g) : Sl enc (w.setRow g cs) p n c xs :=
 ⟨h.len,h.le,h.max,h.nil,fun i hi => by
  obtain ⟨b,o,e,hc⟩ := h.rs i hi
  exact ⟨b,o,e,cell_setRow hc (hne _ e)⟩⟩
def NewP (B : Nat) (q : Option Addr) : Prop := ∀ a,q = some a → B ≤ a.block
structure Fresh (T : TypeId) (B : Nat) (w : World) (q : Option Addr) (n c : Nat) (xs : List UInt8) : Prop where
 sl : Sl B8 w q n c xs
 new : NewP B q
 ty : ∀ a,q = some a → ∃ cs fr,w.heap[a.block]? = some (.cells cs T fr)
theorem Fresh.of_owns {T : TypeId} {B : Nat} {w : World} {q : Option Addr} {n c : Nat} {xs : List UInt8} (h : w.ownsRow B T 1 (.slice q n c) n (xs.map B8)) : Fresh T B w q n c xs := by
 refine ⟨Sl.of_owns h,fun a ha => (owns_new h a ha).1,fun a ha => ?_⟩
 rcases h.2 with ⟨h2,_⟩ | ⟨g,cap,cur,hv,_,hh,_⟩
 ·subst ha; cases h2
 ·subst ha; cases hv; exact ⟨_,_,hh⟩
theorem Fresh.none (T : TypeId) (B : Nat) (w : World) : Fresh T B w none 0 0 [] := ⟨Sl.nil0 _ _,fun a ha => (by cases ha),fun a ha => (by cases ha)⟩
theorem Fresh.keep {T : TypeId} {B : Nat} {w w' : World} {q : Option Addr} {n c : Nat} {xs : List UInt8} (h : Fresh T B w q n c xs) (hb : Below w.heap.size w w') : Fresh T B w' q n c xs :=
 ⟨h.sl.keep hb,h.new,fun a ha => by obtain ⟨cs,fr,e⟩ := h.ty a ha; exact ⟨cs,fr,(hb.block _ (lt_of_block e)).trans e⟩⟩
theorem Fresh.mono {T : TypeId} {B B' : Nat} {w : World} {q : Option Addr} {n c : Nat} {xs : List UInt8} (h : Fresh T B w q n c xs) (hB : B' ≤ B) : Fresh T B' w q n c xs := ⟨h.sl,fun a ha => Nat.le_trans hB (h.new a ha),h.ty⟩
theorem Fresh.row {T T' : TypeId} {B g : Nat} {w : World} {q : Option Addr} {n c : Nat} {xs : List UInt8} {cs old : Array Value} {fr : Nat × Nat} (h : Fresh T B w q n c xs) (hg : w.heap[g]? = some (.cells old T' fr)) (hne : T' ≠ T) : Fresh T B (w.setRow g cs) q n c xs := by
 have hd : ∀ a,q = some a → a.block ≠ g := fun a ha e => by
  obtain ⟨c2,f2,e2⟩ := h.ty a ha
  rw [e,hg] at e2
  injection e2 with e2
  injection e2 with _ e3 _
  exact hne e3
 exact ⟨sl_setRow h.sl hd,h.new,fun a ha => by obtain ⟨c2,f2,e2⟩ := h.ty a ha; exact ⟨c2,f2,hro e2 (hd a ha)⟩⟩
theorem one_of {w w1 : World} {A : Obj} (hb : Below (w.alloc A).heap.size (w.alloc A) w1) : Below w.heap.size w w1 ∧ w1.heap[w.heap.size]? = some A ∧ w.heap.size + 1 ≤ w1.heap.size :=
 ⟨(al (Below.refl _ _) (Nat.le_refl _)).trans (hb.mono (by simp)),(hb.block _ (by simp)).trans (hnew rfl),by have := hb.size; simpa using this⟩
theorem two_of {w w1 : World} {A B : Obj} (hb : Below ((w.alloc A).alloc B).heap.size ((w.alloc A).alloc B) w1) : Below w.heap.size w w1 ∧ w1.heap[w.heap.size]? = some A ∧ w1.heap[w.heap.size + 1]? = some B ∧ w.heap.size + 2 ≤ w1.heap.size :=
 ⟨(al (al (Below.refl _ _) (Nat.le_refl _)) (by simp)).trans (hb.mono (by simp; omega)),(hb.block _ (by simp; omega)).trans (hal (hnew rfl)),(hb.block _ (by simp)).trans (hnew (by simp)),by have := hb.size; simp at this; omega⟩
theorem Sl.part {α : Type} {enc : α → Value} {w : World} {b o n c k m : Nat} {xs : List α} (h : Sl enc w (some ⟨b,o,none⟩) n c xs) (hk : k + m ≤ n) : Sl enc w (some ⟨b,o + k,none⟩) m (c - k) ((xs.drop k).take m) := by
 have h1 := h.len; have h2 := h.le; have h3 := h.max
 refine ⟨by simp; omega,by omega,by omega,fun hp => (by cases hp),?_⟩
 intro i hi
 simp at hi
 obtain ⟨b',o',e,hc⟩ := h.rs (k + i) (by omega)
 cases e
 refine ⟨_,_,rfl,?_⟩
 rw [Nat.add_assoc,hc]
 simp
theorem Sl.tail {α : Type} {enc : α → Value} {w : World} {b o n c : Nat} {xs : List α} (k : Nat) (h : Sl enc w (some ⟨b,o,none⟩) n c xs) (hk : k ≤ n) : Sl enc w (if c = k then some ⟨b,o,none⟩ else some ⟨b,o + k,none⟩) (n - k) (c - k) (xs.drop k) := by
 have h1 := h.len; have h2 := h.le; have h3 := h.max
 refine ⟨by simp; omega,by omega,by omega,fun hp => (by split at hp <;> cases hp),?_⟩
 intro i hi
 simp at hi
 rw [if_neg (by omega)]
 obtain ⟨b',o',e,hc⟩ := h.rs (k + i) (by omega)
 cases e
 refine ⟨_,_,rfl,?_⟩
 rw [Nat.add_assoc,hc]
 simp
theorem Sl.read {α : Type} {enc : α → Value} {w : World} {p : Option Addr} {n c : Nat} {xs ys : List α} (h : Sl enc w p n c xs) (e : xs = ys) : Sl enc w p n c ys := e ▸ h
theorem Sl.has {α : Type} {enc : α → Value} {w : World} {p : Option Addr} {n c : Nat} {xs : List α} (h : Sl enc w p n c xs) (hn : 0 < n) : ∃ b o,p = some ⟨b,o,none⟩ ∧ b < w.heap.size := h.rs.lt (by rw [h.len]; exact hn)
def SRet (w : World) (ys : List UInt8) (code : Int) (e : Ending) (w' : World) : Prop :=
 ∃ q n c,e = .returned (.tuple #[.slice q n c,.int .i64 code]) ∧ Sl B8 w' q n c ys ∧ Below w.heap.size w w'
def SRet1 (w : World) (ys : List UInt8) (e : Ending) (w' : World) : Prop :=
 ∃ q n c,e = .returned (.slice q n c) ∧ Sl B8 w' q n c ys ∧ Below w.heap.size w w'
def SRetF (T : TypeId) (w : World) (ys : List UInt8) (code : Int) (e : Ending) (w' : World) : Prop :=
 ∃ q n c,e = .returned (.tuple #[.slice q n c,.int .i64 code]) ∧ Fresh T w.heap.size w' q n c ys ∧ Below w.heap.size w w'
theorem SRetF.ret {T : TypeId} {w w' : World} {ys : List UInt8} {code : Int} {e : Ending} (h : SRetF T w ys code e w') : SRet w ys code e w' := by
 obtain ⟨q,n,c,e,hf,hb⟩ := h
 exact ⟨q,n,c,e,hf.sl,hb⟩
theorem SRetF.nil (T : TypeId) (w w' : World) (code : Int) (hb : Below w.heap.size w w') : SRetF T w [] code (.returned (.tuple #[.slice none 0 0,.int .i64 code])) w' := ⟨none,0,0,rfl,Fresh.none _ _ _,hb⟩
theorem Fresh.block {T B g n : Nat} {w : World} {fr : Nat × Nat} {xs : List UInt8} (h : w.heap[g]? = some (.cells (xs.map B8).toArray T fr)) (hl : xs.length = n) (hn : n ≤ maxLen) (hg : B ≤ g) : Fresh T B w (some ⟨g,0,Option.none⟩) n n xs :=
 ⟨sl_block xs n h rfl hl hn,fun a ha => by cases ha; exact hg,fun a ha => by cases ha; exact ⟨_,_,h⟩⟩
theorem Fresh.read {T B n c : Nat} {w : World} {q : Option Addr} {xs ys : List UInt8} (h : Fresh T B w q n c xs) (e : xs = ys) : Fresh T B w q n c ys := e ▸ h
def FrT (T B : Nat) (ys : List UInt8) (v : Value) (w : World) : Prop := ∃ q n c,v = .slice q n c ∧ Fresh T B w q n c ys
def ShF (T B : Nat) (ys : List UInt8) : Shp := ⟨FrT T B ys,fun _ _ _ ⟨q,n,c,e,h⟩ hb => ⟨q,n,c,e,h.keep hb⟩⟩
def SRTF (T B : Nat) (ys : List UInt8) (code : Int) (v : Value) (w : World) : Prop := ∃ q n c,v = .tuple #[.slice q n c,.int .i64 code] ∧ Fresh T B w q n c ys
def ShSRF (T B : Nat) (ys : List UInt8) (code : Int) : Shp := ⟨SRTF T B ys code,fun _ _ _ ⟨q,n,c,e,h⟩ hb => ⟨q,n,c,e,h.keep hb⟩⟩
theorem SRet.nil (w w' : World) (code : Int) (hb : Below w.heap.size w w') : SRet w [] code (.returned (.tuple #[.slice none 0 0,.int .i64 code])) w' := ⟨none,0,0,rfl,Sl.nil0 _ _,hb⟩
theorem SRet1.of {T : TypeId} {w w' : World} {ys : List UInt8} {e : Ending} (h : RetB1 T w ys e w') : SRet1 w ys e w' := by
 obtain ⟨q,m,c,_,e,ho,hb⟩ := h
 exact ⟨q,m,c,e,Sl.of_owns ho,hb⟩
theorem SRet.of {T : TypeId} {w w' : World} {ys : List UInt8} {code : Int} {e : Ending} (h : RetB T w ys code e w') : SRet w ys code e w' := by
 obtain ⟨q,m,c,_,e,ho,hb⟩ := h
 exact ⟨q,m,c,e,Sl.of_owns ho,hb⟩
theorem res_ctt {P : Program} {fn : Func} {p u u2 : Tmp} {ty : TypeId} (h : fn.results = #[.cell p ty,.tmp u,.tmp u2]) (tmps : Array Value) (w : World) (g : Nat) (t : TypeId) (cs : Array Value) (fr : Nat × Nat) (d : TypeDesc) (v v2 : Value)
  (hp : tmps.getD p undef = .pointer (some ⟨g,0,none⟩)) (hg : w.heap[g]? = some (.cells cs t fr)) (hv : tmps.getD u undef = v) (hv2 : tmps.getD u2 undef = v2)
  (hu : P.underlying ty = some d) (hd : (match d with | .struct _ | .array _ _ => true | _ => false) = true) (hi : (P.info? ty).map (·.size) = some cs.size) :
  (results fn tmps).run P w = .ok (.tuple #[.agg cs,v,v2]) w := by
 have hp' : tmps[p]?.getD undef = .pointer (some ⟨g,0,none⟩) := by simpa using hp
 have hv' : tmps[u]?.getD undef = v := by simpa using hv
 have hv2' : tmps[u2]?.getD undef = v2 := by simpa using hv2
 simp [results,h,hp',hv',hv2',asAddr,run_loadVar_row w g t ty cs fr d hg hu hd hi]
theorem res_ct {P : Program} {fn : Func} {p u : Tmp} {ty : TypeId} (h : fn.results = #[.cell p ty,.tmp u]) (tmps : Array Value) (w : World) (g : Nat) (t : TypeId) (cs : Array Value) (fr : Nat × Nat) (d : TypeDesc) (v : Value)
  (hp : tmps.getD p undef = .pointer (some ⟨g,0,none⟩)) (hg : w.heap[g]? = some (.cells cs t fr)) (hv : tmps.getD u undef = v)
  (hu : P.underlying ty = some d) (hd : (match d with | .struct _ | .array _ _ => true | _ => false) = true) (hi : (P.info? ty).map (·.size) = some cs.size) :
  (results fn tmps).run P w = .ok (.tuple #[.agg cs,v]) w := by
 have hp' : tmps[p]?.getD undef = .pointer (some ⟨g,0,none⟩) := by simpa using hp
 have hv' : tmps[u]?.getD undef = v := by simpa using hv
 simp [results,h,hp',hv',asAddr,run_loadVar_row w g t ty cs fr d hg hu hd hi]
end Go.By
namespace Go.By
open Go.RowKit
theorem heap_of_ownsC {w : World} {base E g n : Nat} {L : List Value} (h : w.ownsRow base E 1 (.slice (some ⟨g,0,none⟩) n n) n L) : w.heap[g]? = some (.cells L.toArray E (0,0)) := by
 rcases h.2 with ⟨h1,_⟩ | ⟨g',cap,cur,hv,_,hh,_,_,hs,ht⟩
 ·cases h1
 ·cases hv
  rw [hh]
  have : cur = L.toArray := by
   rw [← ht,List.take_of_length_le (by simp [hs])]
  rw [this]
theorem grownBy_setRowC (w : World) (g : Nat) (cs : Array Value) : w.grownBy (w.setRow g cs) (some g) :=
 ⟨rfl,rfl,rfl,by simp [World.setRow],fun b _ hne => by
  simp only [World.setRow,Array.getElem?_modify]
  rw [if_neg (fun e => hne (by rw [e]))]⟩
theorem wp_make_bytesC {P : Program} (w : World) {o : Oper} {a : Act} {K : Act → World → Prop} {Q : Exit → Act → World → Prop} (hg : o.guard = none) (l c : Operand) (t : TypeId) (hop : o.op = Op.makeSlice t l c)
  (e : TypeId) (i : TypeInfo) (h1 : P.underlying t = some (.slice e)) (h2 : P.info? e = some i) (h3 : i.zero = some (.int .u8 0)) (h4 : i.size = 1) (h5 : i.bytes = 1) (n : Nat) (hl : a.eval l = .int .i64 n) (hc : a.eval c = .int .i64 n) (hn : n ≤ 65536)
  (hK : ∀ w' g,g = w.heap.size → w'.heap[g]? = some (.cells ((List.replicate n (0 : UInt8)).map B8).toArray e (0,0)) → Below w.heap.size w w' → K (a.put o.dst (.slice (some ⟨g,0,none⟩) n n)) w') : o.wp P a w K Q := by
 have _ := hg
 obtain ⟨w',hrun,r1,r2⟩ := run_make_full (P := P) w w.heap.size t e i (.int .u8 0) 1 h1 h2 h3 h4 .i64 .i64 n (by rw [h5]; omega) (by unfold maxLen; omega) (Nat.le_refl _)
 unfold Oper.wp
 simp [execOp,hop,hl,hc,hrun,Result.andThen]
 refine hK w' _ rfl ?_ ((Below.refl _ _).grown r2 (Nat.le_refl _) (by simp))
 have e1 : (madeCells #[Value.int .u8 0] n).toList = List.replicate n (B8 0) := toList_madeCells_one _ _
 have r3 : w'.ownsRow w.heap.size e 1 (.slice (some ⟨w.heap.size,0,none⟩) n n) n (List.replicate n (B8 0)) := by rw [← e1]; have r4 := r1; simp only [Nat.mul_one] at r4; exact r4
 rw [List.map_replicate]
 exact heap_of_ownsC r3
def fillC (bs src : List UInt8) : List UInt8 := src.take bs.length ++ bs.drop src.length
theorem fillS_lenC (bs src : List UInt8) : (fillC bs src).length = bs.length := by unfold fillC; rw [List.length_append,List.length_take,List.length_drop]; omega
theorem wpList_copy_bytesC {P : Program} (w : World) {ops : Array Oper} {rest : List Oper} {o : Oper} {a : Act} {Q : Exit → Act → World → Prop} (hgd : o.guard = none) (d s : Operand) (dT sT : TypeId)
  (ho : o.op = .call { callee := .builtin .copy,args := #[d,s],argTypes := #[dT,sT] }) (elem : TypeId) (hu : P.underlying dT = some (.slice elem)) (hsz : (P.info? elem).map (·.size) = some 1)
  (g n : Nat) (sp : Option Addr) (m c : Nat) (hd : a.eval d = .slice (some ⟨g,0,none⟩) n n) (hs : a.eval s = .slice sp m c) (bs src : List UInt8) (T : TypeId) (hg : w.heap[g]? = some (.cells (bs.map B8).toArray T (0,0))) (hl : bs.length = n) (hS : Sl B8 w sp m c src)
  (h : ∀ w' z,w'.heap[g]? = some (.cells ((fillC bs src).map B8).toArray T (0,0)) → w.grownBy w' (some g) → wpList P ops Q rest (a.put o.dst (goInt z)) w') : wpList P ops Q (o :: rest) a w := by
 have hm := hS.len
 by_cases h0 : Nat.min m n = 0
 ·refine wpList_copy_nothing hgd d s dT sT ho elem hu hsz _ sp n n m c hd hs h0 ?_
  refine h w 0 ?_ (World.grownBy.refl _ _)
  have e : fillC bs src = bs := by
   unfold fillC
   rcases Nat.eq_zero_or_pos m with h1 | h1
   ·have : src = [] := List.length_eq_zero_iff.1 (by omega)
    subst this; simp
   ·have h2 : n = 0 := by have h3 : min m n = 0 := h0; omega
    have : bs = [] := List.length_eq_zero_iff.1 (by omega)
    subst this; simp
  rw [e]; exact hg
 ·have h1 : 0 < m ∧ 0 < n := by have h3 : ¬ min m n = 0 := h0; omega
  obtain ⟨b,o',rfl,-⟩ := hS.rs 0 (by omega)
  refine wpList_copy_own hgd d s dT sT ho elem hu hsz g 0 n n ⟨b,o',none⟩ m c hd hs _ T hg ((src.take n).map B8) ?_ ?_ ?_ ?_ ?_
  ·rw [List.length_map,List.length_take,hm,Nat.min_comm]
  ·intro j v hj
   rw [List.getElem?_map,List.getElem?_take] at hj
   have hjl : j < n ∧ j < src.length := by
    split at hj
    ·rename_i hjn
     refine ⟨hjn,?_⟩
     rcases Nat.lt_or_ge j src.length with g | g
     ·exact g
     ·rw [List.getElem?_eq_none g] at hj; cases hj
    ·cases hj
   obtain ⟨b2,o2,e,hc⟩ := hS.rs j hjl.2
   cases e
   rw [if_pos hjl.1,List.getElem?_eq_getElem hjl.2] at hj
   rw [Addr.add_lit,hc]; exact hj
  ·rw [List.length_map,List.length_take]; simp; omega
  ·intro v hv
   obtain ⟨y,_,rfl⟩ := List.mem_map.1 hv
   rfl
  ·refine h _ _ ?_ (grownBy_setRowC w g _)
   rw [hrs hg]
   congr 3
   unfold fillC
   rw [hl,List.map_append,List.map_drop]
   simp only [List.take_zero,List.nil_append,Nat.zero_add,List.toList_toArray,List.length_map,List.length_take]
   congr 1
   rcases Nat.lt_or_ge n src.length with g | g
   ·rw [Nat.min_eq_left (by omega),List.drop_eq_nil_of_le (by simp [hl]),List.drop_eq_nil_of_le (by simp [hl]; omega)]
   ·rw [Nat.min_eq_right g]
end Go.By
namespace Go.By
open Go.RowKit
def mixS (s : Nat) : Nat := (s + 11400714819323198485) % 18446744073709551616
def mixX (z k : Nat) : Nat := z ^^^ (z / 2 ^ k)
def mixZ (s : Nat) : Nat := mixX (mixX (mixX s 30 * 13787848793156543929 % 18446744073709551616) 27 * 10723151780598845931 % 18446744073709551616) 31
def mixIt (s : Nat) : Nat → Nat
 | 0 => s
 | q + 1 => mixS (mixIt s q)
def mixAt (s i : Nat) : UInt8 := UInt8.ofNat (mixZ (mixIt s (i / 8 + 1)) / 256 ^ (i % 8))
def mixRow (s n : Nat) : List UInt8 := (List.range n).map (mixAt s)
theorem mixRow_len (s n : Nat) : (mixRow s n).length = n := by simp [mixRow]
theorem mixX_lt {z k : Nat} (h : z < 18446744073709551616) : mixX z k < 18446744073709551616 := by
 unfold mixX
 exact Nat.xor_lt_two_pow (n := 64) h (Nat.lt_of_le_of_lt (Nat.div_le_self _ _) h)
theorem mixS_lt (s : Nat) : mixS s < 18446744073709551616 := Nat.mod_lt _ (by decide)
theorem mixZ_lt (s : Nat) : mixZ s < 18446744073709551616 := mixX_lt (Nat.mod_lt _ (by decide))
theorem bits_xor64 {a b : Nat} (ha : a < 18446744073709551616) (hb : b < 18446744073709551616) : bits .xor .u64 (a : Int) (b : Int) = ((a ^^^ b : Nat) : Int) :=
 bits_xor_nat .u64 64 (by decide) (fun n h1 h2 => by rw [IntKind.wrap_u64]; omega) a b ha hb
theorem mixX_bits {z k : Nat} (hz : z < 18446744073709551616) : bits .xor .u64 (z : Int) ((z : Int) / ((2 ^ k : Nat) : Int)) = (mixX z k : Int) := by
 rw [← Int.natCast_ediv,bits_xor64 hz (Nat.lt_of_le_of_lt (Nat.div_le_self _ _) hz)]
 rfl
theorem wpList_make_bytesC {P : Program} (w : World) {ops : Array Oper} {rest : List Oper} {o : Oper} {a : Act} {Q : Exit → Act → World → Prop} (hg : o.guard = none) (l c : Operand) (t : TypeId) (hop : o.op = Op.makeSlice t l c)
  (e : TypeId) (i : TypeInfo) (h1 : P.underlying t = some (.slice e)) (h2 : P.info? e = some i) (h3 : i.zero = some (.int .u8 0)) (h4 : i.size = 1) (h5 : i.bytes = 1) (n : Nat) (hl : a.eval l = .int .i64 n) (hc : a.eval c = .int .i64 n) (hn : n ≤ 65536)
  (hK : ∀ w',w'.heap[w.heap.size]? = some (.cells ((List.replicate n (0 : UInt8)).map B8).toArray e (0,0)) → Below w.heap.size w w' → wpList P ops Q rest (a.put o.dst (.slice (some ⟨w.heap.size,0,none⟩) n n)) w') : wpList P ops Q (o :: rest) a w :=
 wpList_plain hg fun _ hK' => wp_make_bytesC w hg l c t hop e i h1 h2 h3 h4 h5 n hl hc hn (fun w' g e1 e2 e3 => by subst e1; exact hK' _ _ (hK w' e2 e3))
theorem set_toArray {xs : List UInt8} {j : Nat} {v : UInt8} {w : World} {g : Nat} {T : TypeId} (h : w.heap[g]? = some (.cells (xs.map B8).toArray T (0,0))) : (w.setCell ⟨g,j,none⟩ (B8 v)).heap[g]? = some (.cells ((xs.set j v).map B8).toArray T (0,0)) := by
 rw [hss h]
 simp [List.map_set]
theorem mixAt_val2 (s q i : Nat) (hi : i < 8) : (((mixZ (mixIt s (q + 1)) : Nat) : Int) / (2 ^ (8 * i) : Int)) % 256 = ((mixAt s (8 * q + i)).toNat : Int) := by
 have e1 : (8 * q + i) / 8 = q := by omega
 have e2 : (8 * q + i) % 8 = i := by omega
 unfold mixAt
 rw [e1,e2,UInt8.toNat_ofNat',show (2 : Int) ^ (8 * i) = ((256 ^ i : Nat) : Int) by rw [Int.natCast_pow,Int.pow_mul]; rfl]
 omega
end Go.By
namespace Go.Proofs.YtfbmdlfkipipfaaGreatDoor
open Go.RowKit Go.By
set_option maxRecDepth 100000 in
set_option maxHeartbeats 1000000 in
theorem MNext_any (g s : Nat) (w : World) (h : w.heap[g]? = some (.cells #[.int .u64 (s : Nat)] 275 (0,0))) :
  Calls Tryz.prog 182 #[.pointer (some ⟨g,0,none⟩)] w fun e w' => e = .returned (.int .u64 (mixZ (mixS s) : Nat)) ∧ w' = w.setCell ⟨g,0,none⟩ (.int .u64 (mixS s : Nat)) := by
 have c0 := cell_of_row _ _ 0 _ _ _ h
 have z0 := frozen_of_row _ _ 0 _ _ h
 have w1 : IntKind.u64.wrap ((s : Int) + 11400714819323198485) = (mixS s : Int) := by rw [IntKind.wrap_u64]; unfold mixS; omega
 have hl := mixS_lt s
 obtain ⟨S,hS⟩ : ∃ S,S = mixS s := ⟨_,rfl⟩
 unfold mixZ
 rw [← hS] at w1 hl ⊢
 have x1 := mixX_bits (k := 30) hl
 have l1 := mixX_lt (k := 30) hl
 obtain ⟨Y,hY⟩ : ∃ Y,Y = mixX S 30 := ⟨_,rfl⟩
 rw [← hY] at x1 l1 ⊢
 have m1 : IntKind.u64.wrap ((Y : Int) * 13787848793156543929) = ((Y * 13787848793156543929 % 18446744073709551616 : Nat) : Int) := by rw [IntKind.wrap_u64]; omega
 obtain ⟨Z,hZ⟩ : ∃ Z,Z = Y * 13787848793156543929 % 18446744073709551616 := ⟨_,rfl⟩
 have lz : Z < 18446744073709551616 := by rw [hZ]; exact Nat.mod_lt _ (by decide)
 rw [← hZ] at m1 ⊢
 have x2 := mixX_bits (k := 27) lz
 have l2 := mixX_lt (k := 27) lz
 obtain ⟨Y2,hY2⟩ : ∃ Y,Y = mixX Z 27 := ⟨_,rfl⟩
 rw [← hY2] at x2 l2 ⊢
 have m2 : IntKind.u64.wrap ((Y2 : Int) * 10723151780598845931) = ((Y2 * 10723151780598845931 % 18446744073709551616 : Nat) : Int) := by rw [IntKind.wrap_u64]; omega
 obtain ⟨Z2,hZ2⟩ : ∃ Z,Z = Y2 * 10723151780598845931 % 18446744073709551616 := ⟨_,rfl⟩
 have lz2 : Z2 < 18446744073709551616 := by rw [hZ2]; exact Nat.mod_lt _ (by decide)
 rw [← hZ2] at m2 ⊢
 have x3 := mixX_bits (k := 31) lz2
 obtain ⟨Y3,hY3⟩ : ∃ Y,Y = mixX Z2 31 := ⟨_,rfl⟩
 rw [← hY3] at x3 ⊢
 simp only [Nat.reducePow,Int.cast_ofNat_Int] at x1 x2 x3
 clear hS hY hZ hY2 hZ2 hY3 hl l1 lz l2 lz2 h
 go_enter Tryz.func182,Tryz.ntmps182
 go_wp2
 go_ret
 exact ⟨rfl,rfl⟩
set_option maxRecDepth 100000 in
set_option maxHeartbeats 2000000 in
theorem MBytes_any (g s n : Nat) (w : World) (h : w.heap[g]? = some (.cells #[.int .u64 (s : Nat)] 275 (0,0))) (hn : n ≤ 65536) :
  Calls Tryz.prog 132 #[.pointer (some ⟨g,0,none⟩),.int .i64 (n : Nat)] w fun e w' => ∃ G,e = .returned (.tuple #[.slice (some ⟨G,0,none⟩) n n,.int .i64 0]) ∧ w.heap.size ≤ G ∧ w'.heap[G]? = some (.cells ((mixRow s n).map B8).toArray 5 (0,0)) ∧ ∀ B,B ≤ g → Below B w w' := by
 obtain ⟨i0,hi,hz0,hz1,hz2⟩ := info_parts info_u8
 have HN := Lib.hid hn
 have hg := lt_of_block h
 have H := Lib.hid h
 clear h
 go_enter Tryz.func132,Tryz.ntmps132
 go_wp2_with (at_make; refine wpList_make_bytesC _ rfl _ _ 22 rfl 5 i0 Tryz.underlying22 hi hz0 hz1 hz2 n rfl rfl HN.out ?_)
 intro w1 h1 hb1
 obtain ⟨G,hG⟩ : ∃ G,G = w.heap.size := ⟨_,rfl⟩
 rw [← hG] at h1 ⊢
 have HG : Hid (g < G) := by rw [hG]; exact hg
 have HS : Hid (w.heap.size ≤ G) := by rw [hG]; exact Nat.le_refl _
 have B1 : Hid (∀ B,B ≤ g → Below B w w1) := fun B hB => hb1.mono (by omega)
 have H1 := Lib.hid h1
 have H2 := Lib.hid ((hb1.block _ hg).trans H.out)
 clear h1 hb1 hG hg H
 go_wp2
 go_loopw [7] (fun v wr => ∃ q : Nat,v = .int .i64 (8 * q : Nat) ∧ 8 * q ≤ n + 7 ∧ Hid (wr.heap[g]? = some (.cells #[.int .u64 (mixIt s q : Nat)] 275 (0,0))) ∧ Hid (wr.heap[G]? = some (.cells ((prog (mixRow s n) (List.replicate n (0 : UInt8)) (min (8 * q) n)).map B8).toArray 5 (0,0))) ∧ Hid (∀ B,B ≤ g → Below B w wr)) (fun v _ => n + 8 - (intOf v).toNat)
 case atStart => exact ⟨0,rfl,by omega,H2.out,by rw [Nat.mul_zero,Nat.zero_min,prog_zero]; show w1.heap[G]? = _; simpa using H1.out,B1.out⟩
 case round =>
  obtain ⟨q,rfl,hq,R1,R2,R3⟩ := hrel
  by_cases hlt : 8 * q < n
  ·go_wp2_with fail
   refine Calls.mono (MNext_any g _ _ R1.out) ?_
   rintro e w2 ⟨rfl,rfl⟩
   have e0 : mixS (mixIt s q) = mixIt s (q + 1) := rfl
   rw [e0]
   have F1 := Lib.hid (hss (i := 0) (v := .int .u64 (mixIt s (q + 1) : Nat)) R1.out)
   have F2 := Lib.hid (hsc (a := ⟨g,0,none⟩) (v := .int .u64 (mixIt s (q + 1) : Nat)) R2.out (by have := HG.out; simp; omega))
   have F3 : Hid (∀ B,B ≤ g → Below B w (wr.setCell ⟨g,0,none⟩ (.int .u64 (mixIt s (q + 1) : Nat)))) := fun B hB => (R3.out B hB).setCell (by simpa using hB) _
   clear R1 R2 R3 e0
   generalize wr.setCell ⟨g,0,none⟩ (.int .u64 (mixIt s (q + 1) : Nat)) = w2 at *
   obtain ⟨X,hX⟩ : ∃ X,X = mixZ (mixIt s (q + 1)) := ⟨_,rfl⟩
   rw [← hX]
   have HX := Lib.hid hX
   clear hX
   rw [show min (8 * q) n = 8 * q by omega] at F2
   by_cases h8 : n < 8 * q + 8
   ·obtain ⟨m,hm⟩ : ∃ m,n = 8 * q + m := ⟨n - 8 * q,by omega⟩
    have eM : (n : Int) - 8 * (q : Int) = (m : Int) := by omega
    have HM := Lib.hid hm
    have hm8 : m < 8 := by omega
    clear hm
    go_wp2
    go_loopw [31] (fun v wr => ∃ i : Nat,v = .int .i64 (i : Nat) ∧ i ≤ m ∧ Hid (wr.heap[g]? = some (.cells #[.int .u64 (mixIt s (q + 1) : Nat)] 275 (0,0))) ∧ Hid (wr.heap[G]? = some (.cells ((prog (mixRow s n) (List.replicate n (0 : UInt8)) (8 * q + i)).map B8).toArray 5 (0,0))) ∧ Hid (∀ B,B ≤ g → Below B w wr)) (fun v _ => m - (intOf v).toNat)
    case atStart => exact ⟨0,rfl,by omega,F1.out,by rw [Nat.add_zero]; exact F2.out,F3.out⟩
    case round =>
     clear F1 F2 F3
     obtain ⟨i,rfl,hi,I1,I2,I3⟩ := hrel
     by_cases hl : i < m
     ·have hj : 8 * q + i < n := by have := HM.out; omega
      have cG : wr.cell? ⟨G,8 * q + i,none⟩ = some (B8 0) := by
       rw [cell_of_row _ _ (8 * q + i) _ _ _ I2.out]
       have := prog_at (mixRow s n) (List.replicate n (0 : UInt8)) (8 * q + i) n (mixRow_len s n) (by simp) hj
       simp [this,hj]
      have zG := frozen_of_row _ _ (8 * q + i) _ _ I2.out
      have hv := mixAt_val2 s q i (by omega)
      rw [← HX.out] at hv
      have eI : (8 * (q : Int) + (i : Int)).toNat = 8 * q + i := by omega
      have I4 := Lib.hid (set_toArray (v := mixAt s (8 * q + i)) (j := 8 * q + i) I2.out)
      have I5 := Lib.hid (hsc (a := ⟨G,8 * q + i,none⟩) (v := B8 (mixAt s (8 * q + i))) I1.out (by have := HG.out; simp; omega))
      have I6 : Hid (∀ B,B ≤ g → Below B w (wr.setCell ⟨G,8 * q + i,none⟩ (B8 (mixAt s (8 * q + i))))) := fun B hB => (I3.out B hB).setCell (by have := HG.out; simp; omega) _
      clear I1 I2 I3
      go_wp2
      go_roundw
      case rel =>
       refine ⟨i + 1,by go_num,by omega,I5.out,?_,I6.out⟩
       rw [prog_succ _ _ (8 * q + i) n (mixRow_len s n) (by simp) hj (mixAt s (8 * q + i)) (by simp [mixRow,hj])] at I4
       rw [← Nat.add_assoc]
       exact I4.out
      case measure => simp [intOf]; omega
     ·have hiM : i = m := by omega
      subst hiM
      clear hl hi
      go_wp2
      go_roundw
      case rel =>
       exact ⟨q + 1,by go_num,by omega,I1.out,by rw [show min (8 * (q + 1)) n = 8 * q + i by have := HM.out; omega]; exact I2.out,I3.out⟩
      case measure => simp [intOf]; omega
   ·have HM : Hid (8 * q + 8 ≤ n) := by show 8 * q + 8 ≤ n; omega
    go_wp2
    go_loopw [31] (fun v wr => ∃ i : Nat,v = .int .i64 (i : Nat) ∧ i ≤ 8 ∧ Hid (wr.heap[g]? = some (.cells #[.int .u64 (mixIt s (q + 1) : Nat)] 275 (0,0))) ∧ Hid (wr.heap[G]? = some (.cells ((prog (mixRow s n) (List.replicate n (0 : UInt8)) (8 * q + i)).map B8).toArray 5 (0,0))) ∧ Hid (∀ B,B ≤ g → Below B w wr)) (fun v _ => 8 - (intOf v).toNat)
    case atStart => exact ⟨0,rfl,by omega,F1.out,by rw [Nat.add_zero]; exact F2.out,F3.out⟩
    case round =>
     clear F1 F2 F3
     obtain ⟨i,rfl,hi,I1,I2,I3⟩ := hrel
     by_cases hl : i < 8
     ·have hj : 8 * q + i < n := by have := HM.out; omega
      have cG : wr.cell? ⟨G,8 * q + i,none⟩ = some (B8 0) := by
       rw [cell_of_row _ _ (8 * q + i) _ _ _ I2.out]
       have := prog_at (mixRow s n) (List.replicate n (0 : UInt8)) (8 * q + i) n (mixRow_len s n) (by simp) hj
       simp [this,hj]
      have zG := frozen_of_row _ _ (8 * q + i) _ _ I2.out
      have hv := mixAt_val2 s q i (by omega)
      rw [← HX.out] at hv
      have eI : (8 * (q : Int) + (i : Int)).toNat = 8 * q + i := by omega
      have I4 := Lib.hid (set_toArray (v := mixAt s (8 * q + i)) (j := 8 * q + i) I2.out)
      have I5 := Lib.hid (hsc (a := ⟨G,8 * q + i,none⟩) (v := B8 (mixAt s (8 * q + i))) I1.out (by have := HG.out; simp; omega))
      have I6 : Hid (∀ B,B ≤ g → Below B w (wr.setCell ⟨G,8 * q + i,none⟩ (B8 (mixAt s (8 * q + i))))) := fun B hB => (I3.out B hB).setCell (by have := HG.out; simp; omega) _
      clear I1 I2 I3
      go_wp2
      go_roundw
      case rel =>
       refine ⟨i + 1,by go_num,by omega,I5.out,?_,I6.out⟩
       rw [prog_succ _ _ (8 * q + i) n (mixRow_len s n) (by simp) hj (mixAt s (8 * q + i)) (by simp [mixRow,hj])] at I4
       rw [← Nat.add_assoc]
       exact I4.out
      case measure => simp [intOf]; omega
     ·have hiM : i = 8 := by omega
      subst hiM
      clear hl hi
      go_wp2
      go_roundw
      case rel =>
       exact ⟨q + 1,by go_num,by omega,I1.out,by rw [show min (8 * (q + 1)) n = 8 * q + 8 by have := HM.out; omega]; exact I2.out,I3.out⟩
      case measure => simp [intOf]; omega
  ·go_wp2
   go_ret2
   refine ⟨G,rfl,HS.out,?_,R3.out⟩
   have := R2.out
   rw [show min (8 * q) n = n by omega,prog_full _ _ n (mixRow_len s n) (by simp)] at this
   exact this
end Go.Proofs.YtfbmdlfkipipfaaGreatDoor
namespace Go.By
open Go.RowKit
def put8At (s i : Nat) : UInt8 := UInt8.ofNat (s / 2 ^ (56 - 8 * i))
def put8 (s : Nat) : List UInt8 := (List.range 8).map (put8At s)
theorem put8_len (s : Nat) : (put8 s).length = 8 := by simp [put8]
def get8 (xs : List UInt8) : Nat := xs.foldl (fun a b => a * 256 + b.toNat) 0
theorem get8_take {xs : List UInt8} {k : Nat} {x : UInt8} (h : xs[k]? = some x) : get8 (xs.take (k + 1)) = get8 (xs.take k) * 256 + x.toNat := by
 obtain ⟨hk,h⟩ := List.getElem?_eq_some_iff.1 h
 unfold get8
 rw [foldl_take_succ _ _ _ _ hk,h]
theorem get8_lt (xs : List UInt8) (k : Nat) : get8 (xs.take k) < 256 ^ k := by
 induction k with
 | zero => simp [get8]
 | succ k ih =>
  rcases Nat.lt_or_ge k xs.length with h | h
  ·have e := get8_take (List.getElem?_eq_getElem h)
   have := xs[k].toNat_lt
   rw [e,Nat.pow_succ]; omega
  ·rw [List.take_of_length_le (by omega)]
   rw [List.take_of_length_le (by omega)] at ih
   rw [Nat.pow_succ]; omega
theorem bits_or64 {a b : Nat} (ha : a < 2 ^ 64) (hb : b < 2 ^ 64) : bits .or .u64 (a : Int) (b : Int) = ((a ||| b : Nat) : Int) :=
 (bits_nat .u64 64 (by decide) (fun n h1 h2 => by rw [IntKind.wrap_u64]; omega) a b ha hb).2
theorem put8_val (s i : Nat) (hi : i < 8) : ((s : Int) / (2 ^ (56 - 8 * i) : Int)) % 256 = ((put8At s i).toNat : Int) := by
 unfold put8At
 rw [UInt8.toNat_ofNat',show (2 : Int) ^ (56 - 8 * i) = ((2 ^ (56 - 8 * i) : Nat) : Int) by rw [Int.natCast_pow]; rfl]
 omega
end Go.By
namespace Go.Proofs.YtfbmdlfkipipfaaGreatDoor
open Go.RowKit Go.By
set_option maxRecDepth 100000 in
set_option maxHeartbeats 1000000 in
theorem MRow_anyF (s n : Nat) (hn : n ≤ 65536) (w : World) :
  Calls Tryz.prog 79 #[.int .u64 (s : Nat),.int .i64 (n : Nat)] w (SRetF 5 w (mixRow s n) 0) := by
 have HN := Lib.hid hn
 have Hk : ∀ w : World,Calls Tryz.prog 131 #[.int .u64 (s : Nat)] w fun e w' => e = .returned (.pointer (some ⟨w.heap.size,0,none⟩)) ∧ w' = w.alloc (.cells #[.int .u64 (s : Nat)] 275 (0,0)) := by
  intro w
  go_enter Tryz.func131,Tryz.ntmps131
  go_wp2
  go_ret
  exact ⟨rfl,rfl⟩
 have HK := Lib.hid Hk
 clear Hk hn
 go_enter Tryz.func79,Tryz.ntmps79
 go_wp2_with fail
 refine Calls.mono (HK.out w) ?_
 rintro e w1 ⟨rfl,rfl⟩
 go_wp2_with fail
 refine Calls.mono (MBytes_any w.heap.size s n _ (hnew rfl) HN.out) ?_
 rintro e w2 ⟨G,rfl,hG,h2,hb⟩
 have HB := Lib.hid ((al (Below.refl w.heap.size w) (Nat.le_refl _)).trans (hb _ (Nat.le_refl _)))
 have H2 := Lib.hid h2
 have HG : Hid (w.heap.size ≤ G) := by have := hG; show _ ≤ _; simp at this; omega
 clear hb hG h2
 go_wp2
 go_ret2
 exact ⟨_,_,_,rfl,Fresh.block H2.out (mixRow_len s n) (by have := HN.out; unfold maxLen; omega) HG.out,HB.out⟩
set_option maxRecDepth 100000 in
set_option maxHeartbeats 2000000 in
theorem MPut_any (s : Nat) (w : World) :
  Calls Tryz.prog 178 #[.int .u64 (s : Nat)] w (SRet1 w (put8 s)) := by
 obtain ⟨i0,hi,hz0,hz1,hz2⟩ := info_parts info_u8
 go_enter Tryz.func178,Tryz.ntmps178
 go_wp2_with (at_make; refine wpList_make_bytesC _ rfl _ _ 22 rfl 5 i0 Tryz.underlying22 hi hz0 hz1 hz2 8 rfl rfl (by decide) ?_)
 intro w1 h1 hb1
 obtain ⟨G,hG⟩ : ∃ G,G = w.heap.size := ⟨_,rfl⟩
 rw [← hG] at h1 ⊢
 have HG : Hid (w.heap.size ≤ G) := by rw [hG]; exact Nat.le_refl _
 have H1 : Hid (w1.heap[G]? = some (.cells ((prog (put8 s) (List.replicate 8 (0 : UInt8)) 0).map B8).toArray 5 (0,0))) := by rw [prog_zero]; exact h1
 have B1 := Lib.hid hb1
 clear h1 hb1 hG
 go_wp2
 go_loopw [6] (fun v wr => ∃ i : Nat,v = .int .i64 (i : Nat) ∧ i ≤ 8 ∧ Hid (wr.heap[G]? = some (.cells ((prog (put8 s) (List.replicate 8 (0 : UInt8)) i).map B8).toArray 5 (0,0))) ∧ Hid (Below w.heap.size w wr)) (fun v _ => 8 - (intOf v).toNat)
 case atStart => exact ⟨0,rfl,by omega,H1.out,B1.out⟩
 case round =>
  clear H1 B1
  obtain ⟨i,rfl,hi8,I1,I2⟩ := hrel
  by_cases hl : i < 8
  ·have cG : wr.cell? ⟨G,i,none⟩ = some (B8 0) := by
    rw [cell_of_row _ _ i _ _ _ I1.out]
    have := prog_at (put8 s) (List.replicate 8 (0 : UInt8)) i 8 (put8_len s) (by simp) hl
    rw [List.getElem?_replicate,if_pos hl] at this
    simp only [List.getElem?_toArray,List.getElem?_map,this,Option.map_some]
   have zG := frozen_of_row _ _ i _ _ I1.out
   have hv := put8_val s i hl
   have I4 := Lib.hid (set_toArray (v := put8At s i) (j := i) I1.out)
   have I6 := Lib.hid (I2.out.setCell (p := ⟨G,i,none⟩) HG.out (B8 (put8At s i)))
   clear I1 I2
   go_wp2
   go_roundw
   case rel =>
    refine ⟨i + 1,by go_num,by omega,?_,I6.out⟩
    rw [prog_succ _ _ i 8 (put8_len s) (by simp) hl (put8At s i) (by simp [put8,hl])] at I4
    exact I4.out
   case measure => simp [intOf]; omega
  ·have hiM : i = 8 := by omega
   subst hiM
   clear hl hi8
   rw [prog_full _ _ 8 (put8_len s) (by simp)] at I1
   go_wp2
   go_ret
   exact ⟨_,_,_,rfl,sl_block (put8 s) 8 I1.out rfl (put8_len s) (by decide),I2.out⟩
theorem get8_or {a x : Nat} (ha : a < 72057594037927936) (hx : x < 256) : bits .or .u64 (((a * 256 : Nat) : Int)) (x : Int) = ((a * 256 + x : Nat) : Int) := by
 rw [bits_or64 (by omega) (by omega),or_add (k := 8) (by omega) (by omega)]
set_option maxRecDepth 100000 in
set_option maxHeartbeats 2000000 in
theorem MSeed_any (p : Option Addr) (n c : Nat) (xs : List UInt8) (w : World) (h : Sl B8 w p n c xs) (hn : n = 8) :
  Calls Tryz.prog 197 #[.slice p n c] w fun e w' => e = .returned (.tuple #[.int .u64 (get8 xs : Nat),.int .i64 0]) ∧ Below w.heap.size w w' := by
 subst hn
 have HL : Hid (get8 (xs.take 8) = get8 xs) := by rw [List.take_of_length_le (by rw [h.len]; omega)]; rfl
 obtain ⟨T,hT⟩ : ∃ T : Nat → Nat,T = fun k => get8 (xs.take k) := ⟨_,rfl⟩
 have HT1 : Hid (∀ k x,xs[k]? = some x → T (k + 1) = T k * 256 + x.toNat) := fun k x hx => by rw [hT]; exact get8_take hx
 have HT2 : Hid (∀ k,k < 8 → T k < 72057594037927936) := fun k hk => by rw [hT]; exact Nat.lt_of_lt_of_le (get8_lt xs k) (Nat.le_trans (Nat.pow_le_pow_right (by decide) (show k ≤ 7 by omega)) (by decide))
 have HT0 : Hid (T 0 = 0) := by rw [hT]; rfl
 have HT8 : Hid (T 8 = get8 xs) := by rw [hT]; exact HL.out
 have H := Lib.hid h
 clear hT h HL
 generalize get8 xs = V at *
 go_enter Tryz.func197,Tryz.ntmps197
 go_wp2
 go_loop [4,12] (fun v i => ∃ k : Nat,k ≤ 8 ∧ i = .int .i64 (k : Nat) ∧ v = .int .u64 (T k : Nat)) (fun _ i => 8 - (intOf i).toNat)
 case atStart => exact ⟨0,by omega,rfl,by rw [HT0.out]; rfl⟩
 case round =>
  obtain ⟨k,hk,rfl,rfl⟩ := hrel
  by_cases hl : k < 8
  ·obtain ⟨b,o,x,rfl,hc,hx⟩ := H.out.at k hl
   have t2 := HT2.out k hl
   have hx8 := x.toNat_lt
   have e1 : IntKind.u64.wrap ((T k : Int) * 256) = ((T k * 256 : Nat) : Int) := by rw [IntKind.wrap_u64]; omega
   have e3 : IntKind.u64.wrap (x.toNat : Int) = (x.toNat : Int) := by rw [IntKind.wrap_u64]; omega
   have e2 := get8_or t2 hx8
   rw [← HT1.out k x hx.out] at e2
   clear t2 hx hx8
   rw [Int.natCast_mul] at e2
   have HE := Lib.hid e2
   clear e2
   go_wp2
   go_round
   case rel => exact ⟨k + 1,by omega,by go_num,congrArg _ HE.out⟩
   case measure => simp [intOf]; omega
  ·have hk8 : k = 8 := by omega
   subst hk8
   rw [HT8.out]
   clear hl hk
   go_wp2
   go_ret2
   exact ⟨rfl,Below.refl _ _⟩
end Go.Proofs.YtfbmdlfkipipfaaGreatDoor
