/- The document's heads as read (chapter 13); widths,lengths (chapters 14,15). The document's packets as read (chapters 14,15). Chapter 19: the document's Take. Chapter 19: TakerTakes,of a plan that may be. Chapter 19: TakerTakes,of any plan. Arguments that came in: slices of byte slices. The table of the sum,out of the row's condition. -/
import Derived.Test.YtfbmdlfkipipfaaGreatDoorZf10
import Derived.Deep.DeepCutAuto
import Derived.OpenShut
import Derived.Deep.Matrix
import Derived.Test.YtfbmdlfkipipfaaGreatDoorRows
import Derived.Lib.LaidTab
namespace Go.By
open Go.RowKit
def fourN (xs : List UInt8) (j : Nat) : Nat := (xs.drop (4 - j)).foldr (fun b a => 256 * a + b.toNat) 0
theorem fourN_succ {xs : List UInt8} (hl : xs.length = 4) {j : Nat} (hj : j < 4) {x : UInt8} (hx : xs[3 - j]? = some x) : fourN xs (j + 1) = 256 * fourN xs j + x.toNat := by
 obtain ⟨h1,h2⟩ := List.getElem?_eq_some_iff.1 hx
 unfold fourN
 rw [show 4 - (j + 1) = 3 - j by omega,List.drop_eq_getElem_cons h1,h2,show 3 - j + 1 = 4 - j by omega]
 rfl
theorem fourN_get4 {xs : List UInt8} (hl : xs.length = 4) : fourN xs 4 = get4 xs := by
 match xs,hl with
 | [a,b,c,d],_ =>
  show 256 * (256 * (256 * (256 * 0 + d.toNat) + c.toNat) + b.toNat) + a.toNat = a.toNat + 256 * b.toNat + 65536 * c.toNat + 16777216 * d.toNat
  omega
theorem fourN_lt {xs : List UInt8} (hl : xs.length = 4) : ∀ j,j ≤ 4 → fourN xs j < 256 ^ j
 | 0,_ => by
  unfold fourN
  rw [List.drop_eq_nil_of_le (by omega)]
  decide
 | j + 1,hj => by
  have h1 : 3 - j < xs.length := by omega
  have := fourN_succ hl (j := j) (by omega) (List.getElem?_eq_getElem h1)
  have ih := fourN_lt hl j (by omega)
  have hx := (xs[3 - j]).toNat_lt
  rw [this,Nat.pow_succ]
  omega
end Go.By
namespace Go.Proofs.YtfbmdlfkipipfaaGreatDoor
open Go.RowKit Go.By
set_option maxHeartbeats 1000000 in
theorem RFour13_any (p : Option Addr) (n c : Nat) (xs : List UInt8) (w : World) (h : Sl B8 w p n c xs) (hl : xs.length = 4) :
  Calls Tryz.prog 189 #[.slice p n c] w fun e w' => e = .returned (.int .u32 (get4 xs : Nat)) ∧ w = w' := by
 have hn : n = 4 := by rw [← h.len]; exact hl
 subst hn
 have H := Lib.hid h; have HL := Lib.hid hl; clear h hl
 go_enter Tryz.func189,Tryz.ntmps189
 go_wp2
 go_loop [3,4] (fun nv iv => ∃ r v : Nat,r ≤ 4 ∧ iv = .int .i64 ((r : Int) - 1) ∧ nv = .int .u32 (v : Nat) ∧ Hid (v = fourN xs (4 - r))) (fun _ i => (intOf i + 1).toNat)
 case atStart => exact ⟨4,0,by omega,rfl,rfl,by show 0 = fourN xs 0; unfold fourN; rw [List.drop_eq_nil_of_le (by rw [HL.out]; omega)]; rfl⟩
 case round =>
  obtain ⟨r,v,hr,rfl,rfl,hv⟩ := hrel
  cases r with
  | zero =>
   have hv4 : v = get4 xs := by rw [hv.out,show 4 - 0 = 4 from rfl,fourN_get4 HL.out]
   subst hv4
   go_wp2
   go_ret
   exact ⟨rfl,rfl⟩
  | succ r =>
   rw [show (((r + 1 : Nat) : Int) - 1) = (r : Int) by omega]
   obtain ⟨b,o,x,rfl,hc,hx⟩ := H.out.at r (by omega)
   have hlt := fourN_lt HL.out (4 - (r + 1)) (by omega)
   have hle : 256 ^ (4 - (r + 1)) ≤ 16777216 := Nat.pow_le_pow_right (by decide) (show 4 - (r + 1) ≤ 3 by omega)
   have hv3 : v < 16777216 := by rw [hv.out]; omega
   have hxb := x.toNat_lt
   have HV : Hid (256 * v + x.toNat = fourN xs (4 - r)) := by
    show _ = _
    have := fourN_succ HL.out (j := 4 - (r + 1)) (by omega) (x := x) (by rw [show 3 - (4 - (r + 1)) = r by omega]; exact hx.out)
    rw [hv.out,← this]; congr 1; omega
   have A1 : IntKind.u32.wrap (256 * (v : Int)) = ((256 * v : Nat) : Int) := by rw [IntKind.wrap_u32]; omega
   have A2 : IntKind.u32.wrap (x.toNat : Int) = (x.toNat : Int) := by rw [IntKind.wrap_u32]; omega
   have A3 : IntKind.u32.wrap (((256 * v : Nat) : Int) + (x.toNat : Int)) = ((256 * v + x.toNat : Nat) : Int) := by rw [IntKind.wrap_u32]; omega
   have hr4 : r < 4 := by omega
   have hr4' : (r : Int) < 4 := by omega
   generalize 256 * v + x.toNat = v2 at *
   generalize 256 * v = v1 at *
   clear hlt hle hv hx hxb hr hv3
   go_wp2_with (first | simp only [A1] | simp only [A2] | simp only [A3])
   go_round
   case rel => exact ⟨r,v2,by omega,by simp,rfl,HV.out⟩
   case measure => simp [intOf] <;> omega
set_option maxHeartbeats 1000000 in
theorem REight15_any (p : Option Addr) (n c : Nat) (xs : List UInt8) (w : World) (h : Sl B8 w p n c xs) (hl : 8 ≤ n) :
  Calls Tryz.prog 156 #[.slice p n c] w fun e w' => e = .returned (.int .u64 (get8 (xs.take 8) : Nat)) ∧ w = w' := by
 have hb := h.bound
 have H := Lib.hid h; clear h
 go_enter Tryz.func156,Tryz.ntmps156
 go_wp2
 go_loop [3,4] (fun nv iv => ∃ i v : Nat,i ≤ 8 ∧ iv = .int .i64 (i : Nat) ∧ nv = .int .u64 (v : Nat) ∧ Hid (v = get8 (xs.take i))) (fun _ i => 8 - (intOf i).toNat)
 case atStart => exact ⟨0,0,by omega,rfl,rfl,rfl⟩
 case round =>
  obtain ⟨i,v,hi,rfl,rfl,hv⟩ := hrel
  by_cases hlt : i < 8
  ·obtain ⟨b,o,x,rfl,hc,hx⟩ := H.out.at i (by omega)
   have hvl : v < 256 ^ i := by rw [hv.out]; exact get8_lt xs i
   have hpl : 256 ^ i ≤ 72057594037927936 := Nat.pow_le_pow_right (by decide) (show i ≤ 7 by omega)
   have hv7 : v < 72057594037927936 := by omega
   have hxb := x.toNat_lt
   have HV : Hid (256 * v + x.toNat = get8 (xs.take (i + 1))) := by show _ = _; rw [get8_take hx.out,← hv.out]; omega
   have A1 : IntKind.u64.wrap (256 * (v : Int)) = ((256 * v : Nat) : Int) := by rw [IntKind.wrap_u64]; omega
   have A2 : IntKind.u64.wrap (x.toNat : Int) = (x.toNat : Int) := by rw [IntKind.wrap_u64]; omega
   have A3 : IntKind.u64.wrap (((256 * v : Nat) : Int) + (x.toNat : Int)) = ((256 * v + x.toNat : Nat) : Int) := by rw [IntKind.wrap_u64]; omega
   have hin : i < n := by omega
   have hin' : (i : Int) < (n : Int) := by omega
   have hlt' : (i : Int) < 8 := by omega
   generalize 256 * v + x.toNat = v2 at *
   generalize 256 * v = v1 at *
   clear hvl hpl hv hx hxb hv7
   go_wp2_with (first | simp only [A1] | simp only [A2] | simp only [A3])
   go_round
   case rel => exact ⟨i + 1,v2,by omega,by go_num,rfl,HV.out⟩
   case measure => simp [intOf]; omega
  ·obtain rfl : i = 8 := by omega
   have hv8 : v = get8 (xs.take 8) := hv.out
   subst hv8
   clear hlt hi hv
   go_wp2
   go_ret
   exact ⟨rfl,rfl⟩
theorem RWidth14_any (m : UInt8) (k : Nat) (hm : modeC m = 0) (h1 : 1 ≤ k) (h2 : k ≤ 4096) (w : World) :
  Calls Tryz.prog 155 #[B8 m,.int .i64 (k : Nat)] w fun e w' => e = .returned (.tuple #[.int .i64 (widS m k : Nat),.int .i64 0]) ∧ w = w' := by
 have h1' : ¬ (k : Int) < 1 := by omega
 have h2' : ¬ (4096 : Int) < (k : Int) := by omega
 have hm2 : m = 0 ∨ m = 1 := by
  unfold modeC at hm
  by_cases h : m = 0 ∨ m = 1
  ·exact h
  ·rw [if_neg h] at hm; cases hm
 clear h1 h2 hm
 rcases hm2 with rfl | rfl
 ·rw [show widS 0 k = k from if_pos rfl,show B8 0 = .int .u8 0 from rfl]
  go_enter Tryz.func155,Tryz.ntmps155
  go_wp2
  go_ret2
  exact ⟨rfl,rfl⟩
 ·rw [show widS 1 k = 8 from rfl,show B8 1 = .int .u8 1 from rfl]
  go_enter Tryz.func155,Tryz.ntmps155
  go_wp2
  go_ret2
  exact ⟨rfl,rfl⟩
set_option maxHeartbeats 1000000 in
theorem RLength15_ok (L t k D : Nat) (m : UInt8) (w : World) (hP : POK L t k D) (hm : modeC m = 0) :
  Calls Tryz.prog 152 #[PVal L t k D,B8 m] w fun e w' => e = .returned (.tuple #[.int .i64 (lenP m k t : Nat),.int .i64 0]) ∧ Below w.heap.size w w' := by
 have HK : Hid (∀ w,Calls Tryz.prog 45 #[PVal L t k D] w fun e w' => e = .returned (.int .i64 0) ∧ Below w.heap.size w w') := fun w => by
  have := RCheck_any (L : Int) (t : Int) (k : Int) (D : Int) w hP.l
  rw [hP.chk] at this; exact this
 have HW := Lib.hid (fun w => RWidth14_any m k hm hP.k1 hP.k2 w)
 have hk2 := hP.k2
 have ht2 := hP.t2
 have hw : widS m k ≤ 4096 := by unfold widS; split <;> (try split) <;> omega
 have e : (14 : Int) + (widS m k : Int) + (t : Int) = (lenP m k t : Int) := by unfold lenP; omega
 obtain ⟨V,hV⟩ : ∃ V,V = widS m k := ⟨_,rfl⟩
 rw [← hV] at HW hw e
 have HE := Lib.hid e
 clear hP hm hV e
 go_enter Tryz.func152,Tryz.ntmps152
 go_wp2_with fail
 refine Calls.mono (HK.out _) ?_
 rintro e w1 ⟨rfl,hb⟩
 obtain ⟨hb1,h1,hs⟩ := one_of hb
 have HB := Lib.hid hb1
 obtain ⟨c0,c1,c2,c3⟩ := cells_four h1
 clear hb hb1 h1
 go_wp2_with fail
 refine Calls.mono (HW.out _) ?_
 rintro e w2 ⟨rfl,rfl⟩
 go_wp2
 rw [HE.out]
 go_ret2
 exact ⟨rfl,HB.out⟩
theorem info_head13 : (Tryz.prog.info? 180).map (·.size) = some 3 := by kernel_rfl
def RHd13 (w : World) (b o n c : Nat) (m : UInt8) (O M : Nat) (e : Ending) (w' : World) : Prop :=
 e = .returned (.tuple #[HVal m O M,.slice (if c = 10 then some ⟨b,o,none⟩ else some ⟨b,o + 10,none⟩) (n - 10) (c - 10),.int .i64 0]) ∧ Below w.heap.size w w'
def RHd13z (w : World) (code : Int) (e : Ending) (w' : World) : Prop := e = .returned (.tuple #[HVal 0 0 0,.slice none 0 0,.int .i64 code]) ∧ Below w.heap.size w w'
set_option maxRecDepth 100000 in
set_option maxHeartbeats 2000000 in
theorem RHead13_short (p : Option Addr) (n c : Nat) (w : World) (hn : n < 10) :
  Calls Tryz.prog 151 #[.slice p n c] w (RHd13z w 6) := by
 have HN := Lib.hid hn
 go_enter Tryz.func151,Tryz.ntmps151
 go_wp2
 refine bodyPost_ret (res_ctt rfl _ _ _ 180 #[.int .u8 0,.int .u32 0,.int .u32 0] (0,0) _ (.slice none 0 0) (.int .i64 6) rfl ?_ rfl rfl Tryz.underlying180 rfl info_head13) rfl ?_
 ·exact hnew rfl
 ·exact ⟨rfl,al (Below.refl _ _) (Nat.le_refl _)⟩
set_option maxRecDepth 100000 in
set_option maxHeartbeats 2000000 in
theorem RHead13_version (b o n c : Nat) (w : World) (hn : 10 ≤ n) (x0 : UInt8) (k0 : w.cell? ⟨b,o,none⟩ = some (B8 x0)) (hx : x0 ≠ 1) (hm : n ≤ 9223372036854775807) :
  Calls Tryz.prog 151 #[.slice (some ⟨b,o,none⟩) n c] w (RHd13z w 7) := by
 have e1 : ((x0.toNat : Int) != 1) = true := bne_iff_ne.2 fun e => hx (UInt8.toNat_inj.1 (by show x0.toNat = 1; omega))
 have HN := Lib.hid hn
 have a0 : ∀ o',(w.alloc o').cell? ⟨b,o,none⟩ = some (B8 x0) := fun _ => calloc k0
 clear hx k0
 go_enter Tryz.func151,Tryz.ntmps151
 go_wp2
 refine bodyPost_ret (res_ctt rfl _ _ _ 180 #[.int .u8 0,.int .u32 0,.int .u32 0] (0,0) _ (.slice none 0 0) (.int .i64 7) rfl ?_ rfl rfl Tryz.underlying180 rfl info_head13) rfl ?_
 ·exact hnew rfl
 ·exact ⟨rfl,al (Below.refl _ _) (Nat.le_refl _)⟩
set_option maxRecDepth 100000 in
set_option maxHeartbeats 2000000 in
theorem RHead13_mode (b o n c : Nat) (w : World) (hn : 10 ≤ n) (x1 : UInt8) (k0 : w.cell? ⟨b,o,none⟩ = some (B8 1)) (k1 : w.cell? ⟨b,o + 1,none⟩ = some (B8 x1)) (hx : modeC x1 = 8) (hm : n ≤ 9223372036854775807) :
  Calls Tryz.prog 151 #[.slice (some ⟨b,o,none⟩) n c] w (RHd13z w 8) := by
 have e1 : (1 : Int) < (x1.toNat : Int) := by
  unfold modeC at hx
  by_cases h : x1 = 0 ∨ x1 = 1
  ·rw [if_pos h] at hx; cases hx
  ·have h0 : x1.toNat ≠ 0 := fun e => h (.inl (UInt8.toNat_inj.1 e))
   have h1 : x1.toNat ≠ 1 := fun e => h (.inr (UInt8.toNat_inj.1 e))
   omega
 have HN := Lib.hid hn
 have a0 : ∀ o',(w.alloc o').cell? ⟨b,o,none⟩ = some (B8 1) := fun _ => calloc k0
 have a1 : ∀ o',(w.alloc o').cell? ⟨b,o + 1,none⟩ = some (B8 x1) := fun _ => calloc k1
 clear hx k0 k1
 go_enter Tryz.func151,Tryz.ntmps151
 go_wp2
 refine bodyPost_ret (res_ctt rfl _ _ _ 180 #[.int .u8 0,.int .u32 0,.int .u32 0] (0,0) _ (.slice none 0 0) (.int .i64 8) rfl ?_ rfl rfl Tryz.underlying180 rfl info_head13) rfl ?_
 ·exact hnew rfl
 ·exact ⟨rfl,al (Below.refl _ _) (Nat.le_refl _)⟩
set_option maxRecDepth 100000 in
set_option maxHeartbeats 2000000 in
theorem RHead13_good (b o n c : Nat) (xs : List UInt8) (w : World) (h : Sl B8 w (some ⟨b,o,none⟩) n c xs) (hn : 10 ≤ n) (x1 : UInt8) (k0 : w.cell? ⟨b,o,none⟩ = some (B8 1)) (k1 : w.cell? ⟨b,o + 1,none⟩ = some (B8 x1)) (hx : modeC x1 = 0) :
  Calls Tryz.prog 151 #[.slice (some ⟨b,o,none⟩) n c] w (RHd13 w b o n c x1 (get4 ((xs.drop 2).take 4)) (get4 ((xs.drop 6).take 4))) := by
 have hl := h.len
 have HA : Hid (∀ W,Sl B8 W (some ⟨b,o + 2,none⟩) 4 (c - 2) ((xs.drop 2).take 4) → Calls Tryz.prog 189 #[.slice (some ⟨b,o + 2,none⟩) 4 (c - 2)] W fun e w' => e = .returned (.int .u32 (get4 ((xs.drop 2).take 4) : Nat)) ∧ W = w') := fun W h => RFour13_any _ _ _ _ W h (by rw [List.length_take,List.length_drop]; omega)
 have HC : Hid (∀ W,Sl B8 W (some ⟨b,o + 6,none⟩) 4 (c - 6) ((xs.drop 6).take 4) → Calls Tryz.prog 189 #[.slice (some ⟨b,o + 6,none⟩) 4 (c - 6)] W fun e w' => e = .returned (.int .u32 (get4 ((xs.drop 6).take 4) : Nat)) ∧ W = w') := fun W h => RFour13_any _ _ _ _ W h (by rw [List.length_take,List.length_drop]; omega)
 have H2 := Lib.hid (Sl.part (k := 2) (m := 4) h (by omega))
 have H6 := Lib.hid (Sl.part (k := 6) (m := 4) h (by omega))
 generalize get4 ((xs.drop 2).take 4) = A at *
 generalize get4 ((xs.drop 6).take 4) = B at *
 generalize (xs.drop 2).take 4 = ya at *
 generalize (xs.drop 6).take 4 = yb at *
 have e1 : ¬ (1 : Int) < (x1.toNat : Int) := by
  unfold modeC at hx
  by_cases h : x1 = 0 ∨ x1 = 1
  ·rcases h with rfl | rfl <;> decide
  ·rw [if_neg h] at hx; cases hx
 have hm := h.bound
 have hle := h.le
 have hmx := h.max
 unfold maxLen at hmx
 have a0 : ∀ o',(w.alloc o').cell? ⟨b,o,none⟩ = some (B8 1) := fun _ => calloc k0
 have a1 : ∀ o',(w.alloc o').cell? ⟨b,o + 1,none⟩ = some (B8 x1) := fun _ => calloc k1
 have ba : Below w.heap.size w (w.alloc (.cells #[.int .u8 0,.int .u32 0,.int .u32 0] 180)) := al (Below.refl _ _) (Nat.le_refl _)
 have K1 := Lib.hid k1
 have HBA := Lib.hid ba
 clear h k0 k1 hx ba hl
 have hn1 : (1 : Int) < (n : Int) := by omega
 have g1 : (6 : Int) ≤ (c : Int) := by omega
 have g2 : ¬ (c = 2) := by omega
 have g3 : (10 : Int) ≤ (c : Int) := by omega
 have g4 : ¬ (c = 6) := by omega
 have g5 : (10 : Int) ≤ (n : Int) := by omega
 go_enter Tryz.func151,Tryz.ntmps151
 go_wp2
 have HH : Hid ((w.alloc (.cells #[.int .u8 0,.int .u32 0,.int .u32 0] 180)).heap[w.heap.size]? = some (.cells #[.int .u8 0,.int .u32 0,.int .u32 0] 180 (0,0))) := hnew rfl
 obtain ⟨g,hg⟩ : ∃ g,g = w.heap.size := ⟨_,rfl⟩
 rw [← hg] at HH ⊢
 generalize w.alloc (.cells #[.int .u8 0,.int .u32 0,.int .u32 0] 180) = w1 at *
 have HGE : Hid (w.heap.size ≤ g) := by show _ ≤ _; omega
 clear a0 a1 hg
 refine wp_region_row (fun ix => ([.slice (some ⟨b,o,none⟩) n c,.pointer (some ⟨b,o + 1,none⟩),B8 x1,.slice (some ⟨b,o,none⟩) n c,.slice (some ⟨b,o + 2,none⟩) 4 (c - 2),.int .u32 (A : Nat),.slice (some ⟨b,o,none⟩) n c,.slice (some ⟨b,o + 6,none⟩) 4 (c - 6),.int .u32 (B : Nat),.agg #[B8 x1,.int .u32 (A : Nat),.int .u32 (B : Nat)],.slice (some ⟨b,o,none⟩) n c,.slice (if c = 10 then some ⟨b,o,none⟩ else some ⟨b,o + 10,none⟩) (n - 10) (c - 10),undef,.slice (if c = 10 then some ⟨b,o,none⟩ else some ⟨b,o + 10,none⟩) (n - 10) (c - 10),.int .i64 0][ix]?).getD undef) 31 12 g 180 #[B8 x1,.int .u32 (A : Nat),.int .u32 (B : Nat)] rfl (by kernel_rfl) (by decide +kernel) (by decide +kernel) (by decide +kernel) ⟨_,HH.out,rfl⟩ ?_ ?_ (by decide) ?_
 ·intro i oo h1 ho a W hE hs hp hi
  have hBW : Below w.heap.size w W := HBA.out.trans (hE.below HGE.out HGE.out); have kk1 := (hBW.cell (p := ⟨b,o + 1,none⟩) (lt_of_cell K1.out)).trans K1.out
  match i,h1,ho with
  | 0,_,ho =>
   simp at ho; subst ho
   have t0 : sl a 0 = .slice (some ⟨b,o,none⟩) n c := hi 0 (by decide)
   refine wp_val (.slice (some ⟨b,o,none⟩) n c) ?_ ⟨rfl,rfl⟩
   simp only [execOp,eval_tmp,t0]; rfl
  | 1,_,ho =>
   simp at ho; subst ho
   have t19 : sl a 19 = .slice (some ⟨b,o,none⟩) n c := hp 0 19 (by decide) (by decide) rfl
   have v19 : a.tmps[19]?.getD undef = sl a 19 := by simp [sl]
   rw [t19] at v19
   refine wp_val (.pointer (some ⟨b,o + 1,none⟩)) ?_ ⟨rfl,rfl⟩
   simp only [execOp,eval_tmp,eval_const,t19]; simp [go_sem,v19,hn1]
  | 2,_,ho =>
   simp at ho; subst ho
   have t20 : sl a 20 = .pointer (some ⟨b,o + 1,none⟩) := hp 1 20 (by decide) (by decide) rfl
   have v20 : a.tmps[20]?.getD undef = sl a 20 := by simp [sl]
   rw [t20] at v20
   refine wp_val (B8 x1) ?_ ⟨rfl,rfl⟩
   simp only [execOp,eval_tmp,eval_const,t20]; simp [go_sem,v20,kk1]
  | 3,_,ho =>
   simp at ho; subst ho
   have t0 : sl a 0 = .slice (some ⟨b,o,none⟩) n c := hi 0 (by decide)
   refine wp_val (.slice (some ⟨b,o,none⟩) n c) ?_ ⟨rfl,rfl⟩
   simp only [execOp,eval_tmp,t0]; rfl
  | 4,_,ho =>
   simp at ho; subst ho
   have t22 : sl a 22 = .slice (some ⟨b,o,none⟩) n c := hp 3 22 (by decide) (by decide) rfl
   have v22 : a.tmps[22]?.getD undef = sl a 22 := by simp [sl]
   rw [t22] at v22
   refine wp_val (.slice (some ⟨b,o + 2,none⟩) 4 (c - 2)) ?_ ⟨rfl,rfl⟩
   simp only [execOp,eval_tmp,eval_const,t22]; simp [go_sem,v22,g1,g2]
  | 5,_,ho =>
   simp at ho; subst ho
   have t23 : sl a 23 = .slice (some ⟨b,o + 2,none⟩) 4 (c - 2) := hp 4 23 (by decide) (by decide) rfl
   refine wp_enter 189 #[.slice (some ⟨b,o + 2,none⟩) 4 (c - 2)] ?_ (HA.out W (H2.out.keep hBW)) ?_
   ·simp only [execOp,resolve,List.map_toArray,List.map,eval_tmp,eval_func,eval_const,t23]; simp [go_sem]
   ·rintro e W' ⟨rfl,rfl⟩; exact ⟨_,rfl,rfl,rfl⟩
  | 6,_,ho =>
   simp at ho; subst ho
   have t0 : sl a 0 = .slice (some ⟨b,o,none⟩) n c := hi 0 (by decide)
   refine wp_val (.slice (some ⟨b,o,none⟩) n c) ?_ ⟨rfl,rfl⟩
   simp only [execOp,eval_tmp,t0]; rfl
  | 7,_,ho =>
   simp at ho; subst ho
   have t25 : sl a 25 = .slice (some ⟨b,o,none⟩) n c := hp 6 25 (by decide) (by decide) rfl
   have v25 : a.tmps[25]?.getD undef = sl a 25 := by simp [sl]
   rw [t25] at v25
   refine wp_val (.slice (some ⟨b,o + 6,none⟩) 4 (c - 6)) ?_ ⟨rfl,rfl⟩
   simp only [execOp,eval_tmp,eval_const,t25]; simp [go_sem,v25,g3,g4]
  | 8,_,ho =>
   simp at ho; subst ho
   have t26 : sl a 26 = .slice (some ⟨b,o + 6,none⟩) 4 (c - 6) := hp 7 26 (by decide) (by decide) rfl
   refine wp_enter 189 #[.slice (some ⟨b,o + 6,none⟩) 4 (c - 6)] ?_ (HC.out W (H6.out.keep hBW)) ?_
   ·simp only [execOp,resolve,List.map_toArray,List.map,eval_tmp,eval_func,eval_const,t26]; simp [go_sem]
   ·rintro e W' ⟨rfl,rfl⟩; exact ⟨_,rfl,rfl,rfl⟩
  | 9,_,ho =>
   simp at ho; subst ho
   have t21 : sl a 21 = B8 x1 := hp 2 21 (by decide) (by decide) rfl
   have t24 : sl a 24 = .int .u32 (A : Nat) := hp 5 24 (by decide) (by decide) rfl
   have t27 : sl a 27 = .int .u32 (B : Nat) := hp 8 27 (by decide) (by decide) rfl
   have v21 : a.tmps[21]?.getD undef = sl a 21 := by simp [sl]
   rw [t21] at v21
   have v24 : a.tmps[24]?.getD undef = sl a 24 := by simp [sl]
   rw [t24] at v24
   have v27 : a.tmps[27]?.getD undef = sl a 27 := by simp [sl]
   rw [t27] at v27
   refine wp_val (.agg #[B8 x1,.int .u32 (A : Nat),.int .u32 (B : Nat)]) ?_ ⟨rfl,rfl⟩
   simp only [execOp,eval_tmp,eval_const,t21,t24,t27]; simp [go_sem,v21,v24,v27,Tryz.underlying180]
  | 10,_,ho =>
   simp at ho; subst ho
   have t0 : sl a 0 = .slice (some ⟨b,o,none⟩) n c := hi 0 (by decide)
   refine wp_val (.slice (some ⟨b,o,none⟩) n c) ?_ ⟨rfl,rfl⟩
   simp only [execOp,eval_tmp,t0]; rfl
  | 11,_,ho =>
   simp at ho; subst ho
   have t29 : sl a 29 = .slice (some ⟨b,o,none⟩) n c := hp 10 29 (by decide) (by decide) rfl
   have v29 : a.tmps[29]?.getD undef = sl a 29 := by simp [sl]
   rw [t29] at v29
   refine wp_val (.slice (if c = 10 then some ⟨b,o,none⟩ else some ⟨b,o + 10,none⟩) (n - 10) (c - 10)) ?_ ⟨rfl,rfl⟩
   simp only [execOp,eval_tmp,eval_const,t29]; simp [go_sem,v29,g3,g5]
  | 12,h,_ => exact absurd rfl h
  | 13,_,ho =>
   simp at ho; subst ho
   have t30 : sl a 30 = .slice (if c = 10 then some ⟨b,o,none⟩ else some ⟨b,o + 10,none⟩) (n - 10) (c - 10) := hp 11 30 (by decide) (by decide) rfl
   refine wp_val (.slice (if c = 10 then some ⟨b,o,none⟩ else some ⟨b,o + 10,none⟩) (n - 10) (c - 10)) ?_ ⟨rfl,rfl⟩
   simp only [execOp,eval_tmp,t30]; rfl
  | 14,_,ho =>
   simp at ho; subst ho
   exact wp_val (.int .i64 0) rfl ⟨rfl,rfl⟩
  | j + 15,_,ho => simp at ho
 ·intro oo ho a W hE hs hp hi old hold hsz
  simp at ho; subst ho
  have t2 : sl a 2 = .pointer (some ⟨g,0,none⟩) := hi 2 (by decide)
  have t28 : sl a 28 = .agg #[B8 x1,.int .u32 (A : Nat),.int .u32 (B : Nat)] := hp 9 28 (by decide) (by decide) rfl
  refine wp_store_row 180 (.tmp 2) (.tmp 28) rfl g #[B8 x1,.int .u32 (A : Nat),.int .u32 (B : Nat)] (by rw [eval_tmp]; exact t2) (by rw [eval_tmp]; exact t28) _ _ hold info_head13 hsz (by simp [Value.oneCell']) ?_
  exact ⟨rfl,rfl⟩
 intro a w9 hE hG hs hd hI ht
 have ha := act_is [19,20,21,22,23,24,25,26,27,28,29,30,3,4] hs hd ht (by decide)
 have t3 : sl a 3 = .slice (if c = 10 then some ⟨b,o,none⟩ else some ⟨b,o + 10,none⟩) (n - 10) (c - 10) := hI 13 3 (by decide) (by decide) rfl
 have t4 : sl a 4 = .int .i64 0 := hI 14 4 (by decide) (by decide) rfl
 simp only [List.foldl,t3,t4] at ha
 generalize sl a 19 = u19 at ha
 generalize sl a 20 = u20 at ha
 generalize sl a 21 = u21 at ha
 generalize sl a 22 = u22 at ha
 generalize sl a 23 = u23 at ha
 generalize sl a 24 = u24 at ha
 generalize sl a 25 = u25 at ha
 generalize sl a 26 = u26 at ha
 generalize sl a 27 = u27 at ha
 generalize sl a 28 = u28 at ha
 generalize sl a 29 = u29 at ha
 generalize sl a 30 = u30 at ha
 simp only [Act.put,List.setIfInBounds_toArray,List.set_cons_zero,List.set_cons_succ] at ha
 rw [ha]
 clear ha hI ht hs hd t3 t4
 have HB6 := Lib.hid (HBA.out.trans (hE.below HGE.out HGE.out))
 clear HH HBA hE
 generalize hqr : (if c = 10 then (some ⟨b,o,none⟩ : Option Addr) else some ⟨b,o + 10,none⟩) = qr
 have HQR := Lib.hid hqr
 clear hqr
 go_wp2
 refine bodyPost_ret (res_ctt rfl _ _ _ 180 #[B8 x1,.int .u32 (A : Nat),.int .u32 (B : Nat)] (0,0) _ (.slice qr (n - 10) (c - 10)) (.int .i64 0) rfl hG rfl rfl Tryz.underlying180 rfl info_head13) rfl ?_
 exact ⟨by rw [← HQR.out],HB6.out⟩
theorem RHead13_any (p : Option Addr) (n c : Nat) (xs : List UInt8) (w : World) (h : Sl B8 w p n c xs) :
  Calls Tryz.prog 151 #[.slice p n c] w fun e w' => (headC xs = 0 ∧ ∃ b o,p = some ⟨b,o,none⟩ ∧ 10 ≤ n ∧ RHd13 w b o n c (xs.getD 1 0) (get4 ((xs.drop 2).take 4)) (get4 ((xs.drop 6).take 4)) e w') ∨ (headC xs ≠ 0 ∧ RHd13z w (headC xs) e w') := by
 have hl := h.len
 unfold headC
 by_cases h10 : n < 10
 ·rw [if_pos (by omega : xs.length < 10)]
  exact Calls.mono (RHead13_short p n c w h10) fun e w' h => .inr ⟨by decide,h⟩
 ·rw [if_neg (by omega : ¬ xs.length < 10)]
  obtain ⟨b,o,x0,rfl,k0,y0⟩ := h.at 0 (by omega)
  obtain ⟨_,_,x1,e1,k1,y1⟩ := h.at 1 (by omega)
  cases e1
  rw [Nat.add_zero] at k0
  rw [at_get y0.out,at_get y1.out]
  by_cases h0 : x0 = 1
  ·have e : (if x0 ≠ 1 then 7 else modeC x1) = modeC x1 := if_neg (by simp [h0])
   rw [e]
   subst h0
   rcases modeC_range x1 with h1 | h1
   ·rw [h1]
    exact Calls.mono (RHead13_good b o n c xs w h (by omega) x1 k0 k1 h1) fun e w' h => .inl ⟨rfl,b,o,rfl,by omega,h⟩
   ·rw [h1]
    exact Calls.mono (RHead13_mode b o n c w (by omega) x1 k0 k1 h1 h.bound) fun e w' h => .inr ⟨by decide,h⟩
  ·have e : (if x0 ≠ 1 then 7 else modeC x1) = 7 := if_pos h0
   rw [e]
   exact Calls.mono (RHead13_version b o n c w (by omega) x0 k0 h0 h.bound) fun e w' h => .inr ⟨by decide,h⟩
end Go.Proofs.YtfbmdlfkipipfaaGreatDoor
namespace Go.By
open Go.RowKit
theorem sum_bytes {xs : List UInt8} {E C : Nat} (hl : E + 4 ≤ xs.length) (hC : C < 4294967296) : (∀ j,j < 4 → xs[E + j]? = (put4 C)[j]?) ↔ get4 ((xs.drop E).take 4) = C := by
 have h4 : ((xs.drop E).take 4).length = 4 := by rw [List.length_take,List.length_drop]; omega
 constructor
 ·intro h
  have e : (xs.drop E).take 4 = put4 C := by
   apply List.ext_getElem?
   intro j
   by_cases hj : j < 4
   ·rw [List.getElem?_take,if_pos hj,List.getElem?_drop,h j hj]
   ·rw [List.getElem?_eq_none (by omega),List.getElem?_eq_none (by rw [put4_len]; omega)]
  rw [e,get4_put4 hC]
 ·intro h j hj
  rw [← h,put4_get4 h4,List.getElem?_take,if_pos hj,List.getElem?_drop]
end Go.By
namespace Go.Proofs.YtfbmdlfkipipfaaGreatDoor
open Go.RowKit Go.By
def VecQ (m : UInt8) (B : Nat) (w' : World) (v : Value) (p : Option Addr) (j c : Nat) (ys : List UInt8) : Prop := (m = 0 ∧ v = .slice p j c) ∨ (m ≠ 0 ∧ ∃ q n c',v = .slice q n c' ∧ Fresh 5 B w' q n c' ys)
theorem RVector14_any (m : UInt8) (k : Nat) (hm : modeC m = 0) (h1 : 1 ≤ k) (h2 : k ≤ 4096) (p : Option Addr) (j c s : Nat) (xs : List UInt8) (w : World) (hj : m = 0 → j = k) :
  Calls Tryz.prog 157 #[B8 m,.slice p j c,.int .u64 (s : Nat),.int .i64 (k : Nat)] w fun e w' => ∃ v,e = .returned (.tuple #[v,.int .i64 0]) ∧ VecQ m w.heap.size w' v p j c (vecS m xs s k) ∧ Below w.heap.size w w' := by
 have HW := Lib.hid (fun w => RWidth14_any m k hm h1 h2 w)
 have hm2 : m = 0 ∨ m = 1 := by
  unfold modeC at hm
  by_cases h : m = 0 ∨ m = 1
  ·exact h
  ·rw [if_neg h] at hm; cases hm
 rcases hm2 with rfl | rfl
 ·obtain rfl := hj rfl
  have hk : ((j : Int) != (j : Int)) = false := by simp
  clear h1 h2 hj hm
  rw [show B8 0 = .int .u8 0 from rfl] at HW ⊢
  go_enter Tryz.func157,Tryz.ntmps157
  go_wp2_with fail
  refine Calls.mono (HW.out _) ?_
  rintro e w1 ⟨rfl,rfl⟩
  go_wp2
  go_ret2
  exact ⟨_,rfl,.inl ⟨rfl,rfl⟩,Below.refl _ _⟩
 ·have HB := Lib.hid (fun w => RBytes5_any s k (by omega) w)
  clear h1 h2 hj hm
  rw [show B8 1 = .int .u8 1 from rfl] at HW ⊢
  go_enter Tryz.func157,Tryz.ntmps157
  go_wp2_with fail
  refine Calls.mono (HW.out _) ?_
  rintro e w1 ⟨rfl,rfl⟩
  go_wp2_with fail
  refine Calls.mono (HB.out _) ?_
  rintro e w2 ⟨s',q,c',rfl,ho,hb⟩
  have HO := Lib.hid ho
  have HBB := Lib.hid hb
  clear ho hb
  go_wp2
  go_ret2
  exact ⟨_,rfl,.inr ⟨by decide,q,k,c',rfl,Fresh.of_owns HO.out⟩,HBB.out⟩
set_option maxRecDepth 100000 in
set_option maxHeartbeats 1000000 in
theorem RVector15_any (L t k D O M : Nat) (m : UInt8) (p : Option Addr) (j c s : Nat) (q : Option Addr) (n d : Nat) (xs : List UInt8) (w : World) (hP : POK L t k D) (hm : modeC m = 0) (hj : m = 0 → j = k) :
  Calls Tryz.prog 101 #[PVal L t k D,PkVal m O M m p j c s q n d] w fun e w' => ∃ v,e = .returned v ∧ VecQ m w.heap.size w' v p j c (vecS m xs s k) ∧ Below w.heap.size w w' := by
 have HV := Lib.hid (fun W => RVector14_any m k hm hP.k1 hP.k2 p j c s xs W hj)
 clear hP hm hj
 go_enter Tryz.func101,Tryz.ntmps101
 go_wp2_with fail
 have ba : Below w.heap.size w ((w.alloc (.cells #[.int .i64 (L : Nat),.int .i64 (t : Nat),.int .i64 (k : Nat),.int .u32 (D : Nat)] 97)).alloc (.cells #[B8 m,.int .u32 (O : Nat),.int .u32 (M : Nat),B8 m,.slice p j c,.int .u64 (s : Nat),.slice q n d] 182)) := al (al (Below.refl _ _) (Nat.le_refl _)) (by simp)
 refine Calls.mono (HV.out _) ?_
 rintro e w1 ⟨v1,rfl,h,hb⟩
 have HS : Hid (VecQ m w.heap.size w1 v1 p j c (vecS m xs s k)) := by
  rcases h with h | ⟨h,q1,n1,c1,e1,g⟩
  ·exact .inl h
  ·exact .inr ⟨h,q1,n1,c1,e1,g.mono ba.size⟩
 have HB := Lib.hid (bl ba hb ba.size)
 clear h hb ba
 go_wp2
 go_ret
 exact ⟨v1,rfl,HS.out,HB.out⟩
theorem info_packet15 : (Tryz.prog.info? 182).map (·.size) = some 7 := by kernel_rfl
def RdRet (k t D : Nat) (p : Option Addr) (n c : Nat) (xs : List UInt8) (w : World) (e : Ending) (w' : World) : Prop :=
 Below w.heap.size w w' ∧ ((readC k t D xs = 0 ∧ ∃ q j c1 q2 d2,e = .returned (.tuple #[PkVal (pktM xs) D (pktN xs) (pktM xs) q j c1 (pktS k xs) q2 t d2,.int .i64 0]) ∧ (∀ W,Sl B8 W p n c xs → Sl B8 W q j c1 (pktX k xs)) ∧ (pktM xs = 0 → j = k) ∧ ∀ W,Sl B8 W p n c xs → Sl B8 W q2 t d2 (pktY k t xs)) ∨
  (readC k t D xs ≠ 0 ∧ e = .returned (.tuple #[PkVal 0 0 0 0 none 0 0 0 none 0 0,.int .i64 (readC k t D xs)])))
set_option maxRecDepth 100000 in
set_option maxHeartbeats 2000000 in
theorem RRead15_head (L t k D : Nat) (p : Option Addr) (n c : Nat) (xs : List UInt8) (w : World) (hP : POK L t k D) (h : Sl B8 w p n c xs) (hc : headC xs ≠ 0) :
  Calls Tryz.prog 100 #[PVal L t k D,.slice p n c] w (PZero w (headC xs)) := by
 have HK : Hid (∀ w,Calls Tryz.prog 45 #[PVal L t k D] w fun e w' => e = .returned (.int .i64 0) ∧ Below w.heap.size w w') := fun w => by
  have := RCheck_any (L : Int) (t : Int) (k : Int) (D : Int) w hP.l
  rw [hP.chk] at this; exact this
 have HR : Hid (∀ w,Sl B8 w p n c xs → Calls Tryz.prog 151 #[.slice p n c] w (RHd13z w (headC xs))) := fun w h => Calls.mono (RHead13_any p n c xs w h) fun e w' g => by
  rcases g with ⟨g,-⟩ | ⟨-,g⟩
  ·exact absurd g hc
  ·exact g
 have H := Lib.hid h
 have e0 : (headC xs != 0) = true := bne_iff_ne.2 hc
 generalize headC xs = C at *
 clear hP h hc
 go_enter Tryz.func100,Tryz.ntmps100
 go_wp2_with fail
 refine Calls.mono (HK.out _) ?_
 rintro e w1 ⟨rfl,hb⟩
 obtain ⟨hb1,h1,h2,hs⟩ := two_of hb
 have HB := Lib.hid hb1
 clear hb hb1
 go_wp2_with fail
 refine Calls.mono (HR.out _ (H.out.keep HB.out)) ?_
 rintro e w2 ⟨rfl,hb⟩
 have h1' := (hb.block _ (by omega)).trans h1
 have h2' := (hb.block _ (by omega)).trans h2
 have HB2 := Lib.hid (bl HB.out hb HB.out.size)
 clear hb h1 h2 hs
 go_wp2_with (refine wpList_store_row (o := ⟨none,.store 182 (.tmp 4) (.tmp 31),_,_,_,_⟩) rfl 182 (.tmp 4) (.tmp 31) rfl (w.heap.size + 1) #[.int .u8 0,.int .u32 0,.int .u32 0,.int .u8 0,.slice none 0 0,.int .u64 0,.slice none 0 0] rfl rfl _ _ (hal h2') info_packet15 rfl (by simp [Value.oneCell']) ?_)
 refine bodyPost_ret (res_ct rfl _ _ _ 182 #[.int .u8 0,.int .u32 0,.int .u32 0,.int .u8 0,.slice none 0 0,.int .u64 0,.slice none 0 0] (0,0) _ (.int .i64 C) rfl (hrs (hal h2')) rfl Tryz.underlying182 rfl info_packet15) rfl ?_
 exact ⟨rfl,below_row (al HB2.out HB2.out.size) (by omega)⟩
structure Rd15 (w W : World) (gp gr gh gs L t k D : Nat) (m : UInt8) (O M C : Nat) : Prop where
 bel : Below w.heap.size w W
 p : W.heap[gp]? = some (.cells #[.int .i64 (L : Nat),.int .i64 (t : Nat),.int .i64 (k : Nat),.int .u32 (D : Nat)] 97 (0,0))
 r : W.heap[gr]? = some (.cells #[.int .u8 0,.int .u32 0,.int .u32 0,.int .u8 0,.slice none 0 0,.int .u64 0,.slice none 0 0] 182 (0,0))
 h : W.heap[gh]? = some (.cells #[B8 m,.int .u32 (O : Nat),.int .u32 (M : Nat)] 180 (0,0))
 s : W.heap[gs]? = some (.cells ((put4 C).map B8).toArray 5 (0,0))
 rb : w.heap.size ≤ gr
theorem Rd15.keep {w W W' : World} {gp gr gh gs L t k D O M C : Nat} {m : UInt8} (h : Rd15 w W gp gr gh gs L t k D m O M C) (hb : Below W.heap.size W W') : Rd15 w W' gp gr gh gs L t k D m O M C :=
 ⟨bl h.bel hb h.bel.size,(hb.block _ (lt_of_block h.p)).trans h.p,(hb.block _ (lt_of_block h.r)).trans h.r,(hb.block _ (lt_of_block h.h)).trans h.h,(hb.block _ (lt_of_block h.s)).trans h.s,h.rb⟩
set_option maxRecDepth 100000 in
set_option maxHeartbeats 4000000 in
theorem RRead15_body (L t k D b o n c : Nat) (xs : List UInt8) (w : World) (hP : POK L t k D) (h : Sl B8 w (some ⟨b,o,none⟩) n c xs) (hc : headC xs = 0) (h10 : 10 ≤ n) :
  Calls Tryz.prog 100 #[PVal L t k D,.slice (some ⟨b,o,none⟩) n c] w (RdRet k t D (some ⟨b,o,none⟩) n c xs w) := by
 have HK : Hid (∀ w,Calls Tryz.prog 45 #[PVal L t k D] w fun e w' => e = .returned (.int .i64 0) ∧ Below w.heap.size w w') := fun w => by
  have := RCheck_any (L : Int) (t : Int) (k : Int) (D : Int) w hP.l
  rw [hP.chk] at this; exact this
 have HR : Hid (∀ w,Sl B8 w (some ⟨b,o,none⟩) n c xs → Calls Tryz.prog 151 #[.slice (some ⟨b,o,none⟩) n c] w (RHd13 w b o n c (xs.getD 1 0) (get4 ((xs.drop 2).take 4)) (get4 ((xs.drop 6).take 4)))) := fun w h => Calls.mono (RHead13_any _ n c xs w h) fun e w' g => by
  rcases g with ⟨-,b',o',e1,-,g⟩ | ⟨g,-⟩
  ·cases e1; exact g
  ·exact absurd hc g
 have hm := headC_mode hc
 have HN := Lib.hid (fun w => RLength15_ok L t k D (xs.getD 1 0) w hP hm)
 have HWD := Lib.hid (fun w => RWidth14_any (xs.getD 1 0) k hm hP.k1 hP.k2 w)
 have H := Lib.hid h
 have hl := h.len
 have hle := h.le
 have hmx := h.max
 unfold maxLen at hmx
 have hcl : crcS (xs.take (n - 4)) < 4294967296 := crcS_lt _
 -- what the answer is
 have HQ : Hid (∀ e w',(Below w.heap.size w w' ∧ readC k t D xs ≠ 0 ∧ e = .returned (.tuple #[PkVal 0 0 0 0 none 0 0 0 none 0 0,.int .i64 (readC k t D xs)])) → RdRet k t D (some ⟨b,o,none⟩) n c xs w e w') := fun e w' g => ⟨g.1,.inr g.2⟩
 have HRC : Hid ((n ≠ lenP (xs.getD 1 0) k t → readC k t D xs = 4) ∧ (n = lenP (xs.getD 1 0) k t → get4 ((xs.drop (n - 4)).take 4) ≠ crcS (xs.take (n - 4)) → readC k t D xs = 10) ∧ (n = lenP (xs.getD 1 0) k t → get4 ((xs.drop (n - 4)).take 4) = crcS (xs.take (n - 4)) → get4 ((xs.drop 2).take 4) ≠ D → readC k t D xs = 9) ∧ (n = lenP (xs.getD 1 0) k t → get4 ((xs.drop (n - 4)).take 4) = crcS (xs.take (n - 4)) → get4 ((xs.drop 2).take 4) = D → readC k t D xs = 0)) := by
  unfold readC
  rw [hl,if_neg (Classical.not_not.2 hc)]
  refine ⟨fun g => if_pos g,fun g g2 => ?_,fun g g2 g3 => ?_,fun g g2 g3 => ?_⟩
  ·rw [if_neg (Classical.not_not.2 g),if_pos g2]
  ·rw [if_neg (Classical.not_not.2 g),if_neg (Classical.not_not.2 g2),if_pos g3]
  ·rw [if_neg (Classical.not_not.2 g),if_neg (Classical.not_not.2 g2),if_neg (Classical.not_not.2 g3)]
 have HPX : Hid (pktM xs = xs.getD 1 0 ∧ pktN xs = get4 ((xs.drop 6).take 4) ∧ pktX k xs = rdX (xs.getD 1 0) ((xs.drop 10).take (widS (xs.getD 1 0) k)) ∧ pktS k xs = rdS (xs.getD 1 0) ((xs.drop 10).take (widS (xs.getD 1 0) k)) ∧ pktY k t xs = (xs.drop (10 + widS (xs.getD 1 0) k)).take t) := ⟨rfl,rfl,rfl,rfl,rfl⟩
 have hm2 : xs.getD 1 0 = 0 ∨ xs.getD 1 0 = 1 := by
  unfold modeC at hm
  by_cases h : xs.getD 1 0 = 0 ∨ xs.getD 1 0 = 1
  ·exact h
  ·rw [if_neg h] at hm; cases hm
 have HM2 := Lib.hid hm2
 generalize xs.getD 1 0 = m at *
 generalize get4 ((xs.drop 2).take 4) = O at *
 generalize get4 ((xs.drop 6).take 4) = M at *
 clear hP h hc hm hm2
 go_enter Tryz.func100,Tryz.ntmps100
 go_wp2_with fail
 refine Calls.mono (HK.out _) ?_
 rintro e w1 ⟨rfl,hb⟩
 obtain ⟨hb1,h1,h2,hs⟩ := two_of hb
 have HB := Lib.hid hb1
 clear hb hb1
 go_wp2_with fail
 refine Calls.mono (HR.out _ (H.out.keep HB.out)) ?_
 rintro e w2 ⟨rfl,hb⟩
 generalize hqr : (if c = 10 then (some ⟨b,o,none⟩ : Option Addr) else some ⟨b,o + 10,none⟩) = qr
 have HQR := Lib.hid hqr
 have h1' := (hb.block _ (by omega)).trans h1
 have h2' := (hb.block _ (by omega)).trans h2
 have HB2 := Lib.hid (bl HB.out hb HB.out.size)
 have HGR : Hid (w.heap.size ≤ w.heap.size + 1) := Nat.le_succ _
 obtain ⟨gr,hgr⟩ : ∃ gr,gr = w.heap.size + 1 := ⟨_,rfl⟩
 obtain ⟨gp,hgp⟩ : ∃ gp,gp = w.heap.size := ⟨_,rfl⟩
 rw [← hgr] at h2' HGR ⊢
 rw [← hgp] at h1' ⊢
 clear hb h1 h2 hs hqr HR HK hgr hgp
 have c0 : ∀ o',(w2.alloc o').cell? ⟨gp,0,none⟩ = _ := fun _ => calloc (cells_four h1').1
 have c1 : ∀ o',(w2.alloc o').cell? ⟨gp,1,none⟩ = _ := fun _ => calloc (cells_four h1').2.1
 have c2 : ∀ o',(w2.alloc o').cell? ⟨gp,2,none⟩ = _ := fun _ => calloc (cells_four h1').2.2.1
 have c3 : ∀ o',(w2.alloc o').cell? ⟨gp,3,none⟩ = _ := fun _ => calloc (cells_four h1').2.2.2
 go_wp2_with fail
 refine Calls.mono (HN.out _) ?_
 rintro e w3 ⟨rfl,hb⟩
 obtain ⟨hb3,h3,hs3⟩ := one_of hb
 have h1 := (hb3.block _ (lt_of_block h1')).trans h1'
 have h2 := (hb3.block _ (lt_of_block h2')).trans h2'
 have HB3 := Lib.hid (bl HB2.out hb3 HB2.out.size)
 clear hb hb3 h1' h2' c0 c1 c2 c3 HB HB2 HN
 generalize w2.heap.size = gh at *
 by_cases hN : n = lenP m k t
 ·have hn4 : 14 ≤ n := by rw [hN]; unfold lenP; omega
  have HNL : Hid (n = 10 + widS m k + t + 4) := hN
  obtain ⟨E,hE⟩ : ∃ E,E = n - 4 := ⟨_,rfl⟩
  have eE : (n : Int) - 4 = (E : Int) := by omega
  rw [← hE] at hcl HRC
  have HE : Hid (n = E + 4) := by show n = E + 4; omega
  have EW : Hid (IntKind.i64.wrap (E : Int) = (E : Int)) := by show _ = _; rw [IntKind.wrap_i64]; omega
  have hnb : n ≤ 9223372036854775807 := by omega
  have r2 := HRC.out.2.1 hN
  have r3 := HRC.out.2.2.1 hN
  have r4 := HRC.out.2.2.2 hN
  have HR2 := Lib.hid r2
  have HR3 := Lib.hid r3
  have HR4 := Lib.hid r4
  have hSum : ∀ W,Sl B8 W (some ⟨b,o,none⟩) E c (xs.take E) → Calls Tryz.prog 154 #[.slice (some ⟨b,o,none⟩) E c] W fun e w' => e = .returned (.int .u32 (crcS (xs.take E) : Nat)) ∧ W = w' := fun W h => RSum4_any _ _ _ _ W h
  have HSum := Lib.hid hSum
  have SE := Lib.hid (Sl.front' (k := E) H.out (by omega))
  generalize crcS (xs.take E) = C at *
  rw [← hN]
  have hx4 : E + 4 ≤ xs.length := by rw [hl]; omega
  have HSB := Lib.hid (sum_bytes hx4 hcl)
  have HPut := Lib.hid (fun W => RPut4_any C hcl W)
  have hqr : qr = some ⟨b,o + 10,none⟩ := by rw [← HQR.out,if_neg (by omega)]
  have HH3 := Lib.hid h3
  have HH2 := Lib.hid h2
  have HH1 := Lib.hid h1
  subst hqr
  clear hN r2 r3 r4 HRC hSum hx4 hcl h1 h2 h3 HQR hE
  have ea1 : (E : Int) ≤ (c : Int) := by omega
  have ea2 : (E : Int) ≤ (n : Int) := by omega
  go_wp2_with fail
  refine Calls.mono (HSum.out _ (SE.out.keep HB3.out)) ?_
  rintro e w4 ⟨rfl,rfl⟩
  go_wp2_with fail
  refine Calls.mono (HPut.out _) ?_
  rintro e w5 ⟨gs,rfl,hgs,hp4,hb⟩
  have HD : Hid (Rd15 w w5 gp gr gh gs L t k D m O M C) := ⟨bl HB3.out hb HB3.out.size,(hb.block _ (lt_of_block HH1.out)).trans HH1.out,(hb.block _ (lt_of_block HH2.out)).trans HH2.out,(hb.block _ (lt_of_block HH3.out)).trans HH3.out,hp4,HGR.out⟩
  clear hb hgs hp4 HB3 HH1 HH2 HH3 SE HSum HPut ea1 ea2 hs3
  go_wp2
  go_loopw [13] (fun iv wr => ∃ i : Nat,i ≤ 4 ∧ iv = .int .i64 (i : Nat) ∧ Hid (∀ j,j < i → xs[E + j]? = (put4 C)[j]?) ∧ Hid (Rd15 w wr gp gr gh gs L t k D m O M C)) (fun iv _ => 4 - (intOf iv).toNat)
  case atStart => exact ⟨0,by omega,rfl,fun j hj => by omega,HD.out⟩
  case round =>
   obtain ⟨i,hi,rfl,HJ,HR⟩ := hrel
   clear HD
   by_cases hi4 : i < 4
   ·have hi4' : (i : Int) < 4 := by omega
    obtain ⟨ei,hei⟩ : ∃ ei,ei = E + i := ⟨_,rfl⟩
    have hein : ei < n := by have := HE.out; omega
    obtain ⟨b',o',x,e1,hx,hxe⟩ := (H.out.keep HR.out.bel).at ei hein
    cases e1
    obtain ⟨z,hz⟩ : ∃ z,(put4 C)[i]? = some z := ⟨_,List.getElem?_eq_getElem (by rw [put4_len]; exact hi4)⟩
    have hzc : wr.cell? ⟨gs,i,none⟩ = some (B8 z) := by
     rw [cell_of_row _ _ i _ _ _ HR.out.s,List.getElem?_toArray,List.getElem?_map,hz]; rfl
    have eEI : IntKind.i64.wrap ((E : Int) + (i : Int)) = (ei : Int) := by rw [hei,IntKind.wrap_i64]; omega
    have hein' : (ei : Int) < (n : Int) := by omega
    have HXE : Hid (xs[E + i]? = some x) := by show _ = _; rw [← hei]; exact hxe.out
    have HZ := Lib.hid hz
    have HI4 := Lib.hid hi4
    clear hxe hz hei hi4
    by_cases hxz : x = z
    ·have hd : ((x.toNat : Int) != (z.toNat : Int)) = false := by rw [hxz]; simp
     have HJ2 : Hid (∀ j,j < i + 1 → xs[E + j]? = (put4 C)[j]?) := fun j hj => by
      by_cases h : j = i
      ·rw [h,HXE.out,HZ.out,hxz]
      ·exact HJ.out j (by omega)
     clear hxz HJ
     go_wp2_with fail
     refine wp_region_shapes (fun ix => ([.val (.slice (some ⟨b,o,none⟩) n c),.val (.int .i64 (n : Nat)),.val (.int .i64 (E : Nat)),.val (.int .i64 (i : Nat)),.val (.int .i64 (ei : Nat)),.val (.pointer (some ⟨b,o + ei,none⟩)),.val (B8 x),.val (.slice (some ⟨gs,0,none⟩) 4 4),.val (.int .i64 (i : Nat)),.val (.pointer (some ⟨gs,i,none⟩)),.val (B8 z),.val (.bool false)][ix]?).getD (.any)) 105 rfl (by kernel_rfl) (by decide +kernel) (by decide +kernel) (by decide +kernel) ?_ ?_
     ·refine ⟨?_,?_,?_,?_,?_,?_,?_,?_,?_,?_,?_,?_,trivial⟩
      ·intro a W hb0 hs hp hi; have hb := undrew hb0; clear hb0
       have t1 : sl a 1 = .slice (some ⟨b,o,none⟩) n c := hi 1 (by decide)
       exact ite_y rfl (wp_val (sl a 1) rfl ⟨_,rfl,Below.refl _ _,t1⟩)
      ·intro a W hb0 hs hp hi; have hb := undrew hb0; clear hb0
       have t10 : sl a 10 = .int .i64 (n : Nat) := hi 10 (by decide)
       exact ite_y rfl (wp_val (sl a 10) rfl ⟨_,rfl,Below.refl _ _,t10⟩)
      ·intro a W hb0 hs hp hi; have hb := undrew hb0; clear hb0
       have t56 : sl a 56 = .int .i64 (n : Nat) := hp 1 (by decide)
       refine ite_y rfl (wp_val (.int .i64 (E : Nat)) ?_ ?_)
       ·simp only [execOp,eval_tmp,eval_const,t56]; simp [go_sem,eE,EW.out]
       ·exact ⟨_,rfl,Below.refl _ _,rfl⟩
      ·intro a W hb0 hs hp hi; have hb := undrew hb0; clear hb0
       have t13 : sl a 13 = .int .i64 (i : Nat) := hi 13 (by decide)
       exact ite_y rfl (wp_val (sl a 13) rfl ⟨_,rfl,Below.refl _ _,t13⟩)
      ·intro a W hb0 hs hp hi; have hb := undrew hb0; clear hb0
       have t57 : sl a 57 = .int .i64 (E : Nat) := hp 2 (by decide)
       have t58 : sl a 58 = .int .i64 (i : Nat) := hp 3 (by decide)
       refine ite_y rfl (wp_val (.int .i64 (ei : Nat)) ?_ ?_)
       ·simp only [execOp,eval_tmp,eval_const,t57,t58]; simp [go_sem,eEI]
       ·exact ⟨_,rfl,Below.refl _ _,rfl⟩
      ·intro a W hb0 hs hp hi; have hb := undrew hb0; clear hb0
       have ti0 : sl a 55 = .slice (some ⟨b,o,none⟩) n c := hp 0 (by decide)
       have ti1 : sl a 59 = .int .i64 (ei : Nat) := hp 4 (by decide)
       refine ite_y rfl (wp_val (.pointer (some ⟨b,o + ei,none⟩)) ?_ ?_)
       ·simp only [execOp,eval_tmp,eval_const,ti0,ti1]; simp [go_sem,hein']
       ·exact ⟨_,rfl,Below.refl _ _,rfl⟩
      ·intro a W hb0 hs hp hi; have hb := undrew hb0; clear hb0
       have tt : sl a 60 = .pointer (some ⟨b,o + ei,none⟩) := hp 5 (by decide)
       have dd := (hb.cell (p := ⟨b,o + ei,none⟩) (lt_of_cell hx)).trans hx
       refine ite_y rfl (wp_val (B8 x) ?_ ?_)
       ·simp only [execOp,eval_tmp,tt]; simp [go_sem,dd]
       ·exact ⟨_,rfl,Below.refl _ _,rfl⟩
      ·intro a W hb0 hs hp hi; have hb := undrew hb0; clear hb0
       have t12 : sl a 12 = .slice (some ⟨gs,0,none⟩) 4 4 := hi 12 (by decide)
       exact ite_y rfl (wp_val (sl a 12) rfl ⟨_,rfl,Below.refl _ _,t12⟩)
      ·intro a W hb0 hs hp hi; have hb := undrew hb0; clear hb0
       have t13 : sl a 13 = .int .i64 (i : Nat) := hi 13 (by decide)
       exact ite_y rfl (wp_val (sl a 13) rfl ⟨_,rfl,Below.refl _ _,t13⟩)
      ·intro a W hb0 hs hp hi; have hb := undrew hb0; clear hb0
       have ti0 : sl a 62 = .slice (some ⟨gs,0,none⟩) 4 4 := hp 7 (by decide)
       have ti1 : sl a 63 = .int .i64 (i : Nat) := hp 8 (by decide)
       refine ite_y rfl (wp_val (.pointer (some ⟨gs,i,none⟩)) ?_ ?_)
       ·simp only [execOp,eval_tmp,eval_const,ti0,ti1]; simp [go_sem,hi4']
       ·exact ⟨_,rfl,Below.refl _ _,rfl⟩
      ·intro a W hb0 hs hp hi; have hb := undrew hb0; clear hb0
       have tt : sl a 64 = .pointer (some ⟨gs,i,none⟩) := hp 9 (by decide)
       have dd := (hb.cell (p := ⟨gs,i,none⟩) (lt_of_cell hzc)).trans hzc
       refine ite_y rfl (wp_val (B8 z) ?_ ?_)
       ·simp only [execOp,eval_tmp,tt]; simp [go_sem,dd]
       ·exact ⟨_,rfl,Below.refl _ _,rfl⟩
      ·intro a W hb0 hs hp hi; have hb := undrew hb0; clear hb0
       have t61 : sl a 61 = B8 x := hp 6 (by decide)
       have t65 : sl a 65 = B8 z := hp 10 (by decide)
       refine ite_y rfl (wp_val (.bool false) ?_ ?_)
       ·simp only [execOp,eval_tmp,eval_const,t61,t65]; simp [go_sem,hd]
       ·exact ⟨_,rfl,Below.refl _ _,rfl⟩
     intro a w6 hb hs hd hI ht
     have ha := act_is [55,56,57,58,59,60,61,62,63,64,65,66] hs hd ht (by decide)
     have t66 : sl a 66 = .bool false := hI 11 (by decide)
     simp only [List.foldl,t66] at ha
     generalize sl a 55 = u55 at ha
     generalize sl a 56 = u56 at ha
     generalize sl a 57 = u57 at ha
     generalize sl a 58 = u58 at ha
     generalize sl a 59 = u59 at ha
     generalize sl a 60 = u60 at ha
     generalize sl a 61 = u61 at ha
     generalize sl a 62 = u62 at ha
     generalize sl a 63 = u63 at ha
     generalize sl a 64 = u64 at ha
     generalize sl a 65 = u65 at ha
     simp only [Act.put,List.setIfInBounds_toArray,List.set_cons_zero,List.set_cons_succ] at ha
     rw [ha]
     clear ha hI ht
     have HR6 := Lib.hid (HR.out.keep hb)
     clear hb HR hx hzc hd eEI hein'
     go_wp2
     go_roundw
     case rel => exact ⟨i + 1,by have := HI4.out; omega,by go_num,HJ2.out,HR6.out⟩
     case measure => simp [intOf]; have := HI4.out; omega
    ·have hd : ((x.toNat : Int) != (z.toNat : Int)) = true := bne_iff_ne.2 fun e => hxz (UInt8.toNat_inj.1 (by omega))
     have h10 : readC k t D xs = 10 := HR2.out fun e => hxz (by
      have := (HSB.out.2 e) i HI4.out
      rw [HXE.out,HZ.out] at this
      exact Option.some.inj this)
     have HR10 := Lib.hid h10
     clear hxz HJ h10
     go_wp2_with fail
     refine wp_region_shapes (fun ix => ([.val (.slice (some ⟨b,o,none⟩) n c),.val (.int .i64 (n : Nat)),.val (.int .i64 (E : Nat)),.val (.int .i64 (i : Nat)),.val (.int .i64 (ei : Nat)),.val (.pointer (some ⟨b,o + ei,none⟩)),.val (B8 x),.val (.slice (some ⟨gs,0,none⟩) 4 4),.val (.int .i64 (i : Nat)),.val (.pointer (some ⟨gs,i,none⟩)),.val (B8 z),.val (.bool true)][ix]?).getD (.any)) 105 rfl (by kernel_rfl) (by decide +kernel) (by decide +kernel) (by decide +kernel) ?_ ?_
     ·refine ⟨?_,?_,?_,?_,?_,?_,?_,?_,?_,?_,?_,?_,trivial⟩
      ·intro a W hb0 hs hp hi; have hb := undrew hb0; clear hb0
       have t1 : sl a 1 = .slice (some ⟨b,o,none⟩) n c := hi 1 (by decide)
       exact ite_y rfl (wp_val (sl a 1) rfl ⟨_,rfl,Below.refl _ _,t1⟩)
      ·intro a W hb0 hs hp hi; have hb := undrew hb0; clear hb0
       have t10 : sl a 10 = .int .i64 (n : Nat) := hi 10 (by decide)
       exact ite_y rfl (wp_val (sl a 10) rfl ⟨_,rfl,Below.refl _ _,t10⟩)
      ·intro a W hb0 hs hp hi; have hb := undrew hb0; clear hb0
       have t56 : sl a 56 = .int .i64 (n : Nat) := hp 1 (by decide)
       refine ite_y rfl (wp_val (.int .i64 (E : Nat)) ?_ ?_)
       ·simp only [execOp,eval_tmp,eval_const,t56]; simp [go_sem,eE,EW.out]
       ·exact ⟨_,rfl,Below.refl _ _,rfl⟩
      ·intro a W hb0 hs hp hi; have hb := undrew hb0; clear hb0
       have t13 : sl a 13 = .int .i64 (i : Nat) := hi 13 (by decide)
       exact ite_y rfl (wp_val (sl a 13) rfl ⟨_,rfl,Below.refl _ _,t13⟩)
      ·intro a W hb0 hs hp hi; have hb := undrew hb0; clear hb0
       have t57 : sl a 57 = .int .i64 (E : Nat) := hp 2 (by decide)
       have t58 : sl a 58 = .int .i64 (i : Nat) := hp 3 (by decide)
       refine ite_y rfl (wp_val (.int .i64 (ei : Nat)) ?_ ?_)
       ·simp only [execOp,eval_tmp,eval_const,t57,t58]; simp [go_sem,eEI]
       ·exact ⟨_,rfl,Below.refl _ _,rfl⟩
      ·intro a W hb0 hs hp hi; have hb := undrew hb0; clear hb0
       have ti0 : sl a 55 = .slice (some ⟨b,o,none⟩) n c := hp 0 (by decide)
       have ti1 : sl a 59 = .int .i64 (ei : Nat) := hp 4 (by decide)
       refine ite_y rfl (wp_val (.pointer (some ⟨b,o + ei,none⟩)) ?_ ?_)
       ·simp only [execOp,eval_tmp,eval_const,ti0,ti1]; simp [go_sem,hein']
       ·exact ⟨_,rfl,Below.refl _ _,rfl⟩
      ·intro a W hb0 hs hp hi; have hb := undrew hb0; clear hb0
       have tt : sl a 60 = .pointer (some ⟨b,o + ei,none⟩) := hp 5 (by decide)
       have dd := (hb.cell (p := ⟨b,o + ei,none⟩) (lt_of_cell hx)).trans hx
       refine ite_y rfl (wp_val (B8 x) ?_ ?_)
       ·simp only [execOp,eval_tmp,tt]; simp [go_sem,dd]
       ·exact ⟨_,rfl,Below.refl _ _,rfl⟩
      ·intro a W hb0 hs hp hi; have hb := undrew hb0; clear hb0
       have t12 : sl a 12 = .slice (some ⟨gs,0,none⟩) 4 4 := hi 12 (by decide)
       exact ite_y rfl (wp_val (sl a 12) rfl ⟨_,rfl,Below.refl _ _,t12⟩)
      ·intro a W hb0 hs hp hi; have hb := undrew hb0; clear hb0
       have t13 : sl a 13 = .int .i64 (i : Nat) := hi 13 (by decide)
       exact ite_y rfl (wp_val (sl a 13) rfl ⟨_,rfl,Below.refl _ _,t13⟩)
      ·intro a W hb0 hs hp hi; have hb := undrew hb0; clear hb0
       have ti0 : sl a 62 = .slice (some ⟨gs,0,none⟩) 4 4 := hp 7 (by decide)
       have ti1 : sl a 63 = .int .i64 (i : Nat) := hp 8 (by decide)
       refine ite_y rfl (wp_val (.pointer (some ⟨gs,i,none⟩)) ?_ ?_)
       ·simp only [execOp,eval_tmp,eval_const,ti0,ti1]; simp [go_sem,hi4']
       ·exact ⟨_,rfl,Below.refl _ _,rfl⟩
      ·intro a W hb0 hs hp hi; have hb := undrew hb0; clear hb0
       have tt : sl a 64 = .pointer (some ⟨gs,i,none⟩) := hp 9 (by decide)
       have dd := (hb.cell (p := ⟨gs,i,none⟩) (lt_of_cell hzc)).trans hzc
       refine ite_y rfl (wp_val (B8 z) ?_ ?_)
       ·simp only [execOp,eval_tmp,tt]; simp [go_sem,dd]
       ·exact ⟨_,rfl,Below.refl _ _,rfl⟩
      ·intro a W hb0 hs hp hi; have hb := undrew hb0; clear hb0
       have t61 : sl a 61 = B8 x := hp 6 (by decide)
       have t65 : sl a 65 = B8 z := hp 10 (by decide)
       refine ite_y rfl (wp_val (.bool true) ?_ ?_)
       ·simp only [execOp,eval_tmp,eval_const,t61,t65]; simp [go_sem,hd]
       ·exact ⟨_,rfl,Below.refl _ _,rfl⟩
     intro a w6 hb hs hd hI ht
     have ha := act_is [55,56,57,58,59,60,61,62,63,64,65,66] hs hd ht (by decide)
     have t66 : sl a 66 = .bool true := hI 11 (by decide)
     simp only [List.foldl,t66] at ha
     generalize sl a 55 = u55 at ha
     generalize sl a 56 = u56 at ha
     generalize sl a 57 = u57 at ha
     generalize sl a 58 = u58 at ha
     generalize sl a 59 = u59 at ha
     generalize sl a 60 = u60 at ha
     generalize sl a 61 = u61 at ha
     generalize sl a 62 = u62 at ha
     generalize sl a 63 = u63 at ha
     generalize sl a 64 = u64 at ha
     generalize sl a 65 = u65 at ha
     simp only [Act.put,List.setIfInBounds_toArray,List.set_cons_zero,List.set_cons_succ] at ha
     rw [ha]
     clear ha hI ht
     have HR6 := Lib.hid (HR.out.keep hb)
     have hr6 := HR6.out.r
     clear hb HR hx hzc hd eEI hein'
     go_wp2_with (refine wpList_store_row (o := ⟨none,.store 182 (.tmp 4) (.tmp 67),_,_,_,_⟩) rfl 182 (.tmp 4) (.tmp 67) rfl gr #[.int .u8 0,.int .u32 0,.int .u32 0,.int .u8 0,.slice none 0 0,.int .u64 0,.slice none 0 0] rfl rfl _ _ hr6 info_packet15 rfl (by simp [Value.oneCell']) ?_)
     refine bodyPost_ret (res_ct rfl _ _ _ 182 #[.int .u8 0,.int .u32 0,.int .u32 0,.int .u8 0,.slice none 0 0,.int .u64 0,.slice none 0 0] (0,0) _ (.int .i64 10) rfl (hrs hr6) rfl Tryz.underlying182 rfl info_packet15) rfl ?_
     exact HQ.out _ _ ⟨below_row HR6.out.bel HR6.out.rb,by rw [HR10.out]; decide,by rw [HR10.out]; rfl⟩
   ·obtain rfl : i = 4 := by omega
    have hsum := HSB.out.1 HJ.out
    have HSM := Lib.hid hsum
    clear hi4 hi HJ hsum
    obtain ⟨p0,p1,p2,p3⟩ := cells_four HR.out.p
    obtain ⟨d0,d1,d2⟩ := cells_three HR.out.h
    by_cases hO : O = D
    ·have hod : ((O : Int) != (D : Int)) = false := by rw [hO]; simp
     have HR0 := Lib.hid (HR4.out HSM.out hO)
     have HOD := Lib.hid hO
     clear hO
     have a0 : ∀ o',(wr.alloc o').cell? ⟨gh,0,none⟩ = _ := fun _ => calloc d0
     have a2 : ∀ o',(wr.alloc o').cell? ⟨gp,2,none⟩ = _ := fun _ => calloc p2
     go_wp2_with fail
     refine Calls.mono (HWD.out _) ?_
     rintro e w6 ⟨rfl,rfl⟩
     have ba : Below wr.heap.size wr (wr.alloc (.cells #[B8 m,.int .u32 (O : Nat),.int .u32 (M : Nat),B8 m,.slice none 0 0,.int .u64 0,.slice none 0 0] 182 (0,0))) := al (Below.refl _ _) (Nat.le_refl _)
     have k7 : (wr.alloc (.cells #[B8 m,.int .u32 (O : Nat),.int .u32 (M : Nat),B8 m,.slice none 0 0,.int .u64 0,.slice none 0 0] 182 (0,0))).heap[wr.heap.size]? = some (.cells #[B8 m,.int .u32 (O : Nat),.int .u32 (M : Nat),B8 m,.slice none 0 0,.int .u64 0,.slice none 0 0] 182 (0,0)) := hnew rfl
     have HR6 := Lib.hid (HR.out.keep ba)
     have HG7 : Hid (w.heap.size ≤ wr.heap.size ∧ gr < wr.heap.size ∧ gh < wr.heap.size ∧ gp < wr.heap.size) := ⟨HR.out.bel.size,lt_of_block HR.out.r,lt_of_block HR.out.h,lt_of_block HR.out.p⟩
     obtain ⟨g7,hg7⟩ : ∃ g7,g7 = wr.heap.size := ⟨_,rfl⟩
     rw [← hg7] at k7 HG7
     clear a0 a2 p0 p1 p2 p3 d0 d1 d2 ba HR
     rcases HM2.out with hm0 | hm1
     ·subst hm0
      rw [show widS 0 k = k from if_pos rfl] at HNL HPX ⊢
      rw [← hg7]
      clear hg7
      generalize wr.alloc (.cells #[B8 0,.int .u32 (O : Nat),.int .u32 (M : Nat),B8 0,.slice none 0 0,.int .u64 0,.slice none 0 0] 182 (0,0)) = w7 at *
      obtain ⟨d0,d1,d2⟩ := cells_three HR6.out.h
      obtain ⟨p0,p1,p2,p3⟩ := cells_four HR6.out.p
      have z4 := frozen_of_row _ _ 4 _ _ k7
      obtain ⟨f0,f1,f2,f3,f4,f5,f6⟩ := cells_seven k7
      have hV : 14 + k + t ≤ n := by have := HNL.out; omega
      have hcn : 14 ≤ c := by omega
      have eb1 : (k : Int) ≤ ((c - 10 : Nat) : Int) := by omega
      have eb2 : (k : Int) ≤ ((n - 10 : Nat) : Int) := by omega
      have hk65 : k ≤ n := by omega
      go_upto_region 23 with (fail)
      have k8 : (w7.setCell ⟨g7,4,none⟩ (.slice (some ⟨b,o + 10,none⟩) k (c - 10))).heap[g7]? = some (.cells #[B8 0,.int .u32 (O : Nat),.int .u32 (M : Nat),B8 0,.slice (some ⟨b,o + 10,none⟩) k (c - 10),.int .u64 0,.slice none 0 0] 182 (0,0)) := hss k7
      have q1 : (w7.setCell ⟨g7,4,none⟩ (.slice (some ⟨b,o + 10,none⟩) k (c - 10))).heap[gr]? = _ := hsc HR6.out.r (by have := HG7.out; simp; omega)
      have q2 : (w7.setCell ⟨g7,4,none⟩ (.slice (some ⟨b,o + 10,none⟩) k (c - 10))).heap[gp]? = _ := hsc HR6.out.p (by have := HG7.out; simp; omega)
      have HB8 := Lib.hid (HR6.out.bel.setCell (p := ⟨g7,4,none⟩) (by have := HG7.out; simp; omega) (.slice (some ⟨b,o + 10,none⟩) k (c - 10)))
      generalize w7.setCell ⟨g7,4,none⟩ (.slice (some ⟨b,o + 10,none⟩) k (c - 10)) = w8 at *
      have HRB := Lib.hid HR6.out.rb
      clear k7 HR6 z4 f0 f1 f2 f3 f4 f5 f6 d0 d1 d2 p0 p1 p2 p3 eb1 eb2 hk65
      obtain ⟨p0,p1,p2,p3⟩ := cells_four q2
      have z6 := frozen_of_row _ _ 6 _ _ k8
      obtain ⟨f0,f1,f2,f3,f4,f5,f6⟩ := cells_seven k8
      have ec1 : (k : Int) ≤ ((k : Nat) : Int) + (t : Int) := by omega
      have ec2 : ((k : Nat) : Int) + (t : Int) ≤ ((c - 10 : Nat) : Int) := by omega
      have ec3 : ¬ (c - 10 = k) := by omega
      have ec4 : k + t - k = t := by omega
      go_upto_region 24 with (fail)
      have k9 : (w8.setCell ⟨g7,6,none⟩ (.slice (some ⟨b,o + 10 + k,none⟩) t (c - 10 - k))).heap[g7]? = some (.cells #[B8 0,.int .u32 (O : Nat),.int .u32 (M : Nat),B8 0,.slice (some ⟨b,o + 10,none⟩) k (c - 10),.int .u64 0,.slice (some ⟨b,o + 10 + k,none⟩) t (c - 10 - k)] 182 (0,0)) := hss k8
      have r9 : (w8.setCell ⟨g7,6,none⟩ (.slice (some ⟨b,o + 10 + k,none⟩) t (c - 10 - k))).heap[gr]? = _ := hsc q1 (by have := HG7.out; simp; omega)
      have HB9 := Lib.hid (HB8.out.setCell (p := ⟨g7,6,none⟩) (by have := HG7.out; simp; omega) (.slice (some ⟨b,o + 10 + k,none⟩) t (c - 10 - k)))
      generalize w8.setCell ⟨g7,6,none⟩ (.slice (some ⟨b,o + 10 + k,none⟩) t (c - 10 - k)) = w9 at *
      clear k8 q1 q2 HB8 z6 f0 f1 f2 f3 f4 f5 f6 p0 p1 p2 p3 ec1 ec2 ec3 ec4
      obtain ⟨f0,f1,f2,f3,f4,f5,f6⟩ := cells_seven k9
      go_wp2_with (refine wpList_store_row (o := ⟨none,.store 182 (.tmp 4) (.tmp 104),_,_,_,_⟩) rfl 182 (.tmp 4) (.tmp 104) rfl gr #[B8 0,.int .u32 (O : Nat),.int .u32 (M : Nat),B8 0,.slice (some ⟨b,o + 10,none⟩) k (c - 10),.int .u64 0,.slice (some ⟨b,o + 10 + k,none⟩) t (c - 10 - k)] rfl rfl _ _ r9 info_packet15 rfl (by simp [Value.oneCell']) ?_)
      refine bodyPost_ret (res_ct rfl _ _ _ 182 #[B8 0,.int .u32 (O : Nat),.int .u32 (M : Nat),B8 0,.slice (some ⟨b,o + 10,none⟩) k (c - 10),.int .u64 0,.slice (some ⟨b,o + 10 + k,none⟩) t (c - 10 - k)] (0,0) _ (.int .i64 0) rfl (hrs r9) rfl Tryz.underlying182 rfl info_packet15) rfl ?_
      have HBZ := below_row (cs := #[B8 0,.int .u32 (O : Nat),.int .u32 (M : Nat),B8 0,.slice (some ⟨b,o + 10,none⟩) k (c - 10),.int .u64 0,.slice (some ⟨b,o + 10 + k,none⟩) t (c - 10 - k)]) HB9.out HRB.out
      refine ⟨HBZ,.inl ⟨HR0.out,?_⟩⟩
      obtain ⟨x1,x2,x3,x4,x5⟩ := HPX.out
      rw [x1,x2,x3,x4,x5,← HOD.out]
      refine ⟨_,_,_,_,_,rfl,?_,fun _ => rfl,?_⟩
      ·exact fun W hW => Sl.part (k := 10) (m := k) hW (by omega)
      ·intro W hW
       have := Sl.part (k := 10 + k) (m := t) hW (by omega)
       rw [← Nat.add_assoc,← Nat.sub_sub] at this; exact this
     ·subst hm1
      rw [show widS 1 k = 8 from rfl] at HNL HPX ⊢
      rw [← hg7]
      clear hg7
      generalize wr.alloc (.cells #[B8 1,.int .u32 (O : Nat),.int .u32 (M : Nat),B8 1,.slice none 0 0,.int .u64 0,.slice none 0 0] 182 (0,0)) = w7 at *
      obtain ⟨d0,d1,d2⟩ := cells_three HR6.out.h
      obtain ⟨p0,p1,p2,p3⟩ := cells_four HR6.out.p
      have z4 := frozen_of_row _ _ 5 _ _ k7
      obtain ⟨f0,f1,f2,f3,f4,f5,f6⟩ := cells_seven k7
      have hV : 14 + 8 + t ≤ n := by have := HNL.out; omega
      have hcn : 14 ≤ c := by omega
      have hE8 := REight15_any (some ⟨b,o + 10,none⟩) (n - 10) (c - 10) ((xs.drop 10).take (n - 10)) w7 (Sl.part (k := 10) (m := n - 10) (H.out.keep HR6.out.bel) (by omega)) (by omega)
      rw [List.take_take,Nat.min_eq_left (by omega)] at hE8
      obtain ⟨S,hS⟩ : ∃ S,S = get8 ((xs.drop 10).take 8) := ⟨_,rfl⟩
      rw [← hS] at hE8
      have HE8 := Lib.hid hE8
      have HSS := Lib.hid hS
      clear hE8 hS
      go_wp2_with fail
      refine Calls.mono HE8.out ?_
      rintro e w8 ⟨rfl,rfl⟩
      go_upto_region 23 with (fail)
      have k8 : (w7.setCell ⟨g7,5,none⟩ (.int .u64 (S : Nat))).heap[g7]? = some (.cells #[B8 1,.int .u32 (O : Nat),.int .u32 (M : Nat),B8 1,.slice none 0 0,.int .u64 (S : Nat),.slice none 0 0] 182 (0,0)) := hss k7
      have q1 : (w7.setCell ⟨g7,5,none⟩ (.int .u64 (S : Nat))).heap[gr]? = _ := hsc HR6.out.r (by have := HG7.out; simp; omega)
      have q2 : (w7.setCell ⟨g7,5,none⟩ (.int .u64 (S : Nat))).heap[gp]? = _ := hsc HR6.out.p (by have := HG7.out; simp; omega)
      have HB8 := Lib.hid (HR6.out.bel.setCell (p := ⟨g7,5,none⟩) (by have := HG7.out; simp; omega) (.int .u64 (S : Nat)))
      generalize w7.setCell ⟨g7,5,none⟩ (.int .u64 (S : Nat)) = w8 at *
      have HRB := Lib.hid HR6.out.rb
      clear k7 HR6 z4 f0 f1 f2 f3 f4 f5 f6 d0 d1 d2 p0 p1 p2 p3
      obtain ⟨p0,p1,p2,p3⟩ := cells_four q2
      have z6 := frozen_of_row _ _ 6 _ _ k8
      obtain ⟨f0,f1,f2,f3,f4,f5,f6⟩ := cells_seven k8
      have ec1 : (8 : Int) ≤ ((8 : Nat) : Int) + (t : Int) := by omega
      have ec2 : ((8 : Nat) : Int) + (t : Int) ≤ ((c - 10 : Nat) : Int) := by omega
      have ec3 : ¬ (c - 10 = 8) := by omega
      have ec4 : 8 + t - 8 = t := by omega
      go_upto_region 24 with (fail)
      have k9 : (w8.setCell ⟨g7,6,none⟩ (.slice (some ⟨b,o + 10 + 8,none⟩) t (c - 10 - 8))).heap[g7]? = some (.cells #[B8 1,.int .u32 (O : Nat),.int .u32 (M : Nat),B8 1,.slice none 0 0,.int .u64 (S : Nat),.slice (some ⟨b,o + 10 + 8,none⟩) t (c - 10 - 8)] 182 (0,0)) := hss k8
      have r9 : (w8.setCell ⟨g7,6,none⟩ (.slice (some ⟨b,o + 10 + 8,none⟩) t (c - 10 - 8))).heap[gr]? = _ := hsc q1 (by have := HG7.out; simp; omega)
      have HB9 := Lib.hid (HB8.out.setCell (p := ⟨g7,6,none⟩) (by have := HG7.out; simp; omega) (.slice (some ⟨b,o + 10 + 8,none⟩) t (c - 10 - 8)))
      generalize w8.setCell ⟨g7,6,none⟩ (.slice (some ⟨b,o + 10 + 8,none⟩) t (c - 10 - 8)) = w9 at *
      clear k8 q1 q2 HB8 z6 f0 f1 f2 f3 f4 f5 f6 p0 p1 p2 p3 ec1 ec2 ec3 ec4
      obtain ⟨f0,f1,f2,f3,f4,f5,f6⟩ := cells_seven k9
      go_wp2_with (refine wpList_store_row (o := ⟨none,.store 182 (.tmp 4) (.tmp 104),_,_,_,_⟩) rfl 182 (.tmp 4) (.tmp 104) rfl gr #[B8 1,.int .u32 (O : Nat),.int .u32 (M : Nat),B8 1,.slice none 0 0,.int .u64 (S : Nat),.slice (some ⟨b,o + 10 + 8,none⟩) t (c - 10 - 8)] rfl rfl _ _ r9 info_packet15 rfl (by simp [Value.oneCell']) ?_)
      refine bodyPost_ret (res_ct rfl _ _ _ 182 #[B8 1,.int .u32 (O : Nat),.int .u32 (M : Nat),B8 1,.slice none 0 0,.int .u64 (S : Nat),.slice (some ⟨b,o + 10 + 8,none⟩) t (c - 10 - 8)] (0,0) _ (.int .i64 0) rfl (hrs r9) rfl Tryz.underlying182 rfl info_packet15) rfl ?_
      have HBZ := below_row (cs := #[B8 1,.int .u32 (O : Nat),.int .u32 (M : Nat),B8 1,.slice none 0 0,.int .u64 (S : Nat),.slice (some ⟨b,o + 10 + 8,none⟩) t (c - 10 - 8)]) HB9.out HRB.out
      refine ⟨HBZ,.inl ⟨HR0.out,?_⟩⟩
      obtain ⟨x1,x2,x3,x4,x5⟩ := HPX.out
      rw [x1,x2,x3,x4,x5,← HOD.out]
      refine ⟨none,0,0,_,_,by rw [show rdS 1 ((xs.drop 10).take 8) = S by rw [HSS.out]; rfl],?_,fun h => (by cases h),?_⟩
      ·exact fun W _ => Sl.nil0 B8 W
      ·intro W hW
       have := Sl.part (k := 10 + 8) (m := t) hW (by omega)
       rw [← Nat.add_assoc,← Nat.sub_sub] at this; exact this
    ·have hod : ((O : Int) != (D : Int)) = true := bne_iff_ne.2 (by omega)
     have HR9 := Lib.hid (HR3.out HSM.out hO)
     have hr6 := HR.out.r
     clear hO
     go_wp2_with (refine wpList_store_row (o := ⟨none,.store 182 (.tmp 4) (.tmp 73),_,_,_,_⟩) rfl 182 (.tmp 4) (.tmp 73) rfl gr #[.int .u8 0,.int .u32 0,.int .u32 0,.int .u8 0,.slice none 0 0,.int .u64 0,.slice none 0 0] rfl rfl _ _ hr6 info_packet15 rfl (by simp [Value.oneCell']) ?_)
     refine bodyPost_ret (res_ct rfl _ _ _ 182 #[.int .u8 0,.int .u32 0,.int .u32 0,.int .u8 0,.slice none 0 0,.int .u64 0,.slice none 0 0] (0,0) _ (.int .i64 9) rfl (hrs hr6) rfl Tryz.underlying182 rfl info_packet15) rfl ?_
     exact HQ.out _ _ ⟨below_row HR.out.bel HR.out.rb,by rw [HR9.out]; decide,by rw [HR9.out]; rfl⟩
 ·have e0 : ((n : Int) != (lenP m k t : Int)) = true := bne_iff_ne.2 (by omega)
  have HR4 := Lib.hid (HRC.out.1 hN)
  generalize lenP m k t = N at *
  clear hN
  go_wp2_with (refine wpList_store_row (o := ⟨none,.store 182 (.tmp 4) (.tmp 44),_,_,_,_⟩) rfl 182 (.tmp 4) (.tmp 44) rfl gr #[.int .u8 0,.int .u32 0,.int .u32 0,.int .u8 0,.slice none 0 0,.int .u64 0,.slice none 0 0] rfl rfl _ _ h2 info_packet15 rfl (by simp [Value.oneCell']) ?_)
  refine bodyPost_ret (res_ct rfl _ _ _ 182 #[.int .u8 0,.int .u32 0,.int .u32 0,.int .u8 0,.slice none 0 0,.int .u64 0,.slice none 0 0] (0,0) _ (.int .i64 4) rfl (hrs h2) rfl Tryz.underlying182 rfl info_packet15) rfl ?_
  exact HQ.out _ _ ⟨below_row HB3.out HGR.out,by rw [HR4.out]; decide,by rw [HR4.out]; rfl⟩
theorem RRead15_any (L t k D : Nat) (p : Option Addr) (n c : Nat) (xs : List UInt8) (w : World) (hP : POK L t k D) (h : Sl B8 w p n c xs) :
  Calls Tryz.prog 100 #[PVal L t k D,.slice p n c] w (RdRet k t D p n c xs w) := by
 have hl := h.len
 by_cases hc : headC xs = 0
 ·have h10 : 10 ≤ n := by
   have g := hc
   unfold headC at g
   by_cases e : xs.length < 10
   ·rw [if_pos e] at g; cases g
   ·omega
  obtain ⟨b,o,rfl,_⟩ := h.has (by omega)
  exact RRead15_body L t k D b o n c xs w hP h hc h10
 ·have e : readC k t D xs = headC xs := by unfold readC; rw [if_pos hc]
  refine Calls.mono (RRead15_head L t k D p n c xs w hP h hc) fun e' w' g => ⟨g.2,.inr ⟨by rw [e]; exact hc,by rw [e]; exact g.1⟩⟩
end Go.Proofs.YtfbmdlfkipipfaaGreatDoor
namespace Go.By
open Go.RowKit Go.Proofs.YtfbmdlfkipipfaaGreatDoor
def ShVq (m : UInt8) (B : Nat) (p : Option Addr) (j c : Nat) (ys : List UInt8) : Shp := ⟨fun v w => VecQ m B w v p j c ys,fun _ _ _ h hb => by
 rcases h with h | ⟨h,q,n,c',e,g⟩
 ·exact .inl h
 ·exact .inr ⟨h,q,n,c',e,g.keep hb⟩⟩
def ShEq (m : UInt8) (B : Nat) (p : Option Addr) (j c : Nat) (ys : List UInt8) (u : Value) : Shp := ⟨fun v w => ∃ q n c',v = .agg #[.slice q n c',u] ∧ VecQ m B w (.slice q n c') p j c ys,fun _ _ _ ⟨q,n,c',e,h⟩ hb => ⟨q,n,c',e,by
 rcases h with h | ⟨h,q,n,c',e,g⟩
 ·exact .inl h
 ·exact .inr ⟨h,q,n,c',e,g.keep hb⟩⟩⟩
def ShNewR (T B : Nat) (cs : Array Value) : Shp := ⟨fun v w => ∃ g,v = .pointer (some ⟨g,0,none⟩) ∧ B ≤ g ∧ w.heap[g]? = some (.cells cs T (0,0)),fun _ _ _ ⟨g,e,h1,h2⟩ hb => ⟨g,e,h1,(hb.block _ (lt_of_block h2)).trans h2⟩⟩
end Go.By
namespace Go.Proofs.YtfbmdlfkipipfaaGreatDoor
open Go.RowKit Go.By Gf Go.Maps
theorem info_rrow3 : (Tryz.prog.info? 187).map (fun i => (i.zero,i.size,i.bytes)) = some (some (.agg #[.slice none 0 0,.slice none 0 0]),2,48) := by kernel_rfl
theorem info_rrow2 : (Tryz.prog.info? 187).map (·.size) = some 2 := by kernel_rfl
def TkR19 (wI w : World) (X : List Rw) (st : Nat) (code : Int) (e : Ending) (w' : World) : Prop :=
 ∃ q n c,e = .returned (.tuple #[.slice q n c,.int .i64 (st : Nat),.int .i64 code]) ∧ RRef wI w' q n c X ∧ Below w.heap.size w w'
set_option maxRecDepth 100000 in
set_option maxHeartbeats 2000000 in
theorem RTake19_no (L t k D : Nat) (q : Option Addr) (n c : Nat) (X : List Rw) (st : Nat) (p : Option Addr) (m d : Nat) (xs : List UInt8) (wI w : World) (hP : POK L t k D) (hB : Below wI.heap.size wI w) (hR : RRef wI w q n c X) (hs : Sl B8 wI p m d xs) (hx : ¬ (readC k t D xs = 0 ∧ st = 0)) :
  Calls Tryz.prog 47 #[PVal L t k D,.slice q n c,.int .i64 (st : Nat),.slice p m d] w (TkR19 wI w X st (readC k t D xs)) := by
 have HR := Lib.hid hR
 have HRD : Hid (∀ W,Below w.heap.size w W → Calls Tryz.prog 100 #[PVal L t k D,.slice p m d] W fun e w' => ∃ a1 a2 a3 a4 b1 b2 b3 b4 b5 b6 b7,e = .returned (.tuple #[PkVal a1 a2 a3 a4 b1 b2 b3 b4 b5 b6 b7,.int .i64 (readC k t D xs)]) ∧ Below W.heap.size W w') := fun W hb => by
  refine Calls.mono (RRead15_any L t k D p m d xs W hP (hs.keep (bl hB hb hB.size))) ?_
  rintro e w' ⟨hb,⟨h0,_,_,_,_,_,rfl,_⟩ | ⟨h0,rfl⟩⟩
  ·exact ⟨_,_,_,_,_,_,_,_,_,_,_,by rw [h0],hb⟩
  ·exact ⟨0,0,0,0,none,0,0,0,none,0,0,rfl,hb⟩
 have e0 : (readC k t D xs != 0) = true ∨ ((readC k t D xs != 0) = false ∧ ((st : Int) != 0) = true) := by
  by_cases h : readC k t D xs = 0
  ·refine .inr ⟨by rw [h]; rfl,bne_iff_ne.2 fun g => hx ⟨h,by omega⟩⟩
  ·exact .inl (bne_iff_ne.2 h)
 generalize readC k t D xs = C at *
 clear hP hR hs hx
 rcases e0 with e0 | ⟨e0,e1⟩
 all_goals
  go_enter Tryz.func47,Tryz.ntmps47
  go_wp2_with fail
  have ba : Below w.heap.size w (w.alloc (.cells #[.int .i64 (L : Nat),.int .i64 (t : Nat),.int .i64 (k : Nat),.int .u32 (D : Nat)] 97 (0,0))) := al (Below.refl _ _) (Nat.le_refl _)
  refine Calls.mono (HRD.out _ ba) ?_
  rintro e w1 ⟨a1,a2,a3,a4,b1,b2,b3,b4,b5,b6,b7,rfl,hb⟩
  have HB := Lib.hid (bl ba hb ba.size)
  clear hb ba HRD
  go_wp2
  go_ret3
  exact ⟨q,n,c,rfl,HR.out.keep (al HB.out HB.out.size),al HB.out HB.out.size⟩
set_option maxRecDepth 100000 in
set_option maxHeartbeats 4000000 in
theorem RTake19_yes (L t k D : Nat) (q : Option Addr) (n c : Nat) (X : List Rw) (p : Option Addr) (m d : Nat) (xs : List UInt8) (wI w : World) (hP : POK L t k D) (hB : Below wI.heap.size wI w) (hR : RRef wI w q n c X) (hs : Sl B8 wI p m d xs) (hf : ∀ x,x ∈ X → Fit k t x) (hn : n ≤ 4000) (hx : readC k t D xs = 0) :
  Calls Tryz.prog 47 #[PVal L t k D,.slice q n c,.int .i64 0,.slice p m d] w (TkR19 wI w (refX k t D X 0 xs) (refZ k t D X 0 xs) 0) := by
 obtain ⟨r0,hr0,hrz,hr1',hr2'⟩ := info_parts info_rrow3
 have HR := Lib.hid hR
 have HBI := Lib.hid hB
 have hm0 := (read_fits hx).1
 have hfx := read_fit hx
 have hXl := hR.len
 have HK : Hid (∀ (M : Nat) (p1 : Option Addr) (j1 c1 : Nat) (q2 : Option Addr) (d2 : Nat) (W : World),(pktM xs = 0 → j1 = k) → Calls Tryz.prog 101 #[PVal L t k D,PkVal (pktM xs) D M (pktM xs) p1 j1 c1 (pktS k xs) q2 t d2] W fun e w' => ∃ v,e = .returned v ∧ VecQ (pktM xs) W.heap.size w' v p1 j1 c1 (vecS (pktM xs) (pktX k xs) (pktS k xs) k) ∧ Below W.heap.size W w') := fun M p1 j1 c1 q2 d2 W hj => RVector15_any L t k D D M (pktM xs) p1 j1 c1 (pktS k xs) q2 t d2 (pktX k xs) W hP hm0 hj
 have HRD : Hid (∀ W,Below w.heap.size w W → Calls Tryz.prog 100 #[PVal L t k D,.slice p m d] W fun e w' => ∃ q1 j1 c1 q2 d2,e = .returned (.tuple #[PkVal (pktM xs) D (pktN xs) (pktM xs) q1 j1 c1 (pktS k xs) q2 t d2,.int .i64 0]) ∧ Sl B8 wI q1 j1 c1 (pktX k xs) ∧ (pktM xs = 0 → j1 = k) ∧ Sl B8 wI q2 t d2 (pktY k t xs) ∧ Below W.heap.size W w') := fun W hb => by
  refine Calls.mono (RRead15_any L t k D p m d xs W hP (hs.keep (bl hB hb hB.size))) ?_
  rintro e w' ⟨hb,⟨h0,q1,j1,c1,q2,d2,rfl,g1,g2,g3⟩ | ⟨h0,-⟩⟩
  ·exact ⟨q1,j1,c1,q2,d2,rfl,g1 wI hs,g2,g3 wI hs,hb⟩
  ·exact absurd hx h0
 obtain ⟨x,hxe⟩ : ∃ x,x = eqX k t xs := ⟨_,rfl⟩
 have HXV : Hid (x.1 = vecS (pktM xs) (pktX k xs) (pktS k xs) k ∧ x.2 = pktY k t xs ∧ (pktM xs = 0 → vecS (pktM xs) (pktX k xs) (pktS k xs) k = pktX k xs)) := ⟨by rw [hxe]; rfl,by rw [hxe]; rfl,fun h => by unfold vecS; rw [if_pos h]⟩
 have HJD : Hid (∀ W a b,RwS W a (n + 1) b (X ++ [x]) → Calls Tryz.prog 102 #[.slice a (n + 1) b] W fun e w' => e = .returned (.tuple #[.int .i64 (kD (X ++ [x])).length,.int .i64 (clashI (X ++ [x]) (X.length + 1))]) ∧ Below W.heap.size W w') := fun W a b h => by
  have := RJudge_any k t a (n + 1) b (X ++ [x]) W h hP.k2 hP.t2 (by omega) (fun y hy => by
   rcases List.mem_append.1 hy with hy | hy
   ·exact hf y hy
   ·simp at hy; rw [hy,hxe]; exact hfx)
  rw [hXl]; exact this
 have HQ : Hid (refX k t D X 0 xs = (if clashI (X ++ [x]) (X.length + 1) < 0 then X ++ [x] else X) ∧ refZ k t D X 0 xs = (if clashI (X ++ [x]) (X.length + 1) < 0 then (if (kD (X ++ [x])).length = k then 1 else 0) else 2)) := by
  unfold refX refZ
  rw [← hxe]
  refine ⟨?_,?_⟩
  ·by_cases h : clashI (X ++ [x]) (X.length + 1) < 0
   ·rw [if_pos ⟨hx,rfl,h⟩,if_pos h]
   ·rw [if_neg (fun g => h g.2.2),if_neg h]
  ·rw [if_pos ⟨hx,rfl⟩]
 generalize refX k t D X 0 xs = X' at *
 generalize refZ k t D X 0 xs = Z' at *
 generalize pktM xs = M at *
 generalize pktN xs = PN at *
 generalize pktS k xs = S at *
 generalize vecS M (pktX k xs) S k = VX at *
 generalize pktX k xs = PX at *
 generalize pktY k t xs = PY at *
 generalize (kD (X ++ [x])).length = rk at *
 generalize clashI (X ++ [x]) (X.length + 1) = CL at *
 clear hP hB hR hs hf hx hm0 hfx hxe hXl
 go_enter Tryz.func47,Tryz.ntmps47
 go_wp2_with fail
 have ba : Below w.heap.size w (w.alloc (.cells #[.int .i64 (L : Nat),.int .i64 (t : Nat),.int .i64 (k : Nat),.int .u32 (D : Nat)] 97 (0,0))) := al (Below.refl _ _) (Nat.le_refl _)
 have kp1 : (w.alloc (.cells #[.int .i64 (L : Nat),.int .i64 (t : Nat),.int .i64 (k : Nat),.int .u32 (D : Nat)] 97 (0,0))).heap[w.heap.size]? = some (.cells #[.int .i64 (L : Nat),.int .i64 (t : Nat),.int .i64 (k : Nat),.int .u32 (D : Nat)] 97 (0,0)) := hnew rfl
 refine Calls.mono (HRD.out _ ba) ?_
 rintro e w1 ⟨q1,j1,c1,q2,d2,rfl,g1,g2,g3,hb⟩
 obtain ⟨gp,hgp⟩ : ∃ gp,gp = w.heap.size := ⟨_,rfl⟩
 have kp := (hb.block _ (lt_of_block kp1)).trans kp1
 rw [← hgp] at kp ⊢
 have HB1 := Lib.hid (bl ba hb ba.size)
 have G1 := Lib.hid g1
 have G2 := Lib.hid g2
 have G3 := Lib.hid g3
 clear hb ba kp1 hgp HRD g1 g2 g3
 have ba : Below w1.heap.size w1 (w1.alloc (.cells #[B8 M,.int .u32 (D : Nat),.int .u32 (PN : Nat),B8 M,.slice q1 j1 c1,.int .u64 (S : Nat),.slice q2 t d2] 182 (0,0))) := al (Below.refl _ _) (Nat.le_refl _)
 have kk : (w1.alloc (.cells #[B8 M,.int .u32 (D : Nat),.int .u32 (PN : Nat),B8 M,.slice q1 j1 c1,.int .u64 (S : Nat),.slice q2 t d2] 182 (0,0))).heap[w1.heap.size]? = some (.cells #[B8 M,.int .u32 (D : Nat),.int .u32 (PN : Nat),B8 M,.slice q1 j1 c1,.int .u64 (S : Nat),.slice q2 t d2] 182 (0,0)) := hnew rfl
 have kp2 := (ba.block _ (lt_of_block kp)).trans kp
 have HB2 := Lib.hid (bl HB1.out ba HB1.out.size)
 go_upto_region 4 with (fail)
 obtain ⟨gk,hgk⟩ : ∃ gk,gk = w1.heap.size := ⟨_,rfl⟩
 rw [← hgk] at kk ⊢
 generalize w1.alloc (.cells #[B8 M,.int .u32 (D : Nat),.int .u32 (PN : Nat),B8 M,.slice q1 j1 c1,.int .u64 (S : Nat),.slice q2 t d2] 182 (0,0)) = w2 at *
 clear hgk kp ba HB1
 obtain ⟨z0,z1,z2,z3⟩ := cells_four kp2
 obtain ⟨f0,f1,f2,f3,f4,f5,f6⟩ := cells_seven kk
 refine wp_region_tail (fun ix => ([.val (.agg #[.int .i64 (L : Nat),.int .i64 (t : Nat),.int .i64 (k : Nat),.int .u32 (D : Nat)]),.val (.agg #[B8 M,.int .u32 (D : Nat),.int .u32 (PN : Nat),B8 M,.slice q1 j1 c1,.int .u64 (S : Nat),.slice q2 t d2]),(ShVq M w2.heap.size q1 j1 c1 VX),.val (.pointer (some ⟨gk,6,none⟩)),.val (.slice q2 t d2),(ShEq M w2.heap.size q1 j1 c1 VX (.slice q2 t d2)),(ShNewR 187 w2.heap.size #[.slice none 0 0,.slice none 0 0]),.any][ix]?).getD (.any)) 59 7 rfl (by kernel_rfl) (by decide +kernel) (by decide +kernel) (by decide +kernel) (by decide +kernel) ?_ ?_
 ·refine ⟨?_,?_,?_,?_,?_,?_,?_,trivial⟩
  ·intro a W hb0 hs hp hi; have hb := undrew hb0; clear hb0
   have tt : sl a 4 = .pointer (some ⟨gp,0,none⟩) := hi 4 (by decide)
   have dd0 := (hb.cell (p := ⟨gp,0,none⟩) (lt_of_cell z0)).trans z0
   have dd1 := (hb.cell (p := ⟨gp,1,none⟩) (lt_of_cell z1)).trans z1
   have dd2 := (hb.cell (p := ⟨gp,2,none⟩) (lt_of_cell z2)).trans z2
   have dd3 := (hb.cell (p := ⟨gp,3,none⟩) (lt_of_cell z3)).trans z3
   refine ite_y rfl (wp_val (.agg #[.int .i64 (L : Nat),.int .i64 (t : Nat),.int .i64 (k : Nat),.int .u32 (D : Nat)]) ?_ ?_)
   ·simp only [execOp,eval_tmp,tt]; simp [go_sem,dd0,dd1,dd2,dd3]
   ·exact ⟨_,rfl,Below.refl _ _,rfl⟩
  ·intro a W hb0 hs hp hi; have hb := undrew hb0; clear hb0
   have tt : sl a 11 = .pointer (some ⟨gk,0,none⟩) := hi 11 (by decide)
   have dd0 := (hb.cell (p := ⟨gk,0,none⟩) (lt_of_cell f0)).trans f0
   have dd1 := (hb.cell (p := ⟨gk,1,none⟩) (lt_of_cell f1)).trans f1
   have dd2 := (hb.cell (p := ⟨gk,2,none⟩) (lt_of_cell f2)).trans f2
   have dd3 := (hb.cell (p := ⟨gk,3,none⟩) (lt_of_cell f3)).trans f3
   have dd4 := (hb.cell (p := ⟨gk,4,none⟩) (lt_of_cell f4)).trans f4
   have dd5 := (hb.cell (p := ⟨gk,5,none⟩) (lt_of_cell f5)).trans f5
   have dd6 := (hb.cell (p := ⟨gk,6,none⟩) (lt_of_cell f6)).trans f6
   refine ite_y rfl (wp_val (.agg #[B8 M,.int .u32 (D : Nat),.int .u32 (PN : Nat),B8 M,.slice q1 j1 c1,.int .u64 (S : Nat),.slice q2 t d2]) ?_ ?_)
   ·simp only [execOp,eval_tmp,tt]; simp [go_sem,dd0,dd1,dd2,dd3,dd4,dd5,dd6]
   ·exact ⟨_,rfl,Below.refl _ _,rfl⟩
  ·intro a W hb0 hs hp hi; have hb := undrew hb0; clear hb0
   have t32 : sl a 32 = .agg #[.int .i64 (L : Nat),.int .i64 (t : Nat),.int .i64 (k : Nat),.int .u32 (D : Nat)] := hp 0 (by decide)
   have t33 : sl a 33 = .agg #[B8 M,.int .u32 (D : Nat),.int .u32 (PN : Nat),B8 M,.slice q1 j1 c1,.int .u64 (S : Nat),.slice q2 t d2] := hp 1 (by decide)
   refine ite_y rfl (wp_enter 101 #[.agg #[.int .i64 (L : Nat),.int .i64 (t : Nat),.int .i64 (k : Nat),.int .u32 (D : Nat)],.agg #[B8 M,.int .u32 (D : Nat),.int .u32 (PN : Nat),B8 M,.slice q1 j1 c1,.int .u64 (S : Nat),.slice q2 t d2]] ?_ (HK.out PN q1 j1 c1 q2 d2 W G2.out) ?_)
   ·simp only [execOp,resolve,List.map_toArray,List.map,eval_tmp,eval_func,eval_const,t32,t33]; simp [go_sem]
   ·rintro e W' ⟨v5,rfl,hv,hw⟩
    refine ⟨_,rfl,_,rfl,hw,?_⟩
    rcases hv with hv | ⟨h,qf,nf,cf,e,g⟩
    ·exact .inl hv
    ·exact .inr ⟨h,qf,nf,cf,e,g.mono hb.size⟩
  ·intro a W hb0 hs hp hi; have hb := undrew hb0; clear hb0
   have t11 : sl a 11 = .pointer (some ⟨gk,0,none⟩) := hi 11 (by decide)
   refine ite_y rfl (wp_val (.pointer (some ⟨gk,6,none⟩)) ?_ ?_)
   ·simp only [execOp,eval_tmp,eval_const,t11]; simp [go_sem]
   ·exact ⟨_,rfl,Below.refl _ _,rfl⟩
  ·intro a W hb0 hs hp hi; have hb := undrew hb0; clear hb0
   have tt : sl a 35 = .pointer (some ⟨gk,6,none⟩) := hp 3 (by decide)
   have dd := (hb.cell (p := ⟨gk,6,none⟩) (lt_of_cell f6)).trans f6
   refine ite_y rfl (wp_val (.slice q2 t d2) ?_ ?_)
   ·simp only [execOp,eval_tmp,tt]; simp [go_sem,dd]
   ·exact ⟨_,rfl,Below.refl _ _,rfl⟩
  ·intro a W hb0 hs hp hi; have hb := undrew hb0; clear hb0
   have t34 : VecQ M w2.heap.size W (sl a 34) q1 j1 c1 VX := hp 2 (by decide)
   have t36 : sl a 36 = .slice q2 t d2 := hp 4 (by decide)
   obtain ⟨qf,nf,cf,t34e⟩ : ∃ qf nf cf,sl a 34 = .slice qf nf cf := by
    rcases t34 with ⟨_,e⟩ | ⟨_,qf,nf,cf,e,_⟩
    ·exact ⟨_,_,_,e⟩
    ·exact ⟨_,_,_,e⟩
   rw [t34e] at t34
   have v34 : a.tmps[34]?.getD undef = sl a 34 := by simp [sl]
   rw [t34e] at v34
   have v36 : a.tmps[36]?.getD undef = sl a 36 := by simp [sl]
   rw [t36] at v36
   refine ite_y rfl (wp_val (.agg #[.slice qf nf cf,.slice q2 t d2]) ?_ ?_)
   ·simp only [execOp,eval_tmp,t34e,t36]; simp [go_sem,v34,v36,Tryz.underlying187]
   ·exact ⟨_,rfl,Below.refl _ _,qf,nf,cf,rfl,t34⟩
  ·intro a W hb0 hs hp hi; have hb := undrew hb0; clear hb0
   refine ite_y rfl (wp_val' (w' := W.alloc (.cells #[.slice none 0 0,.slice none 0 0] 187)) (.pointer (some ⟨W.heap.size,0,none⟩)) ?_ ?_)
   ·simp only [execOp]; simp [go_sem]
   ·exact ⟨_,rfl,al (Below.refl _ _) (Nat.le_refl _),_,rfl,hb.size,hnew rfl⟩
 intro a w3 hb hs hd hI ht
 have ha := act_is [32,33,34,35,36,37,13] hs hd ht (by decide)
 have y13 := hI 6 (by decide)
 obtain ⟨g13,t13,hg13,hh13⟩ := y13
 have y37 := hI 5 (by decide)
 obtain ⟨qv,nv,cv,t37,hvq⟩ := y37
 simp only [List.foldl,t13,t37] at ha
 generalize sl a 32 = u32 at ha
 generalize sl a 33 = u33 at ha
 generalize sl a 34 = u34 at ha
 generalize sl a 35 = u35 at ha
 generalize sl a 36 = u36 at ha
 simp only [Act.put,List.setIfInBounds_toArray,List.set_cons_zero,List.set_cons_succ] at ha
 rw [ha]; clear ha hI ht hs hd
 simp only [List.drop_succ_cons,List.drop_zero]
 have kp3 := (hb.block _ (lt_of_block kp2)).trans kp2
 have HB3 := Lib.hid (bl HB2.out hb HB2.out.size)
 have HG3 : Hid (w.heap.size ≤ g13) := Nat.le_trans HB2.out.size hg13
 have HGP : Hid (gp < g13) := by have := lt_of_block kp2; show gp < g13; omega
 have HVQ : Hid (OldB wI w3 (.slice qv nv cv) x.1) := by
  obtain ⟨x1,x2,x3⟩ := HXV.out
  rcases hvq with ⟨h0,e⟩ | ⟨h0,qf,nf,cf,e,hfr⟩
  ·exact ⟨_,_,_,e,.inl (by rw [x1,x3 h0]; exact G1.out)⟩
  ·exact ⟨_,_,_,e,.inr (by rw [x1]; exact hfr.mono (Nat.le_trans HBI.out.size HB2.out.size))⟩
 clear hb z0 z1 z2 z3 f0 f1 f2 f3 f4 f5 f6 kk kp2 hvq HB2 HK
 have kb := hh13
 go_upto_region 6 with (refine wpList_store_row (o := ⟨none,.store 187 (.tmp 13) (.tmp 37),_,_,_,_⟩) rfl 187 (.tmp 13) (.tmp 37) rfl g13 #[.slice qv nv cv,.slice q2 t d2] rfl rfl _ _ kb info_rrow2 rfl (by simp [Value.oneCell']) ?_)
 have k4 : (w3.setRow g13 #[.slice qv nv cv,.slice q2 t d2]).heap[g13]? = some (.cells #[.slice qv nv cv,.slice q2 t d2] 187 (0,0)) := hrs kb
 have kp4 : (w3.setRow g13 #[.slice qv nv cv,.slice q2 t d2]).heap[gp]? = _ := hro kp3 (Nat.ne_of_lt HGP.out)
 have HB4 := Lib.hid (below_row (cs := #[.slice qv nv cv,.slice q2 t d2]) HB3.out HG3.out)
 have HVQ4 : Hid (OldB wI (w3.setRow g13 #[.slice qv nv cv,.slice q2 t d2]) (.slice qv nv cv) x.1) := HVQ.out.same fun b cs fr hb => by
  have hne : b ≠ g13 := fun e => by rw [e,kb] at hb; injection hb with hb; injection hb with _ hb _; exact absurd hb (by decide)
  exact (hro hb hne).trans hb.symm
 generalize w3.setRow g13 #[.slice qv nv cv,.slice q2 t d2] = w4 at *
 have HR4 := Lib.hid (HR.out.keep HB4.out)
 obtain ⟨vs,hv,hvl,hvr⟩ := HR4.out.vals
 have HV := Lib.hid hv
 have HVL := Lib.hid hvl
 have HVR := Lib.hid hvr
 clear kb hh13 kp3 HB3 HVQ hv hvl hvr
 go_wp2_with (at_builtin; refine wpList_append_two w4 rfl (.tmp 38) (.tmp 39) 99 rfl w4.heap.size 187 r0 _ 48 Tryz.underlying99 hr0 hrz hr1' hr2' rfl (.slice none 0 0) 0 [] rfl (World.ownsRow_nil _ _ _ _) q n c vs rfl HV.out (by unfold maxLen; omega) (by omega) (Nat.le_refl _) ?_)
 intro v5 w5 ho5 hg5
 obtain ⟨qa,ca,rfl⟩ := owns_shape ho5
 try simp only [Nat.zero_add,List.nil_append] at ho5
 have BA : Hid (Below w4.heap.size w4 w5) := (Below.refl _ _).grown hg5 (Nat.le_refl _) (by simp [Value.ownBlock])
 have OA := Lib.hid ho5
 have KP4 := Lib.hid kp4
 have X5 : Hid (w5.heap[g13]? = some (.cells #[.slice qv nv cv,.slice q2 t d2] 187 (0,0))) := (BA.out.block _ (lt_of_block k4)).trans k4
 obtain ⟨x0,x1⟩ := cells2 X5.out
 have OA2 : Hid (∀ o,(w5.alloc o).ownsRow w4.heap.size 187 2 (.slice qa n ca) n (fl2 vs)) := fun o => owns_keep OA.out (al (Below.refl _ _) (Nat.le_refl _))
 have sA := BA.out.size
 clear ho5 hg5 k4 kp4 HV
 try rw [Nat.zero_add]
 go_wp2_with (at_builtin; refine wpList_append_own _ rfl (.tmp 41) (.tmp 43) 99 rfl w4.heap.size 187 r0 _ 2 48 Tryz.underlying99 hr0 hrz hr1' hr2' rfl (by omega) _ n (fl2 vs) rfl (OA2.out _) ⟨w5.heap.size,0,none⟩ 1 1 [.slice qv nv cv,.slice q2 t d2] rfl rfl ?_ ?_ ?_ ?_ ?_ ?_)
 ·intro j' y hj'
  rw [Addr.add_lit,Nat.zero_add,cell_of_row _ _ j' _ _ _ (hnew rfl)]
  match j' with
  | 0 => simpa using hj'
  | 1 => simpa using hj'
  | j' + 2 => simp at hj'
 ·intro y hy; simp at hy; rcases hy with rfl | rfl <;> rfl
 ·unfold maxLen; omega
 ·omega
 ·simp; omega
 intro v6 w6 ho6 hg6 _
 obtain ⟨qb,cb,rfl⟩ := owns_shape ho6
 have BB : Hid (Below w4.heap.size w4 w6) := (al BA.out sA).grown hg6 (by simp; omega) (fun kk hk => (OA.out.lt kk hk).1)
 have HB6 := Lib.hid (bl HB4.out BB.out HB4.out.size)
 have KP6 := Lib.hid ((BB.out.block _ (lt_of_block KP4.out)).trans KP4.out)
 have RR : Hid (RRef wI w6 qb (n + 1) cb (X ++ [x])) := by
  refine ⟨vs ++ [(.slice qv nv cv,.slice q2 t d2)],?_,by simp [HVL.out],by simp [HR4.out.len],fun j u hj => ?_⟩
  ·rw [fl2_append]; exact owns_mono ho6 (Nat.le_trans HBI.out.size HB4.out.size)
  ·rcases Nat.lt_or_ge j vs.length with g | g
   ·rw [List.getElem?_append_left g] at hj
    obtain ⟨k',hk',a1,a2⟩ := HVR.out j u hj
    exact ⟨k',by rw [List.getElem?_append_left (by have := HR4.out.len; have := HVL.out; omega)]; exact hk',a1.keep BB.out,a2.keep BB.out⟩
   ·have hj0 : j = vs.length := by have := (List.getElem?_eq_some_iff.1 hj).1; simp at this; omega
    subst hj0
    simp at hj
    subst hj
    refine ⟨x,by rw [List.getElem?_append_right (by have := HR4.out.len; have := HVL.out; omega),show vs.length - X.length = 0 by have := HR4.out.len; have := HVL.out; omega]; rfl,HVQ4.out.keep BB.out,⟨q2,t,d2,rfl,.inl ?_⟩⟩
    rw [HXV.out.2.1]; exact G3.out
 have JD := Lib.hid (HJD.out w6 qb cb (RR.out.rwS (bl HBI.out HB6.out HBI.out.size)))
 clear ho6 hg6 x0 x1 OA2 OA X5 KP4 sA HJD BB BA HVQ4 HVR
 go_wp2_with fail
 refine Calls.mono JD.out ?_
 rintro e w7 ⟨rfl,hb⟩
 have HB7 := Lib.hid (bl HB6.out hb HB6.out.size)
 have R7 := Lib.hid (RR.out.keep hb)
 have R0 := Lib.hid (HR.out.keep HB7.out)
 have kp7 := (hb.block _ (lt_of_block KP6.out)).trans KP6.out
 obtain ⟨z0,z1,z2,z3⟩ := cells_four kp7
 obtain ⟨hq1,hq2⟩ := HQ.out
 clear hb JD RR HB6 HB4 KP6 kp7 HR HR4
 by_cases hcl : CL < 0
 ·have hc : ¬ (0 : Int) ≤ CL := by omega
  rw [if_pos hcl] at hq1 hq2
  have HQ1 := Lib.hid hq1
  by_cases hrk : rk = k
  ·have hz : ((rk : Int) == (k : Int)) = true := by rw [hrk]; simp
   rw [if_pos hrk] at hq2
   have HQ2 := Lib.hid hq2
   clear hq1 hq2 hcl hrk HQ
   go_wp2
   go_ret3
   exact ⟨qb,_,cb,by rw [HQ2.out]; rfl,by rw [HQ1.out]; exact R7.out,HB7.out⟩
  ·have hz : ((rk : Int) == (k : Int)) = false := beq_eq_false_iff_ne.2 (by omega)
   rw [if_neg hrk] at hq2
   have HQ2 := Lib.hid hq2
   clear hq1 hq2 hcl hrk HQ
   go_wp2
   go_ret3
   exact ⟨qb,_,cb,by rw [HQ2.out]; rfl,by rw [HQ1.out]; exact R7.out,HB7.out⟩
 ·have hc : (0 : Int) ≤ CL := by omega
  rw [if_neg hcl] at hq1 hq2
  have HQ1 := Lib.hid hq1
  have HQ2 := Lib.hid hq2
  clear hq1 hq2 hcl HQ
  go_wp2
  go_ret3
  exact ⟨q,_,c,by rw [HQ2.out]; rfl,by rw [HQ1.out]; exact R0.out,HB7.out⟩
theorem RTake19_any (L t k D : Nat) (q : Option Addr) (n c : Nat) (X : List Rw) (st : Nat) (p : Option Addr) (m d : Nat) (xs : List UInt8) (wI w : World) (hP : POK L t k D) (hB : Below wI.heap.size wI w) (hR : RRef wI w q n c X) (hs : Sl B8 wI p m d xs) (hf : ∀ x,x ∈ X → Fit k t x) (hn : n ≤ 4000) :
  Calls Tryz.prog 47 #[PVal L t k D,.slice q n c,.int .i64 (st : Nat),.slice p m d] w (TkR19 wI w (refX k t D X st xs) (refZ k t D X st xs) (readC k t D xs)) := by
 by_cases h : readC k t D xs = 0 ∧ st = 0
 ·obtain ⟨h1,rfl⟩ := h
  rw [h1]
  exact RTake19_yes L t k D q n c X p m d xs wI w hP hB hR hs hf hn h1
 ·have e1 : refX k t D X st xs = X := by unfold refX; rw [if_neg (fun g => h ⟨g.1,g.2.1⟩)]
  have e2 : refZ k t D X st xs = st := by unfold refZ; rw [if_neg h]
  rw [e1,e2]
  exact RTake19_no L t k D q n c X st p m d xs wI w hP hB hR hs h
end Go.Proofs.YtfbmdlfkipipfaaGreatDoor
namespace Go.By
open Go.RowKit Go.Maps Go.Proofs.YtfbmdlfkipipfaaGreatDoor
theorem few_len19 {xss : List (List UInt8)} {n1 : Nat} (h : (xss.all (fun y => decide (y.length ≤ 800)) && decide (n1 ≤ 30)) = true) {i : Nat} {xs : List UInt8} (hx : xss[i]? = some xs) : xs.length ≤ 800 := by
 rw [Bool.and_eq_true] at h
 have := List.all_eq_true.1 h.1 xs (List.mem_of_getElem? hx)
 exact of_decide_eq_true this
theorem pok_fit {L t k D : Nat} (hP : POK L t k D) : (∀ i : Nat,i < k → i * t ≤ L) ∧ L ≤ k * t := by
 have hk := (checkS_okC hP.chk).2.2.2.1
 have ht := hP.t1
 unfold needS at hk
 by_cases h0 : L = 0
 ·subst h0
  rw [if_pos (by simp)] at hk
  have : k = 1 := by omega
  subst this
  exact ⟨fun i hi => by have : i = 0 := by omega
                        subst this; simp,by omega⟩
 ·rw [if_neg (by omega)] at hk
  have e : ((L : Int) - 1) / (t : Int) = (((L - 1) / t : Nat) : Int) := by
   rw [show ((L : Int) - 1) = ((L - 1 : Nat) : Int) by omega]; simp
  rw [e] at hk
  have hk' : k = (L - 1) / t + 1 := by omega
  have hd := Nat.div_add_mod (L - 1) t
  have hm := Nat.mod_lt (L - 1) (show 0 < t by omega)
  have hc : t * ((L - 1) / t) = (L - 1) / t * t := Nat.mul_comm _ _
  rw [hk']
  refine ⟨fun i hi => ?_,by rw [Nat.succ_mul]; omega⟩
  have : i * t ≤ (L - 1) / t * t := Nat.mul_le_mul_right t (by omega)
  omega
def StOK (k : Nat) (K : List Rw) (st : Nat) : Prop := st ≤ 2 ∧ (st = 1 → K.length = k)
theorem StOK.take {k t D st : Nat} {K : List Rw} (h : StOK k K st) (xs : List UInt8) : StOK k (takeK k t D K st xs) (takeS k t D K st xs) := by
 unfold takeK takeS
 by_cases hc : readC k t D xs = 0 ∧ st = 0
 ·rw [if_pos hc,if_pos hc]
  unfold nextS
  split
  ·exact ⟨by omega,fun e => by omega⟩
  ·split
   ·rename_i e; exact ⟨by omega,fun _ => e⟩
   ·exact ⟨by omega,fun e => by omega⟩
 ·rw [if_neg hc,if_neg hc]; exact h
def knN (k : Nat) (K : List Rw) (j : Nat) : List Nat := (List.range j).filter (knS k K)
theorem knN_yes {k : Nat} {K : List Rw} {j : Nat} (h : knS k K j = true) : knN k K (j + 1) = knN k K j ++ [j] := by unfold knN; rw [List.range_succ,List.filter_append]; simp [h]
theorem knN_no {k : Nat} {K : List Rw} {j : Nat} (h : knS k K j = false) : knN k K (j + 1) = knN k K j := by unfold knN; rw [List.range_succ,List.filter_append]; simp [h]
theorem knN_mem {k : Nat} {K : List Rw} (i : Nat) : i ∈ knN k K k ↔ i < k ∧ knS k K i = true := by unfold knN; rw [List.mem_filter,List.mem_range]
theorem knN_len (k : Nat) (K : List Rw) (j : Nat) : (knN k K j).length ≤ j := by unfold knN; exact Nat.le_trans (List.length_filter_le _ _) (by simp)
end Go.By
namespace Go.Proofs.YtfbmdlfkipipfaaGreatDoor
open Go.RowKit Go.By Go.Maps
theorem RRows19 {k t : Nat} {X K : List Rw} {wI W : World} {q : Option Addr} {c : Nat} (hX : RefS k t X K) (hk : k ≤ 12) (ht : t ≤ 20) (hl : X.length ≤ 31) (hR : RRef wI W q X.length c X) (hB : Below wI.heap.size wI W) : Calls Tryz.prog 50 #[.slice q X.length c] W (RetKN W K) := by
 have := RRows_any k t q X.length c X W (hR.rwS hB) hX.fit (by unfold Room; omega) (by unfold Room; omega) (by omega)
 rwa [show redL (kD X) = K from hX.sys.same.symm] at this
theorem RKnown19 {k t : Nat} {X K : List Rw} {wI W : World} {q : Option Addr} {c : Nat} (hX : RefS k t X K) (hk : k ≤ 12) (ht : t ≤ 20) (hl : X.length ≤ 31) (hR : RRef wI W q X.length c X) (hB : Below wI.heap.size wI W) (n : Nat) : Calls Tryz.prog 52 #[.slice q X.length c,.int .i64 (n : Nat)] W (RetK2 W (knownS k K n)) := by
 have := RKnown8_any k t q X.length c X n W (hR.rwS hB) hX.fit (by unfold Room; omega) (by unfold Room; omega) (by omega) (by omega)
 rwa [show redL (kD X) = K from hX.sys.same.symm] at this
theorem app_ok1 {n i : Nat} (h : n ≤ i) (hi : i ≤ 100000) : n + 1 ≤ maxLen := by unfold maxLen; omega
theorem app_ok8 {n i : Nat} (h : n ≤ i) (hi : i ≤ 100000) : (n + 1) * 8 ≤ 140737488355328 := by omega
theorem app_ok24 {n i : Nat} (h : n ≤ i) (hi : i ≤ 100000) : (n + 1) * 24 ≤ 140737488355328 := by omega
theorem pok_small {L t k D : Nat} (hP : POK L t k D) (hk : k ≤ 12) (ht : t ≤ 20) : L ≤ 1000000 := Nat.le_trans (pok_fit hP).2 (Nat.le_trans (Nat.mul_le_mul hk ht) (by decide))
theorem RFill19 {L t k D N base gt be st : Nat} {M v : Value} {C : DataW Unit} {K : List Rw} {W W0 : World} {q q2 : Option Addr} {c c2 : Nat} (hP : POK L t k D) (hk : k ≤ 12) (ht : t ≤ 20) (hT : Tkr W0 base gt be L t k D N M v C K st) (h1 : Sl encN W q (knN k K k).length c (knN k K k)) (h2 : Sl2 W q2 (knN k K k).length c2 ((knN k K k).map (knP k K))) :
  Calls Tryz.prog 53 #[PVal L t k D,.slice q (knN k K k).length c,.slice q2 (knN k K k).length c2] W fun e w' => ∃ q5 c5 q6 c6,e = .returned (.tuple #[.slice q5 L c5,.slice q6 L c6,.int .i64 0]) ∧ Sl B8 w' q5 L c5 (objL L t (knP k K) (knS k K)) ∧ Sl Value.bool w' q6 L c6 (toldT L (fun a => knS k K (a / t))) ∧ Below W.heap.size W w' :=
 RFill12_any L t k D q _ c q2 c2 (knS k K) (knP k K) (knN k K k) W hP h1 h2 (fun i => knN_mem i) (fun i h => knP_len (fun r hr => (hT.red.kept.rows r hr).1.2) h) (Nat.le_trans (knN_len k K k) (by omega)) (pok_small hP hk ht) (pok_fit hP).2
theorem TSome19 {L t k D N base gt be st : Nat} {M v : Value} {C : DataW Unit} {K : List Rw} {w : World} (hk : k ≤ 12) (ht : t ≤ 20) (h : Tkr w base gt be L t k D N M v C K st) :
  Calls Tryz.prog 54 #[.pointer (some ⟨gt,0,none⟩)] w fun e w' => ∃ q5 c5 q6 c6,e = .returned (.tuple #[.slice q5 L c5,.slice q6 L c6]) ∧ Sl B8 w' q5 L c5 (objL L t (knP k K) (knS k K)) ∧ Sl Value.bool w' q6 L c6 (toldT L (fun a => knS k K (a / t))) ∧ Below w.heap.size w w' := by
 have hL := pok_small h.ok hk ht
 refine Calls.mono (TSome_any base gt be L t k D N M v C K st w h hL (pok_fit h.ok).1 (pok_fit h.ok).2) ?_
 rintro e w' ⟨gO,gT,rfl,-,-,hO,hT,hb⟩
 have hm : L ≤ maxLen := by unfold maxLen; omega
 exact ⟨_,L,_,L,rfl,sl_block (objL L t (knP k K) (knS k K)) L hO rfl (objL_len _ _ _ _) hm,sl_block (toldT L (fun a => knS k K (a / t))) L hT rfl (toldT_len _ _) hm,hb⟩
theorem TObject19 {L t k D N base gt be : Nat} {M v : Value} {C : DataW Unit} {K : List Rw} {w : World} (h : Tkr w base gt be L t k D N M v C K 1) (hK : K.length = k) :
  Calls Tryz.prog 35 #[.pointer (some ⟨gt,0,none⟩)] w (RetL w (objL L t (knP k K) (knS k K)) 0) := by
 have h0 := TObject_done base gt be L t k D N M v C K w h hK
 rw [done_obj h.ok.chk h.red hK (by have := h.ok.k2; omega) h.ok.t1 (pok_fit h.ok).2] at h0
 exact h0
theorem Same_eq (p1 p2 : Option Addr) (n1 n2 c1 c2 : Nat) (xs : List UInt8) (w : World) (h1 : Sl B8 w p1 n1 c1 xs) (h2 : Sl B8 w p2 n2 c2 xs) : Calls Tryz.prog 36 #[.slice p1 n1 c1,.slice p2 n2 c2] w fun e w' => e = .returned (.bool true) ∧ Below w.heap.size w w' := by
 have := Same_any p1 p2 n1 n2 c1 c2 xs xs w h1 h2
 rwa [decide_eq_true rfl] at this
theorem size_alloc_le {B : Nat} {w : World} {o : Obj} (h : B ≤ w.heap.size) : B ≤ (w.alloc o).heap.size := by simp; omega
theorem info_int19 : (Tryz.prog.info? 3).map (fun i => (i.zero,i.size,i.bytes)) = some (some (.int .i64 0),1,8) := by kernel_rfl
theorem info_sl19 : (Tryz.prog.info? 22).map (fun i => (i.zero,i.size,i.bytes)) = some (some (.slice none 0 0),1,24) := by kernel_rfl
set_option maxRecDepth 100000 in
set_option maxHeartbeats 8000000 in
theorem TakerTakes_core (L t k D : Nat) (p1 : Option Addr) (n1 c1 : Nat) (xss : List (List UInt8)) (w : World) (hP : POK L t k D) (hk12 : k ≤ 12) (ht20 : t ≤ 20) (hfew : (xss.all (fun y => decide (y.length ≤ 800)) && decide (n1 ≤ 30)) = true) (hsm : small19 (L : Int) (t : Int) (k : Int) = true) (h1 : Sl2 w p1 n1 c1 xss) (hT : HalfT w) :
  Calls Tryz.prog 8 #[PVal L t k D,.slice p1 n1 c1] w fun e w' => e = .returned (.bool true) ∧ Below w.heap.size w w' := by
 obtain ⟨i0,hi0,iz0,iz1,iz2⟩ := info_parts info_int19
 obtain ⟨s0,hs0,sz0,sz1,sz2⟩ := info_parts info_sl19
 have HT := Lib.hid hT
 have HFew : Hid (∀ w,Sl2 w p1 n1 c1 xss → Calls Tryz.prog 44 #[.slice p1 n1 c1] w fun e w' => e = .returned (.bool true) ∧ w = w') := fun w h => by have := Few18_any p1 n1 c1 xss w h; rw [hfew] at this; exact this
 have HSm : Hid (∀ w,Calls Tryz.prog 29 #[PVal L t k D] w fun e w' => e = .returned (.bool true) ∧ Below w.heap.size w w') := fun w => by have := Small19_any L t k D w hP.l; rw [hsm] at this; exact this
 have HCk : Hid (∀ w,Calls Tryz.prog 45 #[PVal L t k D] w fun e w' => e = .returned (.int .i64 0) ∧ Below w.heap.size w w') := fun w => by
  have := RCheck_any (L : Int) (t : Int) (k : Int) (D : Int) w hP.l
  rw [hP.chk] at this; exact this
 have HNew := Lib.hid (fun w => TNew_ok L t k D w hP)
 have HP := Lib.hid hP
 have H1 := Lib.hid h1
 have HFw := Lib.hid hfew
 have HK12 := Lib.hid hk12
 have HT20 := Lib.hid ht20
 have hb1' := h1.bound
 clear hT hP h1 hfew hsm hk12 ht20
 go_enter Tryz.func8,Tryz.ntmps8
 go_wp2_with fail
 refine Calls.mono (awake19 _ (HT.out.keep (al (Below.refl _ _) (Nat.le_refl _)))) ?_
 rintro e w1 ⟨rfl,hb⟩
 obtain ⟨hb1,kp,hs1⟩ := one_of hb
 have HB1 := Lib.hid hb1
 clear hb hb1
 go_wp2_with fail
 refine Calls.mono (HFew.out _ (H1.out.keep HB1.out)) ?_
 rintro e w2 ⟨rfl,rfl⟩
 obtain ⟨z0,z1,z2,z3⟩ := cells_four kp
 go_wp2_with fail
 refine Calls.mono (HSm.out _) ?_
 rintro e w3 ⟨rfl,hb⟩
 have HB3 := Lib.hid (bl HB1.out hb HB1.out.size)
 have kp3 := (hb.block _ (lt_of_block kp)).trans kp
 clear hb z0 z1 z2 z3 kp HB1
 obtain ⟨z0,z1,z2,z3⟩ := cells_four kp3
 have a0 : ∀ o',(w3.alloc o').cell? ⟨w.heap.size,0,none⟩ = _ := fun _ => calloc z0
 have a1 : ∀ o',(w3.alloc o').cell? ⟨w.heap.size,1,none⟩ = _ := fun _ => calloc z1
 have a2 : ∀ o',(w3.alloc o').cell? ⟨w.heap.size,2,none⟩ = _ := fun _ => calloc z2
 have a3 : ∀ o',(w3.alloc o').cell? ⟨w.heap.size,3,none⟩ = _ := fun _ => calloc z3
 go_wp2_with fail
 refine Calls.mono (HNew.out _) ?_
 rintro e w4 ⟨gt,be,v0,rfl,hr,hb⟩
 obtain ⟨hb4,kd,hs4⟩ := one_of hb
 have HB4 := Lib.hid (bl HB3.out hb4 HB3.out.size)
 have HBase : Hid (w.heap.size ≤ (w3.alloc (.cells #[.int .i64 (L : Nat),.int .i64 (t : Nat),.int .i64 (k : Nat),.int .u32 (D : Nat)] 97 (0,0))).heap.size) := by have := HB3.out.size; show _ ≤ _; simp; omega
 obtain ⟨base,hbase⟩ : ∃ base,base = (w3.alloc (.cells #[.int .i64 (L : Nat),.int .i64 (t : Nat),.int .i64 (k : Nat),.int .u32 (D : Nat)] 97 (0,0))).heap.size := ⟨_,rfl⟩
 rw [← hbase] at hr HBase
 have HR4 := Lib.hid hr
 obtain ⟨g1,hg1⟩ : ∃ g1,g1 = w3.heap.size := ⟨_,rfl⟩
 obtain ⟨d0,d1,d2,d3⟩ := cells_four kd
 rw [← hg1] at kd d0 d1 d2 d3 ⊢
 have KD4 := Lib.hid kd
 clear hb hb4 hr kp3 z0 z1 z2 z3 a0 a1 a2 a3 hbase kd HB3 hs1 hs4 hg1
 go_wp2_with fail
 refine Calls.mono (HCk.out _) ?_
 rintro e w5 ⟨rfl,hb⟩
 have HR5 := Lib.hid (HR4.out.keep hb)
 have HB5 := Lib.hid (bl HB4.out hb HB4.out.size)
 have KD5 := Lib.hid ((hb.block _ (lt_of_block KD4.out)).trans KD4.out)
 clear hb HR4 HB4 KD4 d0 d1 d2 d3 HFew HSm HCk HNew
 go_wp2
 go_loopw [9,10,58] (fun rv sv iv wr => ∃ (i : Nat) (M v : Value) (C : DataW Unit) (K X : List Rw) (st : Nat) (q : Option Addr) (c : Nat),i ≤ n1 ∧ iv = .int .i64 (i : Nat) ∧ rv = .slice q X.length c ∧ sv = .int .i64 (st : Nat) ∧ X.length ≤ i ∧ Hid (Tkr wr base gt be L t k D i M v C K st) ∧ Hid (Cnts C (i : Int)) ∧ Hid (RefS k t X K) ∧ Hid (StOK k K st) ∧ Hid (RRef w wr q X.length c X) ∧ Hid (Below w.heap.size w wr) ∧ Hid (wr.heap[g1]? = some (.cells #[.int .i64 (L : Nat),.int .i64 (t : Nat),.int .i64 (k : Nat),.int .u32 (D : Nat)] 97 (0,0)))) (fun _ _ iv _ => n1 - (intOf iv).toNat)
 case atStart => exact ⟨0,_,_,_,_,[],0,none,0,Nat.zero_le _,rfl,rfl,rfl,Nat.zero_le _,HR5.out,Cnts.nil,RefS.nil k t,⟨by omega,fun e => by omega⟩,RRef.nil _ _,HB5.out,KD5.out⟩
 case round =>
  obtain ⟨i,M,v,C,K,X,st,q,c,hi,rfl,rfl,rfl,hxi,HR6,HC6,HX6,HS6,HF6,HB6,KD6⟩ := hrel
  clear HR5 HB5 KD5
  by_cases hlt : i < n1
  ·obtain ⟨bb,oo,qx,mx,cx,xs,rfl,hcd,hsd,hxd⟩ := H1.out.at i hlt
   have hcd6 := (HB6.out.cell (lt_of_cell hcd)).trans hcd
   have HXS := Lib.hid hsd
   have hmx : xs.length ≤ 800 := few_len19 HFw.out hxd.out
   have hmb : Room mx := by have := hsd.len; unfold Room; omega
   have hi30 : i < 30 := by
    have := HFw.out
    rw [Bool.and_eq_true] at this
    have := of_decide_eq_true this.2
    omega
   have hlt' : (i : Int) < (n1 : Int) := by omega
   have HLT := Lib.hid hlt
   clear hcd hsd hxd hlt hmx
   go_wp2_with fail
   refine Calls.mono (TClone_any base gt be L t k D i M v C K st wr HR6.out) ?_
   rintro e w2 ⟨gt2,be2,v2,rfl,hk2,hb⟩
   have HB2 := Lib.hid hb
   have HK2 := Lib.hid hk2
   clear hb hk2
   go_wp2_with fail
   refine Calls.mono (TTake_any wr.heap.size gt2 be2 L t k D i M v2 C K st qx mx cx xs _ HK2.out (HT.out.keep (bl HB6.out HB2.out HB6.out.size)) (by omega) (HXS.out.keep (bl HB6.out HB2.out HB6.out.size)) hmb) ?_
   rintro e w3 ⟨rfl,M3,v3,-,hch,-⟩
   have HB3 := Lib.hid (HB2.out.trans (hch.below HK2.out (Nat.le_refl _) HB2.out.size))
   clear hch HK2 HB2
   have HW3 := Lib.hid (bl HB6.out HB3.out HB6.out.size)
   have HR3 := Lib.hid (HR6.out.keep HB3.out)
   have HF3 := Lib.hid (HF6.out.keep HB3.out)
   have KD3 := Lib.hid ((HB3.out.block _ (lt_of_block KD6.out)).trans KD6.out)
   clear HR6 HF6 KD6 HB6 HB3
   go_wp2_with fail
   refine Calls.mono (TTake_any base gt be L t k D i M v C K st qx mx cx xs w3 HR3.out (HT.out.keep HW3.out) (by omega) (HXS.out.keep HW3.out) hmb) ?_
   rintro e w4 ⟨rfl,M4,v4,hk4,hch,-⟩
   have HR4 := Lib.hid hk4
   have HW4 := Lib.hid (HW3.out.trans (hch.below HR3.out HBase.out HW3.out.size))
   have HF4 := Lib.hid (HF3.out.keepS (hch.keepS HR3.out))
   have KD4 : Hid (w4.heap[g1]? = some (.cells #[.int .i64 (L : Nat),.int .i64 (t : Nat),.int .i64 (k : Nat),.int .u32 (D : Nat)] 97 (0,0))) := hch.blk HR3.out KD3.out (by decide) (by decide) (by decide)
   have HC4 := Lib.hid (HC6.out.bump (readC k t D xs) trivial)
   obtain ⟨hx4,hz4⟩ := HX6.out.take (D := D) (st := st) xs
   have HS4 := Lib.hid (HS6.out.take (t := t) (D := D) xs)
   have hxl4 := refX_len k t D X st xs
   clear hk4 hch HR3 HF3 KD3 HW3 HC6
   obtain ⟨d0,d1,d2,d3⟩ := cells_four KD4.out
   go_wp2_with fail
   refine Calls.mono (RTake19_any L t k D q X.length c X st qx mx cx xs w w4 HP.out HW4.out HF4.out HXS.out HX6.out.fit (by omega)) ?_
   rintro e w5 ⟨q5,n5,c5,rfl,hf5,hb⟩
   rw [hz4] at *
   have HX5 := Lib.hid hx4
   generalize refX k t D X st xs = X5 at *
   generalize takeK k t D K st xs = K5 at *
   generalize takeS k t D K st xs = st5 at *
   generalize readC k t D xs = code at *
   obtain rfl : X5.length = n5 := hf5.len
   have HF5 := Lib.hid hf5
   have HR5 := Lib.hid (HR4.out.keep hb)
   have HW5 := Lib.hid (bl HW4.out hb HW4.out.size)
   have KD5 := Lib.hid ((hb.block _ (lt_of_block KD4.out)).trans KD4.out)
   generalize bump C code = C5 at *
   clear hf5 hb hx4 hz4 HR4 HF4 KD4 HW4 d0 d1 d2 d3 HX6 HS6 HXS
   have HXL : Hid (X5.length ≤ 31) := by show _ ≤ _; omega
   have HRW : Hid (∀ W,Below w5.heap.size w5 W → Calls Tryz.prog 50 #[.slice q5 X5.length c5] W (RetKN W K5)) := fun W hW => RRows19 HX5.out HK12.out HT20.out HXL.out (HF5.out.keep hW) (bl HW5.out hW HW5.out.size)
   have hwi : wrap64 ((i : Int) + 1) = (i : Int) + 1 := by unfold wrap64; omega
   go_wp2_with fail
   refine Calls.mono (TStatus_any base gt be L t k D (i + 1) M4 _ C5 K5 st5 w5 HR5.out) ?_
   rintro e w6 ⟨rfl,rfl⟩
   go_wp2_with fail
   refine Calls.mono (TGate_any base gt be L t k D (i + 1) M4 _ C5 K5 st5 w5 HR5.out) ?_
   rintro e w6 ⟨rfl,hb⟩
   have HB6 := Lib.hid hb
   clear hb
   go_wp2_with fail
   refine Calls.mono (GSeen_any L t k D (i + 1) M4 C5 ((i : Int) + 1) w6 (HR5.out.cnt.keep HB6.out) HC4.out) ?_
   rintro e w7 ⟨rfl,hb⟩
   have HB7 := Lib.hid (bl HB6.out hb HB6.out.size)
   clear hb HB6
   rw [hwi]
   go_wp2_with fail
   refine Calls.mono (TRank_any base gt be L t k D (i + 1) M4 _ C5 K5 st5 w7 (HR5.out.keep HB7.out)) ?_
   rintro e w8 ⟨rfl,rfl⟩
   go_wp2_with fail
   refine Calls.mono (HRW.out _ HB7.out) ?_
   rintro e w8 ⟨q8,n8,c8,rfl,rfl,-,hb,-⟩
   have HB8 := Lib.hid (bl HB7.out hb HB7.out.size)
   clear hb HB7
   go_wp2_with fail
   refine Calls.mono (TRows_any base gt be L t k D (i + 1) M4 _ C5 K5 st5 w8 (HR5.out.keep HB8.out)) ?_
   rintro e w9 ⟨v9,rfl,hr9,hb⟩
   obtain ⟨q9,c9,rfl⟩ := hr9.shape
   have HB9 := Lib.hid (bl HB8.out hb HB8.out.size)
   have HR9 := Lib.hid hr9.rwS
   clear hb HB8 hr9
   go_wp2_with fail
   refine Calls.mono (HRW.out _ HB9.out) ?_
   rintro e wa ⟨qa,na,ca,rfl,rfl,hra,hb,-⟩
   have HBa := Lib.hid (bl HB9.out hb HB9.out.size)
   have HRa := Lib.hid hra
   have HR9a := Lib.hid (HR9.out.keep hb)
   clear hb HB9 hra HR9
   go_wp2_with fail
   refine Calls.mono (Same8_any q9 qa K5.length c9 ca K5 wa HR9a.out HRa.out) ?_
   rintro e wb ⟨rfl,hb⟩
   have HBb := Lib.hid (bl HBa.out hb HBa.out.size)
   clear hb HBa HRa HR9a HRW
   have HRb := Lib.hid (HR5.out.keep HBb.out)
   have HFb := Lib.hid (HF5.out.keep HBb.out)
   have HWb := Lib.hid (bl HW5.out HBb.out HW5.out.size)
   have KDb := Lib.hid ((HBb.out.block _ (lt_of_block KD5.out)).trans KD5.out)
   clear HR5 HF5 HW5 KD5 HBb
   obtain ⟨d0,d1,d2,d3⟩ := cells_four KDb.out
   go_wp2
   have HKN : Hid (∀ (n : Nat) W,Below wb.heap.size wb W → Calls Tryz.prog 52 #[.slice q5 X5.length c5,.int .i64 (n : Nat)] W (RetK2 W (knownS k K5 n))) := fun n W hW => RKnown19 HX5.out HK12.out HT20.out HXL.out (HFb.out.keep hW) (bl HWb.out hW HWb.out.size) n
   go_loopw [17,18,116] (fun nv kv iv wr => ∃ (j : Nat) (qn : Option Addr) (cn : Nat) (qk : Option Addr) (ck : Nat),j ≤ k ∧ iv = .int .i64 (j : Nat) ∧ nv = .slice qn (knN k K5 j).length cn ∧ kv = .slice qk (knN k K5 j).length ck ∧ Hid (OwnQ IsI64 wr wb.heap.size 3 (.slice qn (knN k K5 j).length cn) (knN k K5 j).length ((knN k K5 j).map encN)) ∧ Hid (KnL 22 wr wb.heap.size (.slice qk (knN k K5 j).length ck) (knN k K5 j).length ((knN k K5 j).map (knP k K5))) ∧ Hid (Below wb.heap.size wb wr)) (fun _ _ iv _ => k - (intOf iv).toNat)
   case atStart => exact ⟨0,none,0,none,0,Nat.zero_le _,rfl,rfl,rfl,OwnQ.nil _ _ _ _,KnL.nil _ _ _,Below.refl _ _⟩
   case round =>
    obtain ⟨j,qn,cn,qk,ck,hj,rfl,rfl,rfl,HN,HK,HB⟩ := hrel
    by_cases hjk : j < k
    ·have hjk' : (j : Int) < (k : Int) := by omega
     have HJK := Lib.hid hjk
     clear hjk d0 d1 d2 d3
     go_wp2_with fail
     refine Calls.mono (HKN.out j _ HB.out) ?_
     rintro e wc ⟨qs,ms,cs,rfl,hss,hb⟩
     have HBc := Lib.hid (bl HB.out hb HB.out.size)
     have HNc := Lib.hid (HN.out.keep hb)
     have HKc := Lib.hid (HK.out.keep hb)
     have HSS : Hid (Sl B8 wc qs ms cs (knP k K5 j)) := hss
     have hml := knN_len k K5 j
     clear hb HB HN HK hss
     by_cases hkn : knS k K5 j = true
     ·have hkn' : (knownS k K5 j).2 = true := hkn
      have HY := Lib.hid (knN_yes hkn)
      have hbw := HBc.out.size
      have hj100 : j ≤ 100000 := by have := HJK.out; have := HK12.out; omega
      have c1 := app_ok1 hml hj100
      have c8 := app_ok8 hml hj100
      have c24 := app_ok24 hml hj100
      rw [hkn']
      clear hkn hkn'
      generalize hG : (knN k K5 j).length = m at *
      have HG := Lib.hid hG
      clear hG
      have ba : Below wc.heap.size wc (wc.alloc (.cells #[.int .i64 (j : Nat)] 3)) := al (Below.refl _ _) (Nat.le_refl _)
      have oA := HNc.out.keep ba
      have kA := HKc.out.keep ba
      have hcell : (wc.alloc (.cells #[.int .i64 (j : Nat)] 3)).cell? ⟨wc.heap.size,0,none⟩ = some (.int .i64 (j : Nat)) := cell_of_row _ _ 0 _ _ _ (hnew rfl)
      have bs := size_alloc_le (o := .cells #[.int .i64 (j : Nat)] 3) hbw
      have HBA := Lib.hid (bl HBc.out ba hbw)
      have SSA := Lib.hid (HSS.out.keep ba)
      go_wp2_with (at_builtin; refine wpList_append_q IsI64 _ rfl (.tmp 126) (.tmp 128) 109 rfl wb.heap.size 3 i0 (.int .i64 0) 8 Tryz.underlying109 hi0 iz0 iz1 iz2 rfl ⟨_,rfl⟩ _ m _ rfl oA ⟨wc.heap.size,0,none⟩ 1 (.int .i64 (j : Nat)) rfl hcell rfl rfl ⟨_,rfl⟩ c1 c8 bs ?_)
      intro vd wd hod hgd
      have KD := Lib.hid (kA.other oA isI64_far hgd (by decide))
      have SSD := Lib.hid (oA.far isI64_far hgd SSA.out)
      have HBD := Lib.hid (HBA.out.grown hgd bs (fun kk hk => (oA.row.lt kk hk).1))
      obtain ⟨qn2,cn2,rfl⟩ := owns_shape hod.row
      have HOD := Lib.hid hod
      clear hod hgd oA kA hcell ba bs HNc HKc HBA SSA hbw HSS
      have hbw2 := HBD.out.size
      have ba : Below wd.heap.size wd (wd.alloc (.cells #[.slice qs ms cs] 22)) := al (Below.refl _ _) (Nat.le_refl _)
      obtain ⟨vs,oK,lK,rK⟩ := (KD.out.keep ba).ex
      have oN := HOD.out.keep ba
      have hcell : (wd.alloc (.cells #[.slice qs ms cs] 22)).cell? ⟨wd.heap.size,0,none⟩ = some (.slice qs ms cs) := cell_of_row _ _ 0 _ _ _ (hnew rfl)
      have bs := size_alloc_le (o := .cells #[.slice qs ms cs] 22) hbw2
      have HBA := Lib.hid (bl HBD.out ba hbw2)
      have SSA := Lib.hid (SSD.out.keep ba)
      go_wp2_with (at_builtin; refine wpList_append_q IsSlv _ rfl (.tmp 130) (.tmp 132) 31 rfl wb.heap.size 22 s0 (.slice none 0 0) 24 Tryz.underlying31 hs0 sz0 sz1 sz2 rfl ⟨_,_,_,rfl⟩ _ m _ rfl oK ⟨wd.heap.size,0,none⟩ 1 (.slice qs ms cs) rfl hcell rfl rfl ⟨_,_,_,rfl⟩ c1 c24 bs ?_)
      intro ve we hoe hge
      have HNE0 := Lib.hid (oN.other oK hge (by decide))
      have HKE0 := Lib.hid (KnL.push oK lK rK SSA.out hoe hge)
      have HBE := Lib.hid (HBA.out.grown hge bs (fun kk hk => (oK.row.lt kk hk).1))
      obtain ⟨qk2,ck2,rfl⟩ := owns_shape hoe.row
      have HL1 : Hid ((knN k K5 (j + 1)).length = m + 1) := by show _ = _; rw [HY.out,List.length_append,HG.out]; rfl
      have HNE : Hid (OwnQ IsI64 we wb.heap.size 3 (.slice qn2 (m + 1) cn2) (m + 1) ((knN k K5 (j + 1)).map encN)) := by rw [HY.out,List.map_append]; exact HNE0.out
      have HKE : Hid (KnL 22 we wb.heap.size (.slice qk2 (m + 1) ck2) (m + 1) ((knN k K5 (j + 1)).map (knP k K5))) := by rw [HY.out,List.map_append]; exact HKE0.out
      clear hoe hge oK oN lK rK hcell ba bs HOD KD SSD HBD HBA SSA hbw2 HNE0 HKE0 c1 c8 c24
      go_wp2
      go_roundw
      case rel => exact ⟨j + 1,qn2,cn2,qk2,ck2,HJK.out,by go_num,by rw [HL1.out],by rw [HL1.out],by rw [HL1.out]; exact HNE.out,by rw [HL1.out]; exact HKE.out,HBE.out⟩
      case measure => simp [intOf]; have := HJK.out; omega
     ·have hkn' : (knownS k K5 j).2 = false := by cases h : (knownS k K5 j).2 with
       | false => rfl
       | true => exact absurd h hkn
      have HY : Hid (knN k K5 (j + 1) = knN k K5 j) := knN_no hkn'
      have hj100 : j ≤ 100000 := by have := HJK.out; have := HK12.out; omega
      clear hkn
      rw [hkn']
      clear hkn'
      go_wp2
      go_roundw
      case rel => exact ⟨j + 1,qn,cn,qk,ck,HJK.out,by go_num,by rw [HY.out],by rw [HY.out],by rw [HY.out]; exact HNc.out,by rw [HY.out]; exact HKc.out,HBc.out⟩
      case measure => simp [intOf]; have := HJK.out; omega
    ·obtain rfl : j = k := by omega
     have HNS := Lib.hid (Sl.of_owns HN.out.row)
     have HKS := Lib.hid HK.out.sl2
     have HBw := Lib.hid HB.out
     have HRd := Lib.hid (HRb.out.keep HB.out)
     have HWd := Lib.hid (bl HWb.out HB.out HWb.out.size)
     have HFd := Lib.hid (HFb.out.keep HB.out)
     have KDd := Lib.hid ((HB.out.block _ (lt_of_block KDb.out)).trans KDb.out)
     clear hjk HN HK HB HRb HWb HFb KDb d0 d1 d2 d3 HKN
     obtain ⟨d0,d1,d2,d3⟩ := cells_four KDd.out
     go_wp2_with fail
     refine Calls.mono (RFill19 HP.out HK12.out HT20.out HRd.out HNS.out HKS.out) ?_
     rintro e w11 ⟨qw,cw,qi,ci,rfl,hw1,hw2,hb⟩
     have HRe := Lib.hid (HRd.out.keep hb)
     have HFe := Lib.hid (HFd.out.keep hb)
     have HWe := Lib.hid (bl HWd.out hb HWd.out.size)
     have KDe := Lib.hid ((hb.block _ (lt_of_block KDd.out)).trans KDd.out)
     have HW1 := Lib.hid hw1
     have HW2 := Lib.hid hw2
     clear hb hw1 hw2 HRd HFd HWd KDd d0 d1 d2 d3 HNS HKS HBw
     go_wp2_with fail
     refine Calls.mono (TSome19 HK12.out HT20.out HRe.out) ?_
     rintro e w12 ⟨qs,cs,qh,ch,rfl,hs1,hs2,hb⟩
     have HRf := Lib.hid (HRe.out.keep hb)
     have HFf := Lib.hid (HFe.out.keep hb)
     have HWf := Lib.hid (bl HWe.out hb HWe.out.size)
     have KDf := Lib.hid ((hb.block _ (lt_of_block KDe.out)).trans KDe.out)
     have HW1f := Lib.hid (HW1.out.keep hb)
     have HW2f := Lib.hid (HW2.out.keep hb)
     have HS1 := Lib.hid hs1
     have HS2 := Lib.hid hs2
     clear hb hs1 hs2 HRe HFe HWe KDe HW1 HW2
     have hst : st5 = 0 ∨ st5 = 1 ∨ st5 = 2 := by have := HS4.out.1; omega
     rcases hst with rfl | rfl | rfl
     ·as_aux_lemma => (
      go_wp2_with fail
      refine Calls.mono (TObject_none base gt be L t j D (i + 1) M4 _ C5 K5 0 w12 HRf.out (.inl rfl)) ?_
      rintro e w13 ⟨rfl,rfl⟩
      rw [show objC 0 = 12 from rfl]
      have HRg := HRf; have HFg := HFf; have HWg := HWf; have KDg := KDf
      have HW1g := HW1f; have HW2g := HW2f; have HS1g := HS1; have HS2g := HS2
      clear HRf HFf HWf KDf HW1f HW2f HS1 HS2
      go_wp2_with fail
      refine Calls.mono (Same_eq _ _ _ _ _ _ _ _ HS1g.out HW1g.out) ?_
      rintro e w14 ⟨rfl,hb⟩
      have HS2h := Lib.hid (HS2g.out.keep hb)
      have HW2h := Lib.hid (HW2g.out.keep hb)
      have HBx := Lib.hid hb
      clear hb HS2g HW2g
      go_wp2_with fail
      refine Calls.mono (EqB_same _ _ _ _ _ _ _ HS2h.out HW2h.out) ?_
      rintro e w15 ⟨rfl,hb⟩
      have HBz := Lib.hid (bl HBx.out hb HBx.out.size)
      clear hb HBx HS2h HW2h
      have HBy := Lib.hid HBz.out
      clear HBz
      have HRz := Lib.hid (HRg.out.keep HBy.out)
      have HFz := Lib.hid (HFg.out.keep HBy.out)
      have HWz := Lib.hid (bl HWg.out HBy.out HWg.out.size)
      have KDz := Lib.hid ((HBy.out.block _ (lt_of_block KDg.out)).trans KDg.out)
      have hil : X5.length ≤ i + 1 := by have := hxl4; omega
      clear HRg HFg HWg KDg HBy HS1g HW1g
      go_wp2
      go_roundw
      case rel => exact ⟨i + 1,M4,_,C5,K5,X5,_,q5,c5,HLT.out,by go_num,rfl,rfl,hil,HRz.out,by show Cnts C5 ((i + 1 : Nat) : Int); have := HC4.out; simpa using this,HX5.out,HS4.out,HFz.out,HWz.out,KDz.out⟩
      case measure => simp [intOf]; have := HLT.out; omega
      )
     ·as_aux_lemma => (
      go_wp2_with fail
      refine Calls.mono (TObject19 HRf.out (HS4.out.2 rfl)) ?_
      rintro e w13 ⟨qo,mo,co,rfl,ho,hb⟩
      have HRg := Lib.hid (HRf.out.keep hb)
      have HFg := Lib.hid (HFf.out.keep hb)
      have HWg := Lib.hid (bl HWf.out hb HWf.out.size)
      have KDg := Lib.hid ((hb.block _ (lt_of_block KDf.out)).trans KDf.out)
      have HW1g := Lib.hid (HW1f.out.keep hb)
      have HW2g := Lib.hid (HW2f.out.keep hb)
      have HS1g := Lib.hid (HS1.out.keep hb)
      have HS2g := Lib.hid (HS2.out.keep hb)
      have HO := Lib.hid ho
      clear hb ho HRf HFf HWf KDf HW1f HW2f HS1 HS2
      go_wp2_with fail
      refine Calls.mono (Same_eq _ _ _ _ _ _ _ _ HS1g.out HW1g.out) ?_
      rintro e w14 ⟨rfl,hb⟩
      have HS2h := Lib.hid (HS2g.out.keep hb)
      have HW2h := Lib.hid (HW2g.out.keep hb)
      have HBx := Lib.hid hb
      clear hb HS2g HW2g
      go_wp2_with fail
      refine Calls.mono (EqB_same _ _ _ _ _ _ _ HS2h.out HW2h.out) ?_
      rintro e w15 ⟨rfl,hb⟩
      have HBz := Lib.hid (bl HBx.out hb HBx.out.size)
      clear hb HBx HS2h HW2h
      go_wp2_with fail
      refine Calls.mono (Same_eq _ _ _ _ _ _ _ _ (HO.out.keep HBz.out) (HW1g.out.keep HBz.out)) ?_
      rintro e w16 ⟨rfl,hb⟩
      have HBy := Lib.hid (bl HBz.out hb HBz.out.size)
      clear hb HBz HO
      have HRz := Lib.hid (HRg.out.keep HBy.out)
      have HFz := Lib.hid (HFg.out.keep HBy.out)
      have HWz := Lib.hid (bl HWg.out HBy.out HWg.out.size)
      have KDz := Lib.hid ((HBy.out.block _ (lt_of_block KDg.out)).trans KDg.out)
      have hil : X5.length ≤ i + 1 := by have := hxl4; omega
      clear HRg HFg HWg KDg HBy HS1g HW1g
      go_wp2
      go_roundw
      case rel => exact ⟨i + 1,M4,_,C5,K5,X5,_,q5,c5,HLT.out,by go_num,rfl,rfl,hil,HRz.out,by show Cnts C5 ((i + 1 : Nat) : Int); have := HC4.out; simpa using this,HX5.out,HS4.out,HFz.out,HWz.out,KDz.out⟩
      case measure => simp [intOf]; have := HLT.out; omega
      )
     ·as_aux_lemma => (
      go_wp2_with fail
      refine Calls.mono (TObject_none base gt be L t j D (i + 1) M4 _ C5 K5 2 w12 HRf.out (.inr rfl)) ?_
      rintro e w13 ⟨rfl,rfl⟩
      rw [show objC 2 = 13 from rfl]
      have HRg := HRf; have HFg := HFf; have HWg := HWf; have KDg := KDf
      have HW1g := HW1f; have HW2g := HW2f; have HS1g := HS1; have HS2g := HS2
      clear HRf HFf HWf KDf HW1f HW2f HS1 HS2
      go_wp2_with fail
      refine Calls.mono (Same_eq _ _ _ _ _ _ _ _ HS1g.out HW1g.out) ?_
      rintro e w14 ⟨rfl,hb⟩
      have HS2h := Lib.hid (HS2g.out.keep hb)
      have HW2h := Lib.hid (HW2g.out.keep hb)
      have HBx := Lib.hid hb
      clear hb HS2g HW2g
      go_wp2_with fail
      refine Calls.mono (EqB_same _ _ _ _ _ _ _ HS2h.out HW2h.out) ?_
      rintro e w15 ⟨rfl,hb⟩
      have HBz := Lib.hid (bl HBx.out hb HBx.out.size)
      clear hb HBx HS2h HW2h
      have HBy := Lib.hid HBz.out
      clear HBz
      have HRz := Lib.hid (HRg.out.keep HBy.out)
      have HFz := Lib.hid (HFg.out.keep HBy.out)
      have HWz := Lib.hid (bl HWg.out HBy.out HWg.out.size)
      have KDz := Lib.hid ((HBy.out.block _ (lt_of_block KDg.out)).trans KDg.out)
      have hil : X5.length ≤ i + 1 := by have := hxl4; omega
      clear HRg HFg HWg KDg HBy HS1g HW1g
      go_wp2
      go_roundw
      case rel => exact ⟨i + 1,M4,_,C5,K5,X5,_,q5,c5,HLT.out,by go_num,rfl,rfl,hil,HRz.out,by show Cnts C5 ((i + 1 : Nat) : Int); have := HC4.out; simpa using this,HX5.out,HS4.out,HFz.out,HWz.out,KDz.out⟩
      case measure => simp [intOf]; have := HLT.out; omega
      )
  ·obtain rfl : i = n1 := by omega
   clear hlt
   go_wp2
   go_ret
   exact ⟨rfl,HB6.out⟩
end Go.Proofs.YtfbmdlfkipipfaaGreatDoor
namespace Go.Proofs.YtfbmdlfkipipfaaGreatDoor
open Go.RowKit Go.By Go.Maps
set_option maxRecDepth 100000 in
set_option maxHeartbeats 4000000 in
theorem TakerTakes_out (l s n d : Int) (p1 : Option Addr) (n1 c1 : Nat) (xss : List (List UInt8)) (w : World) (hl : l ≤ 9223372036854775807) (h1 : Sl2 w p1 n1 c1 xss) (hT : HalfT w)
  (hx : ((xss.all (fun y => decide (y.length ≤ 800)) && decide (n1 ≤ 30)) && small19 l s n) = false) :
  Calls Tryz.prog 8 #[.agg #[.int .i64 l,.int .i64 s,.int .i64 n,.int .u32 d],.slice p1 n1 c1] w fun e w' => e = .returned (.bool true) ∧ Below w.heap.size w w' := by
 have HT := Lib.hid hT
 have HFew : Hid (∀ w,Sl2 w p1 n1 c1 xss → Calls Tryz.prog 44 #[.slice p1 n1 c1] w fun e w' => e = .returned (.bool (xss.all (fun y => decide (y.length ≤ 800)) && decide (n1 ≤ 30))) ∧ w = w') := fun w h => Few18_any p1 n1 c1 xss w h
 have HSm := Lib.hid (fun w => Small19_any l s n d w hl)
 generalize (xss.all (fun y => decide (y.length ≤ 800)) && decide (n1 ≤ 30)) = F at *
 generalize small19 l s n = S at *
 have H1 := Lib.hid h1
 clear hT h1
 cases F with
 | false =>
  clear hx
  go_enter Tryz.func8,Tryz.ntmps8
  go_wp2_with fail
  refine Calls.mono (awake19 _ (HT.out.keep (al (Below.refl _ _) (Nat.le_refl _)))) ?_
  rintro e w1 ⟨rfl,hb⟩
  have HB1 := Lib.hid (one_of hb).1
  clear hb
  go_wp2_with fail
  refine Calls.mono (HFew.out _ (H1.out.keep HB1.out)) ?_
  rintro e w2 ⟨rfl,rfl⟩
  go_wp2
  go_ret
  exact ⟨rfl,HB1.out⟩
 | true =>
  cases S with
  | false =>
   clear hx
   go_enter Tryz.func8,Tryz.ntmps8
   go_wp2_with fail
   refine Calls.mono (awake19 _ (HT.out.keep (al (Below.refl _ _) (Nat.le_refl _)))) ?_
   rintro e w1 ⟨rfl,hb⟩
   obtain ⟨hb1,kp,hs1⟩ := one_of hb
   have HB1 := Lib.hid hb1
   clear hb hb1
   go_wp2_with fail
   refine Calls.mono (HFew.out _ (H1.out.keep HB1.out)) ?_
   rintro e w2 ⟨rfl,rfl⟩
   obtain ⟨z0,z1,z2,z3⟩ := cells_four kp
   go_wp2_with fail
   refine Calls.mono (HSm.out _) ?_
   rintro e w3 ⟨rfl,hb⟩
   have HB3 := Lib.hid (bl HB1.out hb HB1.out.size)
   clear hb z0 z1 z2 z3 kp HB1
   go_wp2
   go_ret
   exact ⟨rfl,HB3.out⟩
  | true => cases hx
set_option maxRecDepth 100000 in
set_option maxHeartbeats 4000000 in
theorem TakerTakes_bad (l s n d : Int) (p1 : Option Addr) (n1 c1 : Nat) (xss : List (List UInt8)) (w : World) (hl : l ≤ 9223372036854775807) (h1 : Sl2 w p1 n1 c1 xss) (hT : HalfT w)
  (hfew : (xss.all (fun y => decide (y.length ≤ 800)) && decide (n1 ≤ 30)) = true) (hc : checkS l s n ≠ 0) :
  Calls Tryz.prog 8 #[.agg #[.int .i64 l,.int .i64 s,.int .i64 n,.int .u32 d],.slice p1 n1 c1] w fun e w' => e = .returned (.bool true) ∧ Below w.heap.size w w' := by
 have HT := Lib.hid hT
 have HFew : Hid (∀ w,Sl2 w p1 n1 c1 xss → Calls Tryz.prog 44 #[.slice p1 n1 c1] w fun e w' => e = .returned (.bool true) ∧ w = w') := fun w h => by have := Few18_any p1 n1 c1 xss w h; rw [hfew] at this; exact this
 have hsm : small19 l s n = true := by unfold small19; rw [if_neg hc]
 have HSm : Hid (∀ w,Calls Tryz.prog 29 #[.agg #[.int .i64 l,.int .i64 s,.int .i64 n,.int .u32 d]] w fun e w' => e = .returned (.bool true) ∧ Below w.heap.size w w') := fun w => by have := Small19_any l s n d w hl; rw [hsm] at this; exact this
 have HNew := Lib.hid (fun w => TNew_bad l s n d w hl hc)
 have HCk := Lib.hid (fun w => RCheck_any l s n d w hl)
 have hz : (checkS l s n != 0) = true := bne_iff_ne.2 hc
 generalize checkS l s n = C at *
 have H1 := Lib.hid h1
 clear hT h1 hsm hc hfew
 go_enter Tryz.func8,Tryz.ntmps8
 go_wp2_with fail
 refine Calls.mono (awake19 _ (HT.out.keep (al (Below.refl _ _) (Nat.le_refl _)))) ?_
 rintro e w1 ⟨rfl,hb⟩
 obtain ⟨hb1,kp,hs1⟩ := one_of hb
 have HB1 := Lib.hid hb1
 clear hb hb1
 go_wp2_with fail
 refine Calls.mono (HFew.out _ (H1.out.keep HB1.out)) ?_
 rintro e w2 ⟨rfl,rfl⟩
 obtain ⟨z0,z1,z2,z3⟩ := cells_four kp
 go_wp2_with fail
 refine Calls.mono (HSm.out _) ?_
 rintro e w3 ⟨rfl,hb⟩
 have HB3 := Lib.hid (bl HB1.out hb HB1.out.size)
 have kp3 := (hb.block _ (lt_of_block kp)).trans kp
 clear hb z0 z1 z2 z3 kp HB1
 obtain ⟨z0,z1,z2,z3⟩ := cells_four kp3
 have a0 : ∀ o',(w3.alloc o').cell? ⟨w.heap.size,0,none⟩ = _ := fun _ => calloc z0
 have a1 : ∀ o',(w3.alloc o').cell? ⟨w.heap.size,1,none⟩ = _ := fun _ => calloc z1
 have a2 : ∀ o',(w3.alloc o').cell? ⟨w.heap.size,2,none⟩ = _ := fun _ => calloc z2
 have a3 : ∀ o',(w3.alloc o').cell? ⟨w.heap.size,3,none⟩ = _ := fun _ => calloc z3
 go_wp2_with fail
 refine Calls.mono (HNew.out _) ?_
 rintro e w4 ⟨rfl,hb⟩
 obtain ⟨hb4,kd,hs4⟩ := one_of hb
 have HB4 := Lib.hid (bl HB3.out hb4 HB3.out.size)
 obtain ⟨d0,d1,d2,d3⟩ := cells_four kd
 clear hb hb4 kp3 z0 z1 z2 z3 a0 a1 a2 a3 kd HB3 hs1 hs4
 go_wp2_with fail
 refine Calls.mono (HCk.out _) ?_
 rintro e w5 ⟨rfl,hb⟩
 have HB5 := Lib.hid (bl HB4.out hb HB4.out.size)
 clear hb HB4 d0 d1 d2 d3
 go_wp2
 go_ret
 exact ⟨rfl,HB5.out⟩
theorem TakerTakes_any (l s n d : Int) (p1 : Option Addr) (n1 c1 : Nat) (xss : List (List UInt8)) (w : World) (w0 : (Lit.int .i64 l).wf = true) (_w1 : (Lit.int .i64 s).wf = true) (_w2 : (Lit.int .i64 n).wf = true) (w3 : (Lit.int .u32 d).wf = true) (h1 : Sl2 w p1 n1 c1 xss) (hT : HalfT w) :
  Calls Tryz.prog 8 #[.agg #[.int .i64 l,.int .i64 s,.int .i64 n,.int .u32 d],.slice p1 n1 c1] w fun e w' => e = .returned (.bool true) ∧ Below w.heap.size w w' := by
 have hl := (Go.bounds_i64 w0).2
 have hd := Go.bounds_u32 w3
 by_cases hx : ((xss.all (fun y => decide (y.length ≤ 800)) && decide (n1 ≤ 30)) && small19 l s n) = false
 ·exact TakerTakes_out l s n d p1 n1 c1 xss w hl h1 hT hx
 ·rw [Bool.not_eq_false,Bool.and_eq_true] at hx
  obtain ⟨hfew,hsm⟩ := hx
  by_cases hc : checkS l s n = 0
  ·obtain ⟨L,t,k,D,rfl,rfl,rfl,rfl,hP⟩ := pok_of hl hc hd.1 (by omega)
   have hsm' := hsm
   unfold small19 at hsm'
   rw [if_pos hc,Bool.and_eq_true] at hsm'
   have h12 := of_decide_eq_true hsm'.1
   have h20 := of_decide_eq_true hsm'.2
   exact TakerTakes_core L t k D p1 n1 c1 xss w hP (by omega) (by omega) hfew hsm h1 hT
  ·exact TakerTakes_bad l s n d p1 n1 c1 xss w hl h1 hT hfew hc
end Go.Proofs.YtfbmdlfkipipfaaGreatDoor
namespace Go.By
open Go.RowKit
theorem spot_none {w : World} {x : Addr} {v : Value} (h : w.cell? (x.add 0) = some v) : ∃ b o,x = ⟨b,o,none⟩ := by
 obtain ⟨b,off,spot⟩ := x
 have hspot : spot = none := by simpa [Addr.add] using World.cell?_spot h
 subst hspot
 exact ⟨b,off,rfl⟩
theorem sl2_of_rows {w : World} {a : Option Addr} {len cap : Nat} (hl : len ≤ cap) (hm : cap ≤ maxLen) (hn : a = none → len = 0 ∧ cap = 0) (A : Nat → Option Addr) (L C : Nat → Nat) (Z : Nat → List Int)
  (h : ∀ x,a = some x → ∀ r,r < cap → w.cell? (x.add r) = some (.slice (A r) (L r) (C r)) ∧ L r ≤ C r ∧ C r ≤ maxLen ∧ (Z r).length = C r ∧ (∀ n ∈ Z r,(Lit.int .u8 n).wf = true) ∧ (A r = none → C r = 0) ∧
    ∀ a',A r = some a' → ∀ c,c < C r → w.cell? (a'.add c) = some (.int .u8 ((Z r).getD c 0))) : ∃ xss,Sl2 w a len cap xss := by
 have each : ∀ r,∃ xs,r < len → Sl B8 w (A r) (L r) (C r) xs := by
  intro r
  by_cases hr : r < len
  ·cases ha : a with
   | none => have := hn ha; omega
   | some x =>
    obtain ⟨_,h1,h2,h3,h4,h5,h6⟩ := h x ha r (by omega)
    cases hA : A r with
    | none =>
     have := h5 hA
     have hL : L r = 0 := by omega
     exact ⟨[],fun _ => by rw [hL,this]; exact Sl.nil0 _ _⟩
    | some a' =>
     obtain ⟨xs,hx⟩ := sl_of_row (w := w) (a := some a') (len := L r) (cap := C r) (zs := Z r) (.inr ⟨a',rfl,h1,h2,h3,fun i hi => h6 a' hA i (by omega),h4⟩)
     exact ⟨xs,fun _ => hx⟩
  ·exact ⟨[],fun h => absurd h hr⟩
 refine ⟨(List.range len).map fun r => Classical.choose (each r),⟨by simp,hl,hm,hn,?_⟩⟩
 intro i xs hi
 obtain ⟨hi',e⟩ := List.getElem?_eq_some_iff.1 hi
 simp at hi' e
 have hs := Classical.choose_spec (each i) hi'
 rw [e] at hs
 cases ha : a with
 | none => have := hn ha; omega
 | some x =>
  obtain ⟨hc,_⟩ := h x ha i (by omega)
  obtain ⟨b,o,rfl⟩ := spot_none (h x ha 0 (by omega)).1
  rw [Addr.add_lit] at hc
  exact ⟨b,o,A i,C i,rfl,by rw [hs.len]; exact hc,by rw [hs.len]; exact hs⟩
end Go.By
namespace Go.Proofs.YtfbmdlfkipipfaaGreatDoor
open Go.RowKit Go.By
theorem halves_of {rest : List (String × DataW Unit)} {W : World} (h : laidMet Tryz.prog (("wellspring/sum.halves", Rows.laid_wellspring_sum_halves) :: rest) W) : HalfT W := by
 obtain ⟨zs,hz,hzl,hzc⟩ : ∃ zs : List Int,(Rows.laid_wellspring_sum_halves : DataW Unit) = Lib.tabData .u32 zs ∧ zs.length = 16 ∧ ∀ i,i < 16 → zs.getD i 0 = ((crcTab.getD i 0 : Nat) : Int) := ⟨[0,498536548,997073096,651767980,1994146192,1802195444,1303535960,1342533948,3988292384,4027552580,3604390888,3412177804,2607071920,2262029012,2685067896,3183342108],rfl,rfl,by decide⟩
 rw [hz] at h
 have h3 := Lib.tabIs_of_head (g := 0) (t := 291) (e := 23) (n := 16) (by kernel_rfl) (by kernel_rfl) (by kernel_rfl) (by kernel_rfl) (by kernel_rfl) (by kernel_rfl) h
 intro i hi
 have := h3.cell (g := 0) (by kernel_rfl) i (by omega)
 rw [hzc i hi] at this
 exact this
end Go.Proofs.YtfbmdlfkipipfaaGreatDoor
